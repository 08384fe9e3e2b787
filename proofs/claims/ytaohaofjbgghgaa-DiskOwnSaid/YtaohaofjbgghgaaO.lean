/- What a law's arguments read as, in the words of these proofs: lists of lists of bytes, lists of the law's calls. Each holds for every argument that can be read. -/
import Derived.Test.YtaohaofjbgghgaaD
import Derived.ProofKit
import Derived.OpenShut
import Derived.SizedLaws
import Derived.Deep.Matrix
import Derived.Deep.Slices
namespace Go.Proofs.Ytaohaofjbgghgaa
open Go.ChangeShapes Go.WideShapes Go.ChangeAt Go.RowKit Go.Deep

theorem addr_none {w : World} {a : Addr} {v : Value} (h : w.cell? (a.add 0) = some v) : ∃ b o, a = ⟨b, o, none⟩ := by
  obtain ⟨b, o, s⟩ := a
  cases s with
  | none => exact ⟨b, o, rfl⟩
  | some s =>
    exfalso
    simp only [World.cell?, Addr.add, if_true] at h
    split at h <;> simp_all

def ofNums (zs : List Int) : List UInt8 := zs.map fun n => UInt8.ofNat n.toNat
theorem u8s_ofNums (zs : List Int) (h : ∀ n ∈ zs, (Lit.int .u8 n).wf = true) : u8s (ofNums zs) = zs.map (Value.int .u8) := by
  simp only [u8s, ofNums, List.map_map]
  refine List.map_congr_left fun n hn => ?_
  have hb := bounds_u8 (h n hn)
  simp only [Function.comp]
  congr 1
  simp [UInt8.toNat_ofNat']
  omega

section
variable {H : Type} {enc : TypeId × Value → H} {P : Program}

/-- a list of lists of bytes that came in -/
theorem open_rows {W : World} {b0 : Nat} {t e q : TypeId} {v : Value} {d : DataW H} {ps : List MemPlace} (ht : P.underlying t = some (.slice e)) (he : P.underlying e = some (.slice q)) (hq : P.underlying q = some (.int .u8))
    (ce : P.cellsOf e = 1) (cq : P.cellsOf q = 1) (be : P.bytesOf e = 24) (bq : P.bytesOf q = 1) (hv : Value.okWide P W .any b0 t v) (h : DataW.Trod enc P W 0 (fun _ => true) true t v d ps)
    (hz : ∀ n ∈ d.weights P t, n ≤ reachBytes) :
    ∃ L : List (List UInt8), ArgRows W v L ∧ L.length * 24 ≤ reachBytes ∧ ∀ l ∈ L, l.length ≤ reachBytes := by
  obtain ⟨a, len, cap, rfl⟩ := okWide_slice ht hv
  obtain ⟨fuel, hf⟩ := h
  rcases open_int_rows ht he hq ce cq hf with ⟨hcs, hx⟩ | ⟨a', len', cap', A, L, C, Z, hcs, _, hl, hm, hx, hr⟩
  · simp [Value.cells] at hcs
    obtain ⟨rfl, rfl, rfl⟩ := hcs
    exact ⟨[], ⟨Option.none, 0, [], rfl, rfl, fun h => absurd rfl h, by intro i hi; simp at hi⟩, by simp [reachBytes], by simp⟩
  · simp [Value.cells] at hcs
    obtain ⟨rfl, rfl, rfl⟩ := hcs
    injection hx with hd _
    let R : Nat → List UInt8 := fun r => ofNums ((Z r).take (L r))
    have hRl : ∀ r, r < cap → (R r).length = L r := fun r hr' => by
      obtain ⟨_, h1, _, h3, _⟩ := hr r hr'
      simp [R, ofNums]; omega
    refine ⟨(List.range len).map R, ⟨some a', cap, (List.range len).map fun r => .slice (A r) (L r) (C r), by simp, by simp, fun _ => ?_, fun i hi => ?_⟩, ?_, ?_⟩
    · rename_i hne
      have hlen : 0 < len := by
        rcases Nat.eq_zero_or_pos len with h0 | h0
        · subst h0; simp at hne
        · exact h0
      obtain ⟨b, o, rfl⟩ := addr_none (hr 0 (by omega)).1
      refine ⟨b, o, rfl, fun j v hj => ?_⟩
      simp only [List.getElem?_map] at hj
      have hj' : j < len := by
        rcases Nat.lt_or_ge j len with h' | h'
        · exact h'
        · rw [List.getElem?_eq_none (by simpa using h')] at hj; simp at hj
      rw [List.getElem?_range hj'] at hj
      simp only [Option.map_some, Option.some.injEq] at hj
      subst hj
      rw [← Addr.add_mid]
      exact (hr j (by omega)).1
    · have hi' : i < len := by simpa using hi
      refine ⟨.slice (A i) (L i) (C i), by simp [hi'], A i, C i, ?_, fun hne => ?_⟩
      · simp only [List.getElem_map, List.getElem_range]
        rw [hRl i (by omega)]
      · simp only [List.getElem_map, List.getElem_range] at hne ⊢
        obtain ⟨_, h1, h2, h3, h4, h5, h6⟩ := hr i (by omega)
        have hL : 0 < L i := by
          rcases Nat.eq_zero_or_pos (L i) with h0 | h0
          · exfalso; apply hne
            have := hRl i (by omega); rw [h0] at this
            rw [List.eq_nil_of_length_eq_zero this]; rfl
          · exact h0
        cases hA : A i with
        | none => have := h5 hA; omega
        | some a2 =>
          obtain ⟨_, hc⟩ := h6 a2 hA
          obtain ⟨b, o, rfl⟩ := addr_none (hc 0 (by omega))
          refine ⟨b, o, rfl, fun j v hj => ?_⟩
          rw [u8s_ofNums _ (fun n hn => h4 n (List.mem_of_mem_take hn))] at hj
          simp only [List.getElem?_map] at hj
          have hj' : j < ((Z i).take (L i)).length := by
            rcases Nat.lt_or_ge j ((Z i).take (L i)).length with h' | h'
            · exact h'
            · rw [List.getElem?_eq_none h'] at hj; simp at hj
          rw [List.getElem?_eq_getElem hj'] at hj
          simp only [Option.map_some, Option.some.injEq] at hj
          subst hj
          rw [← Addr.add_mid, hc j (by simp at hj'; omega)]
          simp only [List.length_take] at hj'
          rw [List.getElem_take, List.getD_eq_getElem?_getD, List.getElem?_eq_getElem (by omega)]
          rfl
    · simp only [List.length_map, List.length_range]
      have := hz ((len + (cap - len)) * P.bytesOf e) (by rw [hd]; simp [DataW.weights, ht])
      rw [be] at this
      omega
    · intro l hl'
      simp only [List.mem_map, List.mem_range] at hl'
      obtain ⟨r, hr', rfl⟩ := hl'
      rw [hRl r (by omega)]
      obtain ⟨_, h1, h2, h3, h4, h5, h6⟩ := hr r (by omega)
      cases hA : A r with
      | none => have := h5 hA; omega
      | some a2 =>
        have hmem : (L r + (C r - L r)) * P.bytesOf q ∈ d.weights P t := by
          rw [hd]
          simp only [DataW.weights, ht, List.mem_cons, List.mem_append]
          refine .inr (.inl ?_)
          have : ∀ (l : List (DataW H)) (x : DataW H) (n : Nat), x ∈ l → n ∈ x.weights P e → n ∈ DataW.weightsAll P e l := by
            intro l
            induction l with
            | nil => intro x n hx; simp at hx
            | cons y ys ih =>
              intro x n hx hn
              simp only [DataW.weightsAll, List.mem_append]
              rcases List.mem_cons.1 hx with rfl | hx
              · exact .inl hn
              · exact .inr (ih x n hx hn)
          refine this _ (intRow .u8 (A r) (L r) (Z r)) _ (List.mem_map.2 ⟨r, by simpa using hr', rfl⟩) ?_
          rw [hA]
          simp only [intRow, DataW.weights, he, lits, List.length_map, List.length_take, List.length_drop, h3, List.mem_cons]
          left
          rw [Nat.min_eq_left h1]
        have := hz _ hmem
        rw [bq] at this
        omega

/-- the calls of a script -/
structure OpD where
  kind : Int
  i : Int
  fill : UInt8
  len : Int
def opCells (o : OpD) : List Value := [.int .i64 o.kind, .int .i64 o.i, .int .u8 (o.fill.toNat : Int), .int .i64 o.len]
/-- a list of calls that came in -/
def ArgOps (w : World) (v : Value) (l : List OpD) : Prop := ∃ A c, v = .slice A l.length c ∧ (l ≠ [] → ∃ g o, A = some ⟨g, o, none⟩ ∧ g < w.heap.size ∧ ∀ k (h : k < l.length), l[k].i < 9223372036854775808 ∧ w.rangeAt g (o + k * 4) (opCells l[k]))

theorem mapM_some {α β : Type} {f : α → Option β} : ∀ {l : List α} {r : List β}, l.mapM f = some r → r.length = l.length ∧ ∀ i (h : i < l.length), f l[i] = r[i]?
  | [], r, h => by simp at h; subst h; exact ⟨rfl, by intro i hi; simp at hi⟩
  | a :: t, r, h => by
    rw [List.mapM_cons] at h
    cases ha : f a with
    | none => simp [ha] at h
    | some b =>
      cases ht : t.mapM f with
      | none => simp [ha, ht] at h
      | some bs =>
        simp [ha, ht] at h
        subst h
        obtain ⟨h1, h2⟩ := mapM_some ht
        refine ⟨by simp [h1], fun i hi => ?_⟩
        rcases i with _ | i
        · simpa using ha
        · simpa using h2 i (by simpa using hi)

theorem open_ops {W : World} {b0 : Nat} {t e : TypeId} {f0 f1 f2 f3 : Field} {v : Value} {d : DataW H} {ps : List MemPlace} (ht : P.underlying t = some (.slice e)) (he : P.underlying e = some (.struct #[f0, f1, f2, f3]))
    (t0 : P.underlying f0.type = some (.int .i64)) (t1 : P.underlying f1.type = some (.int .i64)) (t2 : P.underlying f2.type = some (.int .u8)) (t3 : P.underlying f3.type = some (.int .i64))
    (c0 : P.cellsOf f0.type = 1) (c1 : P.cellsOf f1.type = 1) (c2 : P.cellsOf f2.type = 1) (c3 : P.cellsOf f3.type = 1) (ce : P.cellsOf e = 4) (o0 : f0.offset = 0) (o1 : f1.offset = 1) (o2 : f2.offset = 2) (o3 : f3.offset = 3)
    (be : P.bytesOf e = 32) (hv : Value.okWide P W .any b0 t v) (h : DataW.Trod enc P W 0 (fun _ => true) true t v d ps) (hz : ∀ n ∈ d.weights P t, n ≤ reachBytes) :
    ∃ l : List OpD, ArgOps W v l ∧ l.length * 32 ≤ reachBytes := by
  obtain ⟨a, len, cap, rfl⟩ := okWide_slice ht hv
  obtain ⟨fuel, hf⟩ := h
  rcases open_slice ht hf with ⟨hcs, hx⟩ | ⟨a', len', cap', m, n, D, Pl, hcs, _, hl, hm, hmm, hx, hr⟩
  · simp [Value.cells] at hcs
    obtain ⟨rfl, rfl, rfl⟩ := hcs
    exact ⟨[], ⟨Option.none, 0, rfl, fun h => absurd rfl h⟩, by simp⟩
  · simp [Value.cells] at hcs
    obtain ⟨rfl, rfl, rfl⟩ := hcs
    simp at hmm
    subst hmm
    injection hx with hd _
    have hone : ∀ i, i < len → ∃ o : OpD, o.i < 9223372036854775808 ∧ ∀ j v, (opCells o)[j]? = some v → W.cell? ((a'.add (i * 4)).add j) = some v := fun i hi => by
      obtain ⟨cs', hcs', htr⟩ := hr i (by omega)
      rw [ce] at hcs'
      obtain ⟨xs, n', _, _, hcl, hxl, hg⟩ := DataW.trod_struct he htr
      unfold World.cells? at hcs'
      rw [if_pos (Nat.zero_le _)] at hcs'
      obtain ⟨hl4, hc4⟩ := mapM_some hcs'
      simp only [List.length_range] at hl4 hc4
      match cs', hl4, hcs', hc4, hg with
      | [v0, v1, v2, v3], _, _, hc4, hg =>
        have g0 := hg 0 f0 rfl
        have g1 := hg 1 f1 rfl
        have g2 := hg 2 f2 rfl
        have g3 := hg 3 f3 rfl
        rw [o0, c0] at g0; rw [o1, c1] at g1; rw [o2, c2] at g2; rw [o3, c3] at g3
        match xs, hxl with
        | [y0, y1, y2, y3], _ =>
          simp at g0 g1 g2 g3
          obtain ⟨n0, e0, _, _⟩ := DataW.trod_int t0 g0
          obtain ⟨n1, e1, _, w1⟩ := DataW.trod_int t1 g1
          obtain ⟨n2, e2, _, w2⟩ := DataW.trod_int t2 g2
          obtain ⟨n3, e3, _, _⟩ := DataW.trod_int t3 g3
          simp at e0 e1 e2 e3
          subst e0 e1 e2 e3
          have b2 := bounds_u8 w2
          refine ⟨⟨n0, n1, UInt8.ofNat n2.toNat, n3⟩, by have := bounds_i64 w1; simp only; omega, fun j v hj => ?_⟩
          have e : ((UInt8.ofNat n2.toNat).toNat : Int) = n2 := by simp [UInt8.toNat_ofNat']; omega
          simp only [opCells, e] at hj
          have hj4 : j < 4 := (List.getElem?_eq_some_iff.1 hj).1
          have := hc4 j hj4
          rw [List.getElem_range] at this
          rw [this]
          exact hj
    obtain ⟨f, hf'⟩ : ∃ f : Nat → OpD, ∀ i, i < len → (f i).i < 9223372036854775808 ∧ ∀ j v, (opCells (f i))[j]? = some v → W.cell? ((a'.add (i * 4)).add j) = some v :=
      ⟨fun i => if h : i < len then (hone i h).choose else ⟨0, 0, 0, 0⟩, fun i hi => by
        simp only [dif_pos hi]
        exact (hone i hi).choose_spec⟩
    refine ⟨(List.range len).map f, ⟨some a', m, by simp, fun hne => ?_⟩, ?_⟩
    · have hlen : 0 < len := by
        rcases Nat.eq_zero_or_pos len with h0 | h0
        · subst h0; simp at hne
        · exact h0
      have h00 := (hf' 0 hlen).2 0 (.int .i64 (f 0).kind) rfl
      rw [add_add, Nat.zero_mul] at h00
      obtain ⟨b, o, rfl⟩ := addr_none h00
      refine ⟨b, o, rfl, ?_, fun k hk => ⟨by simpa using (hf' k (by simpa using hk)).1, fun j v hj => ?_⟩⟩
      · have := World.block_lt_of_cell? W _ h00
        rwa [Addr.add_mid] at this
      · have hk' : k < len := by simpa using hk
        simp only [List.getElem_map, List.getElem_range] at hj
        have := (hf' k hk').2 j v hj
        rw [add_add, Addr.add_mid] at this
        rw [Nat.add_assoc]; exact this
    · simp only [List.length_map, List.length_range]
      have := hz ((len + (m - len)) * P.bytesOf e) (by rw [hd]; simp [DataW.weights, ht])
      rw [be] at this
      omega
end
end Go.Proofs.Ytaohaofjbgghgaa
