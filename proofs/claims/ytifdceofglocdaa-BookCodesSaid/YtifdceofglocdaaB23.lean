/- Several texts of this claim in one. No condition beyond what each theorem states. -/
import Derived.Test.YtifdceofglocdaaB06
import Derived.Test.YtifdceofglocdaaB22
import Derived.Deep.Slices
import Derived.Test.YtifdceofglocdaaB20
/- A grantor's book in plain words: its dump makes it again. No condition beyond what each theorem states. -/
namespace Go.Proofs.Ytifdceofglocdaa
open Go

/-- records one behind the other; none: one was refused -/
def runB : Bok → List Rcd → Option Bok
  | b, [] => some b
  | b, r :: l => if (applyB b r).2 = 0 then runB (applyB b r).1 l else none
theorem runB_app : ∀ (l1 l2 : List Rcd) (b c : Bok), runB b l1 = some c → runB b (l1 ++ l2) = runB c l2
  | [], _, b, c, h => by injection h with h; rw [h]; rfl
  | r :: l1, l2, b, c, h => by
    have h : (if (applyB b r).2 = 0 then runB (applyB b r).1 l1 else none) = some c := h
    show (if (applyB b r).2 = 0 then runB (applyB b r).1 (l1 ++ l2) else none) = runB c l2
    by_cases h0 : (applyB b r).2 = 0
    · rw [if_pos h0] at h ⊢
      exact runB_app l1 l2 _ c h
    · rw [if_neg h0] at h; cases h
theorem valid_new : validB newB := by decide
theorem apply_eq {b c : Bok} {r : Rcd} (h1 : validB b) (h2 : mayR r) (h3 : limitB b r.kind = 0) (h4 : changeB b r = some c) : applyB b r = (c, 0) := by
  unfold applyB
  rw [if_neg (fun h => h ⟨h1, h2⟩), if_neg (fun h => h h3), h4]
theorem apply_counter {n k : Int} (h : headsB n k) : applyB newB { kind := 1, next := n, boots := k } = ({ next := n, boots := k }, 0) := by
  refine apply_eq valid_new ?_ ?_ ?_
  · unfold mayR
    rw [if_pos rfl]
    exact ⟨h, rfl⟩
  · show limitB newB 1 = 0
    decide
  · unfold changeB
    rw [if_pos rfl, if_pos rfl]
    rfl
theorem apply_longest {b : Bok} {t : Int} (hv : validB b) (h0 : b.longest = 0) (ht : termI t) : applyB b { kind := 2, longest := t } = ({ b with longest := t }, 0) := by
  have ht2 : 0 < t := by unfold termI at ht; omega
  refine apply_eq hv ?_ ?_ ?_
  · unfold mayR
    rw [if_neg (show ¬ (2 : Int) = 1 by decide), if_pos rfl]
    exact ⟨ht, rfl⟩
  · unfold limitB
    rw [if_neg (by rintro (⟨h | h, _⟩ | ⟨h, _⟩); · exact absurd h (show ¬ (2 : Int) = 4 by decide)
                   · exact absurd h (show ¬ (2 : Int) = 5 by decide)
                   · exact absurd h (show ¬ (2 : Int) = 7 by decide)), if_neg (by rintro ⟨h | h, _⟩; · exact absurd h (show ¬ (2 : Int) = 3 by decide)
                                                                                  · exact absurd h (show ¬ (2 : Int) = 4 by decide))]
  · unfold changeB
    rw [if_neg (show ¬ (2 : Int) = 1 by decide), if_pos rfl, if_pos (by show b.longest < t; omega)]
theorem apply_kept {b : Bok} {g : Grt} (hv : validB b) (hg : mayG g) (hn : newestS g.stamp < b.next) (hl : b.grants.length < 6) (hs : ∀ x ∈ b.grants, x.id < g.id) : applyB b { kind := 3, grant := g } = ({ b with grants := b.grants ++ [g] }, 0) := by
  refine apply_eq hv ?_ ?_ ?_
  · unfold mayR
    rw [if_neg (show ¬ (3 : Int) = 1 by decide), if_neg (show ¬ (3 : Int) = 2 by decide), if_pos rfl]
    exact ⟨hg, rfl⟩
  · unfold limitB
    rw [if_neg (by rintro (⟨h | h, _⟩ | ⟨h, _⟩); · exact absurd h (show ¬ (3 : Int) = 4 by decide)
                   · exact absurd h (show ¬ (3 : Int) = 5 by decide)
                   · exact absurd h (show ¬ (3 : Int) = 7 by decide)), if_neg (by rintro ⟨_, h⟩; omega)]
  · unfold changeB
    rw [if_neg (show ¬ (3 : Int) = 1 by decide), if_neg (show ¬ (3 : Int) = 2 by decide), if_pos rfl, if_neg, insG_last _ _ hs]
    rintro (h | h)
    · obtain ⟨x, hx, e⟩ := (hasG_iff _ _).1 h
      have := hs x hx
      have e : x.id = g.id := e
      omega
    · have h : b.next ≤ newestS g.stamp := h
      omega
theorem kept_run : ∀ (l : List Grt) (b : Bok), validB b → b.grants.length + l.length ≤ 6 → (∀ g ∈ l, mayG g ∧ newestS g.stamp < b.next) → (b.grants ++ l).Pairwise (fun x y => x.id < y.id) →
    runB b (l.map fun g => { kind := 3, grant := g }) = some { b with grants := b.grants ++ l }
  | [], b, _, _, _, _ => by rw [List.append_nil]; rfl
  | g :: l, b, hv, hl, hg, hs => by
    have hgl : (g :: l).length = l.length + 1 := rfl
    obtain ⟨g1, g2⟩ := hg g (List.mem_cons_self ..)
    have hs0 := List.pairwise_append.1 hs
    have ha := apply_kept hv g1 g2 (by omega) (fun x hx => hs0.2.2 x hx g (List.mem_cons_self ..))
    have hok := apply_ok (b := b) (r := { kind := 3, grant := g }) (by rw [ha])
    rw [ha] at hok
    show (if (applyB b { kind := 3, grant := g }).2 = 0 then runB (applyB b { kind := 3, grant := g }).1 (l.map fun g => { kind := 3, grant := g }) else none) = _
    rw [ha, if_pos rfl]
    have h := kept_run l { b with grants := b.grants ++ [g] } hok.1 (by show (b.grants ++ [g]).length + l.length ≤ 6; rw [List.length_append]; show b.grants.length + 1 + l.length ≤ 6; omega) (fun x hx => hg x (List.mem_cons_of_mem _ hx)) (by show ((b.grants ++ [g]) ++ l).Pairwise _; rw [List.append_assoc]; exact hs)
    rw [h]
    show some ({ b with grants := (b.grants ++ [g]) ++ l } : Bok) = some { b with grants := b.grants ++ (g :: l) }
    rw [List.append_assoc]
    rfl
/-- the dump makes the book again -/
theorem dump_run {b : Bok} (hv : validB b) : runB newB (dumpB b) = some b := by
  obtain ⟨hh, hlo, hln, hg, hs⟩ := hv
  have hv : validB b := ⟨hh, hlo, hln, hg, hs⟩
  unfold dumpB
  rw [if_pos hv]
  show (if (applyB newB { kind := 1, next := b.next, boots := b.boots }).2 = 0 then runB (applyB newB { kind := 1, next := b.next, boots := b.boots }).1 _ else none) = _
  rw [apply_counter hh, if_pos rfl]
  have hv0 : validB { next := b.next, boots := b.boots } := ⟨hh, .inl rfl, Nat.zero_le _, (fun g hg => by cases hg), List.Pairwise.nil⟩
  have key : runB { next := b.next, boots := b.boots } (if b.longest = 0 then [] else [{ kind := 2, longest := b.longest }]) = some { next := b.next, boots := b.boots, longest := b.longest } := by
    by_cases h0 : b.longest = 0
    · rw [if_pos h0, h0]; rfl
    · rw [if_neg h0]
      have ht : termI b.longest := by
        rcases hlo with h | h
        · exact absurd h h0
        · exact h
      show (if (applyB _ _).2 = 0 then runB (applyB _ _).1 [] else none) = _
      rw [apply_longest hv0 rfl ht, if_pos rfl]
      rfl
  rw [runB_app _ _ _ _ key]
  have hv1 : validB { next := b.next, boots := b.boots, longest := b.longest } := ⟨hh, hlo, Nat.zero_le _, (fun g hg => by cases hg), List.Pairwise.nil⟩
  rw [kept_run b.grants { next := b.next, boots := b.boots, longest := b.longest } hv1 (by show 0 + b.grants.length ≤ 6; omega) hg hs]
  rfl
theorem dump_len {b : Bok} (hv : validB b) : 1 ≤ (dumpB b).length ∧ (dumpB b).length ≤ 8 ∧ (dumpB b).length ≤ b.grants.length + 2 := by
  have h6 : b.grants.length ≤ 6 := hv.2.2.1
  unfold dumpB
  rw [if_pos hv, List.length_cons, List.length_append, List.length_map]
  split
  · show 1 ≤ 0 + b.grants.length + 1 ∧ _
    refine ⟨by omega, ?_, ?_⟩ <;> simp <;> omega
  · refine ⟨by omega, ?_, ?_⟩ <;> simp <;> omega
end Go.Proofs.Ytifdceofglocdaa

/- Lists of grants, a book and a list of records that came in. No condition beyond what each theorem states. -/
namespace Go.Proofs.Ytifdceofglocdaa
open Go Go.RowKit Go.PlainAid Go.ChangeShapes Go.WideShapes Go.ChangeAt Go.Deep

theorem addr_noneG {w : World} {a : Addr} {v : Value} (h : w.cell? (a.add 0) = some v) : ∃ b o, a = ⟨b, o, none⟩ := by
  obtain ⟨b, o, s⟩ := a
  cases s with
  | none => exact ⟨b, o, rfl⟩
  | some s =>
    exfalso
    simp only [World.cell?, Addr.add, if_true] at h
    split at h <;> simp_all
theorem mapM_someG {α β : Type} {f : α → Option β} : ∀ {l : List α} {r : List β}, l.mapM f = some r → r.length = l.length ∧ ∀ i (h : i < l.length), f l[i] = r[i]?
  | [], r, h => by simp at h; subst h; exact ⟨rfl, by intro i hi; simp at hi⟩
  | a :: t, r, h => by
    rw [List.mapM_cons] at h
    cases ha : f a with
    | none => simp [ha] at h
    | some b =>
      cases ht : t.mapM f with
      | none => simp [ha, ht] at h
      | some bs =>
        simp [ha, ht] at h
        subst h
        obtain ⟨h1, h2⟩ := mapM_someG ht
        refine ⟨by simp [h1], fun i hi => ?_⟩
        rcases i with _ | i
        · simpa using ha
        · simpa using h2 i (by simpa using hi)
theorem weightsAll_memG {H : Type} {P : Program} {e : TypeId} : ∀ {l : List (DataW H)} {d : DataW H}, d ∈ l → ∀ n ∈ d.weights P e, n ∈ DataW.weightsAll P e l
  | _ :: _, d, hd, n, hn => by
    simp only [DataW.weightsAll, List.mem_append]
    rcases List.mem_cons.1 hd with rfl | h
    · exact Or.inl hn
    · exact Or.inr (weightsAll_memG h n hn)
section
variable {H : Type} {enc : TypeId × Value → H} {P : Program}
/-- a list of structs that came in: each element's cells, by a law that opens one -/
theorem open_rows {α : Type} {W : World} {t e : TypeId} {c : Value} {n : Nat} {y : DataW H × List MemPlace} {size bytes : Nat} {cells : α → List Value} {Good : α → Prop} (ht : P.underlying t = some (.slice e)) (ce : P.cellsOf e = size) (be : P.bytesOf e = bytes)
    (hsz : 0 < size) (hln : ∀ x, (cells x).length = size) (dflt : α)
    (hone : ∀ (m : Nat) (cs : List Value) (x : DataW H × List MemPlace), DataW.trod enc P W 0 (fun _ => true) true m e cs = some x → (∀ n ∈ x.1.weights P e, n ≤ reachBytes) → ∃ g, cs = cells g ∧ Good g)
    (hf : DataW.trod enc P W 0 (fun _ => true) true n t [c] = some y) (hz : ∀ n ∈ y.1.weights P t, n ≤ reachBytes) :
    ∃ (l : List α) (A : Option Addr) (cap : Nat), c = .slice A l.length cap ∧ l.length ≤ cap ∧ l.length * bytes ≤ reachBytes ∧ (∀ g ∈ l, Good g) ∧
      (l ≠ [] → ∃ g o, A = some ⟨g, o, none⟩ ∧ g < W.heap.size ∧ ∀ k (h : k < l.length), W.rangeAt g (o + k * size) (cells l[k])) := by
  rcases DataW.trod_slice ht hf with ⟨hcs, hx⟩ | ⟨a, len, cap, elems, rest, m, _, hcs, hx, _, hl, hm, hlen, hel, hsp, _⟩
  · injection hcs with hcs _
    subst hcs
    exact ⟨[], none, 0, rfl, Nat.le_refl _, by simp, (fun g hg => by cases hg), fun h => absurd rfl h⟩
  · injection hcs with hcs _
    subst hcs
    subst hx
    have hrl := (hsp rfl).1
    have hw : ∀ (i : Nat) x, i < len → elems[i]? = some x → ∀ n ∈ x.1.weights P e, n ≤ reachBytes := fun i x _ hx n hn => hz n (by
      have hmem : x.1 ∈ elems.map (·.1) := List.mem_map_of_mem (List.mem_of_getElem? hx)
      simp only [DataW.weights, ht]
      exact List.mem_cons_of_mem _ (List.mem_append_left _ (weightsAll_memG hmem n hn)))
    have hone2 : ∀ i, i < len → ∃ g, Good g ∧ ∀ j v, (cells g)[j]? = some v → W.cell? ((a.add (i * size)).add j) = some v := fun i hi => by
      have h1 := hel i hi
      rw [List.getElem?_eq_getElem (by omega : i < elems.length), ce] at h1
      cases hc : W.cells? 0 (a.add (i * size)) size with
      | none => rw [hc] at h1; simp at h1
      | some cs' =>
        rw [hc] at h1
        obtain ⟨g, hg, hG⟩ := hone m cs' _ h1 (hw i _ hi (List.getElem?_eq_getElem (by omega)))
        subst hg
        unfold World.cells? at hc
        rw [if_pos (Nat.zero_le _)] at hc
        obtain ⟨hl4, hc4⟩ := mapM_someG hc
        simp only [List.length_range] at hl4 hc4
        refine ⟨g, hG, fun j v hj => ?_⟩
        have hj4 : j < size := by have := (List.getElem?_eq_some_iff.1 hj).1; rw [hln] at this; exact this
        have := hc4 j hj4
        rw [List.getElem_range] at this
        rw [this]; exact hj
    obtain ⟨f, hf'⟩ : ∃ f : Nat → α, ∀ i, i < len → Good (f i) ∧ ∀ j v, (cells (f i))[j]? = some v → W.cell? ((a.add (i * size)).add j) = some v :=
      ⟨fun i => if h : i < len then (hone2 i h).choose else dflt, fun i hi => by
        simp only [dif_pos hi]
        exact (hone2 i hi).choose_spec⟩
    refine ⟨(List.range len).map f, some a, cap, by simp, by simpa using hl, ?_, ?_, fun hne => ?_⟩
    · simp only [List.length_map, List.length_range]
      have := hz ((len + (cap - len)) * P.bytesOf e) (by simp [DataW.weights, ht, hlen, hrl])
      rw [be] at this
      exact Nat.le_trans (Nat.mul_le_mul_right _ (by omega)) this
    · intro g hg
      obtain ⟨i, hi, rfl⟩ := List.mem_map.1 hg
      exact (hf' i (List.mem_range.1 hi)).1
    · have hlen : 0 < len := by
        rcases Nat.eq_zero_or_pos len with h0 | h0
        · subst h0; simp at hne
        · exact h0
      have hv0 : (cells (f 0))[0]? = some ((cells (f 0))[0]'(by rw [hln]; exact hsz)) := List.getElem?_eq_getElem _
      have h00 := (hf' 0 hlen).2 0 _ hv0
      rw [add_add, Nat.zero_mul] at h00
      obtain ⟨b, o, rfl⟩ := addr_noneG h00
      refine ⟨b, o, rfl, ?_, fun k hk j v hj => ?_⟩
      · have := World.block_lt_of_cell? W _ h00
        rwa [Addr.add_mid] at this
      · have hk' : k < len := by simpa using hk
        simp only [List.getElem_map, List.getElem_range] at hj
        have := (hf' k hk').2 j v hj
        rw [add_add, Addr.add_mid] at this
        rw [Nat.add_assoc]; exact this
end
def GPin (W : World) (p : GP) : Prop := ArgInts W p.2 p.1.stamp ∧ ShGin p.1
set_option maxRecDepth 100000 in
/-- a list of grants that came in -/
theorem open_grants {H : Type} {enc : TypeId × Value → H} {W : World} {n : Nat} {c : Value} {y : DataW H × List MemPlace} (hf : DataW.trod enc Try.prog W 0 (fun _ => true) true n 23 [c] = some y)
    (hz : ∀ n ∈ y.1.weights Try.prog 23, n ≤ reachBytes) :
    ∃ l : List GP, ArgG W c l ∧ l.length ≤ 1954687338211 ∧ ∀ p ∈ l, ShGin p.1 := by
  obtain ⟨l, A, cap, e, hc, hb, hg, hr⟩ := open_rows (size := 6) (bytes := 72) (cells := pC) (Good := GPin W) Try.underlying23 (by kernel_rfl) (by kernel_rfl) (by decide) (fun _ => rfl) ({}, .slice none 0 0)
    (fun m cs x h hx => by obtain ⟨g, v, h1, h2, h3⟩ := open_grant h hx; exact ⟨(g, v), h1, h2, h3⟩) hf hz
  exact ⟨l, ⟨A, cap, e, hc, hr, fun p hp => (hg p hp).1⟩, by unfold reachBytes at hb; omega, fun p hp => (hg p hp).2⟩
theorem ShGin.shL {l : List GP} (h : l.length ≤ 1954687338211) (hp : ∀ p ∈ l, ShGin p.1) : ShL maxLen l := ⟨by unfold maxLen; omega, fun p hq => (hp p hq).sh⟩
theorem list4 {α : Type} {cs : List α} (h : cs.length = 4) : ∃ a0 a1 a2 a3, cs = [a0, a1, a2, a3] := by
  match cs, h with
  | [a0, a1, a2, a3], _ => exact ⟨a0, a1, a2, a3, rfl⟩
set_option maxRecDepth 100000 in
set_option maxHeartbeats 1000000 in
/-- a book that came in -/
theorem open_book {H : Type} {enc : TypeId × Value → H} {W : World} {b0 : Nat} {v : Value} {d : DataW H} {ps : List MemPlace} (hv : Value.okWide Try.prog W .any b0 25 v) (h : DataW.Trod enc Try.prog W 0 (fun _ => true) true 25 v d ps)
    (hz : ∀ n ∈ d.weights Try.prog 25, n ≤ reachBytes) :
    ∃ (n k t : Int) (sv : Value) (l : List GP), v = .agg #[.int .i64 n, .int .i64 k, .int .i64 t, sv] ∧ ArgG W sv l ∧ l.length ≤ 1954687338211 ∧ (∀ p ∈ l, ShGin p.1) ∧ (-9223372036854775808 ≤ n ∧ n ≤ 9223372036854775807) ∧ (-9223372036854775808 ≤ k ∧ k ≤ 9223372036854775807) ∧ (-9223372036854775808 ≤ t ∧ t ≤ 9223372036854775807) := by
  obtain ⟨cs, rfl, _⟩ := okWide_struct Try.underlying25 hv
  obtain ⟨fuel, hf⟩ := h
  obtain ⟨n, xs, hx, hl, hg⟩ := open_parts Try.underlying25 hf
  have hx : d = .agg (xs.map (·.1)) := hx
  rw [hx] at hz
  have hw : ∀ (j : Nat) t y, ([3, 3, 3, 23] : List TypeId)[j]? = some t → (xs.map (·.1))[j]? = some y → ∀ n ∈ y.weights Try.prog t, n ≤ reachBytes := fun j t y h1 h2 n hn => hz n (by
    have := DataW.weights_mem_each h1 h2 n hn
    simpa [DataW.weights, Try.underlying25] using this)
  obtain ⟨y0, x0, t0⟩ := hg 0 _ rfl
  obtain ⟨y1, x1, t1⟩ := hg 1 _ rfl
  obtain ⟨y2, x2, t2⟩ := hg 2 _ rfl
  obtain ⟨y3, x3, t3⟩ := hg 3 _ rfl
  clear hg hz
  have hl : cs.toList.length = Try.prog.cellsOf 25 := hl
  obtain ⟨a0, a1, a2, a3, hcs⟩ := list4 (hl.trans (by kernel_rfl : Try.prog.cellsOf 25 = 4))
  have hcs' : cs = #[a0, a1, a2, a3] := by apply Array.toList_inj.1; rw [hcs]
  subst hcs'
  have t0 : DataW.trod enc Try.prog W 0 (fun _ => true) true n 3 (([a0, a1, a2, a3].drop 0).take (Try.prog.cellsOf 3)) = some y0 := t0
  have t1 : DataW.trod enc Try.prog W 0 (fun _ => true) true n 3 (([a0, a1, a2, a3].drop 1).take (Try.prog.cellsOf 3)) = some y1 := t1
  have t2 : DataW.trod enc Try.prog W 0 (fun _ => true) true n 3 (([a0, a1, a2, a3].drop 2).take (Try.prog.cellsOf 3)) = some y2 := t2
  have t3 : DataW.trod enc Try.prog W 0 (fun _ => true) true n 23 (([a0, a1, a2, a3].drop 3).take (Try.prog.cellsOf 23)) = some y3 := t3
  simp only [show Try.prog.cellsOf 3 = 1 from by kernel_rfl, show Try.prog.cellsOf 23 = 1 from by kernel_rfl, List.drop_succ_cons, List.drop_zero, List.take_succ_cons, List.take_zero] at t0 t1 t2 t3
  obtain ⟨n0, h0, _, w0⟩ := DataW.trod_int Try.underlying3 t0
  obtain ⟨n1, h1, _, w1⟩ := DataW.trod_int Try.underlying3 t1
  obtain ⟨n2, h2, _, w2⟩ := DataW.trod_int Try.underlying3 t2
  obtain ⟨l, hL, hll, hlp⟩ := open_grants t3 (hw 3 _ _ rfl x3)
  simp only [List.cons.injEq, and_true] at h0 h1 h2
  subst h0 h1 h2
  have b0 := bounds_i64 w0; have b1 := bounds_i64 w1; have b2 := bounds_i64 w2
  exact ⟨n0, n1, n2, a3, l, rfl, hL, hll, hlp, by omega, by omega, by omega⟩
end Go.Proofs.Ytifdceofglocdaa

/- Words for the laws of books: records of a list, what is short, one record of a run. No condition beyond what each theorem states. -/
namespace Go.Proofs.Ytifdceofglocdaa
open Go Go.RowKit Go.PlainAid

theorem rL_get (l : List RP) (k : Nat) (hk : k < l.length) (j : Nat) (hj : j < 12) : (rL l)[k * 12 + j]? = (rP l[k])[j]? := by
  have e : l = l.take k ++ (l[k] :: l.drop (k + 1)) := by rw [← List.drop_eq_getElem_cons hk, List.take_append_drop]
  have h1 : rL l = rL (l.take k) ++ (rP l[k] ++ rL (l.drop (k + 1))) := by
    conv => lhs; rw [e]
    unfold rL
    rw [List.map_append, List.flatten_append, List.map_cons, List.flatten_cons]
  have h2 : (rL (l.take k)).length = k * 12 := by rw [rL_len, List.length_take]; omega
  rw [h1, List.getElem?_append_right (by omega), h2, Nat.add_sub_cancel_left, List.getElem?_append_left (by show j < 12; exact hj)]
theorem OwnRs.cells {w : World} {B : Nat} {v : Value} {l : List RP} (h : OwnRs w B v l) {j : Nat} (hj : j < l.length) :
    ∃ g c, v = .slice (some ⟨g, 0, none⟩) l.length c ∧ g < w.heap.size ∧ ∀ i u, (rP l[j])[i]? = some u → w.cell? ⟨g, j * 12 + i, none⟩ = some u := by
  obtain ⟨g, c, e, _, _, hg⟩ := own_form h.1 (by omega)
  subst e
  refine ⟨g, c, rfl, hg, fun i u hu => ?_⟩
  have hi : i < 12 := (List.getElem?_eq_some_iff.1 hu).1
  have := h.1.cells (g := g) rfl (j * 12 + i) u (by rw [rL_get l j hj i hi]; exact hu)
  rw [Addr.add_mid, Nat.zero_add] at this
  exact this
theorem shL_gs {n : Nat} {l m : List GP} (h : ShL n l) (e : gsL m = gsL l) : ShL n m :=
  ⟨by rw [← gsL_len, e, gsL_len]; exact h.1, fun p hp => by
    have h1 : p.1 ∈ gsL l := by rw [← e]; exact List.mem_map_of_mem hp
    obtain ⟨q, hq, e2⟩ := List.mem_map.1 h1
    rw [← e2]; exact h.2 q hq⟩
theorem bk_gs {n k t : Int} {l m : List GP} (e : gsL m = gsL l) : bk n k t m = bk n k t l := by unfold bk; rw [e]
theorem bk_of {b : Bok} {l : List GP} (h : gsL l = b.grants) : bk b.next b.boots b.longest l = b := by unfold bk; rw [h]
/-- a book in memory that may be is short -/
theorem valid_sh {n k t : Int} {l : List GP} (h : validB (bk n k t l)) : ShL maxLen l :=
  ⟨by have h1 : (gsL l).length ≤ 6 := h.2.2.1; rw [gsL_len] at h1; unfold maxLen; omega, fun p hp => by
    have h1 := (h.2.2.2.1 p.1 (List.mem_map_of_mem hp)).1
    have h2 := vpP_len p.1.path h1.2.2.1
    have h3 := (cnt_of_valid h1.2.2.2.2.1).1
    exact ⟨by unfold maxLen; omega, by unfold maxLen; omega⟩⟩
theorem dump_sh {b : Bok} {r : Rcd} (h : r ∈ dumpB b) : ShG maxLen r.grant ∧ r.stamp.length ≤ maxLen := by
  unfold dumpB at h
  split at h
  · rename_i hv
    rcases List.mem_cons.1 h with rfl | h
    · exact ⟨⟨Nat.zero_le _, Nat.zero_le _⟩, Nat.zero_le _⟩
    rcases List.mem_append.1 h with h | h
    · split at h
      · cases h
      · rw [List.mem_singleton] at h
        subst h
        exact ⟨⟨Nat.zero_le _, Nat.zero_le _⟩, Nat.zero_le _⟩
    · obtain ⟨g, hg, rfl⟩ := List.mem_map.1 h
      have h1 := (hv.2.2.2.1 g hg).1
      have h2 := vpP_len g.path h1.2.2.1
      have h3 := (cnt_of_valid h1.2.2.2.2.1).1
      exact ⟨⟨by show g.path.length ≤ _; unfold maxLen; omega, by show g.stamp.length ≤ _; unfold maxLen; omega⟩, Nat.zero_le _⟩
  · cases h
theorem runB_step {b c d : Bok} {L : List Rcd} {j : Nat} (hj : j < L.length) (h : runB b L = some c) (h1 : runB b (L.take j) = some d) : (applyB d L[j]).2 = 0 ∧ runB b (L.take (j + 1)) = some (applyB d L[j]).1 := by
  have e : L = L.take j ++ (L[j] :: L.drop (j + 1)) := by rw [← List.drop_eq_getElem_cons hj, List.take_append_drop]
  rw [e, runB_app _ _ _ _ h1] at h
  have h : (if (applyB d L[j]).2 = 0 then runB (applyB d L[j]).1 (L.drop (j + 1)) else none) = some c := h
  by_cases h0 : (applyB d L[j]).2 = 0
  · refine ⟨h0, ?_⟩
    rw [List.take_succ_eq_append_getElem hj, runB_app _ _ _ _ h1]
    show (if (applyB d L[j]).2 = 0 then runB (applyB d L[j]).1 [] else none) = _
    rw [if_pos h0]; rfl
  · rw [if_neg h0] at h; cases h
end Go.Proofs.Ytifdceofglocdaa
