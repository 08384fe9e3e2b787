/- Several texts of this claim in one. No condition beyond what each theorem states. -/
import Derived.Test.YtlgbmkdeamgpkaaGreatDoorG01
import Derived.Deep.Matrix
import Derived.Test.YtlgbmkdeamgpkaaGreatDoorTie
import Derived.ProofKit
import Derived.PlainAid
import Derived.WideShapes
import Derived.OpenShut
import Derived.ShutString
import Derived.ChangeOld
import Derived.SizedLaws
import Derived.Below
import Derived.LaidMore
import Derived.Lay
import Derived.SevenTiedAt
import Derived.Stop.Joined
import Derived.Stop.LaidErr
import Derived.Lib.LaidTab
import Derived.Shelf.Vars
import Derived.Test.YtlgbmkdeamgpkaaGreatDoorG09
import Derived.Deep.Slices
import Derived.Deep.Cut
import Derived.Deep.CutRange
import Derived.Deep.CutBlock
import Derived.Deep.DeepCutAuto
import Derived.IntWalk
import Derived.Test.YtlgbmkdeamgpkaaGreatDoorG08
/- What the laws of this claim share: bytes, and lists of bytes, that came in. No condition beyond what each theorem states. -/
namespace Go.Proofs.YtlgbmkdeamgpkaaGreatDoor
open Go Go.RowKit Go.PlainAid Go.ChangeShapes Go.WideShapes Go.ChangeAt
open Go.ChangeMaps (open_string shut_string)
section
variable {H : Type} {enc : TypeId × Value → H}
theorem returnsInHanded_and_shaped {a : Assume} {C : Checked} {os : Os} {f : FuncId} {fn : Func} {s : ChangeSpec} {conds : List PathCond} {apart fresh handsOn again : Bool} {X : World → Array Value → Prop}
    (hX : ∀ (w w' : World) (args : Array Value), w.heap = w'.heap → X w args → X w' args)
    (own : ownKnob C.prog.godebug = none) (started : os.Started) (noInit : C.prog.inits.idxOf? f = none) (hfn : C.prog.funcs[f]? = some fn)
    (witness : ∃ (w : World) (tape : Tape) (i : Input), w.os = os ∧ (w.forCall tape i).Shaped C.prog ∧ i.vars = [] ∧ Input.okWide C.prog (w.forCall tape i) .any w.heap.size f i ∧
      ((s.pre enc C.prog fn conds apart (w.forCall tape i).memory i.args ∧ X (w.forCall tape i).memory i.args) ∧ sizedMet enc C.prog fn (OpenSpec.ofChange s) apart (w.forCall tape i).memory i.args) ∧ a.holds C.prog (lone (Frame.enter C.prog f i.args .normal) [] (w.forCall tape i)))
    (contract : ∀ (W : World) (base : Nat) (args : Array Value) (ds gs : List (DataW H)) (before : List MemPlace),
      (∀ (j : Nat) t v, fn.params[j]? = some t → args[j]? = some v → Value.okWide C.prog W .any base t v) →
      DataW.Whole enc C.prog fn.params.toList s.vars apart W args.toList ds gs before →
      conds.all (PathCond.test C.prog ⟨fn.params.toList, ds, s.plain.varTypes C.prog, gs⟩) = true →
      (DataW.weightsEach C.prog (fn.params.toList ++ s.plain.varTypes C.prog) (ds ++ gs)).all (· ≤ reachBytes) = true → X W args →
      W.ShapedOpen C.prog →
      a.holds C.prog (lone (Frame.enter C.prog f args .normal) [] W) →
      Calls C.prog f args W fun e W' => ∃ v, e = .returned v ∧ s.post enc C.prog fn apart fresh handsOn again W args v W') :
    ReturnsInHanded a C os f .any (fun w args => (s.pre enc C.prog fn conds apart w args ∧ X w args) ∧ sizedMet enc C.prog fn (OpenSpec.ofChange s) apart w args) (s.post enc C.prog fn apart fresh handsOn again) := by
  refine returnsInHanded_of_calls own started noInit witness ?_
  intro w tape i _ hsh _ hok hpre hholds
  obtain ⟨_, _, _, fn', hfn', _, _, _, _, hval⟩ := hok
  have e : fn' = fn := Option.some.inj (hfn'.symm.trans hfn)
  subst e
  obtain ⟨⟨⟨ds, gs, before, hw, hc⟩, hx⟩, hz⟩ := hpre
  have hw' := DataW.Whole.of_heap (w' := w.forCall tape i) (by rfl) hw
  refine (contract (w.forCall tape i) w.heap.size i.args ds gs before hval hw' hc (hz.weights hw) (hX _ _ _ (by rfl) hx) hsh hholds).mono fun e W' ⟨v, he, hp⟩ => ?_
  subst he
  exact ChangeSpec.post_blind hp
end

section
variable {H : Type} {enc : TypeId × Value → H} {P : Program}
theorem addr_plain {w : World} {a : Addr} {v : Value} (h : w.cell? (a.add 0) = some v) : ∃ b o, a = ⟨b, o, none⟩ := by
  obtain ⟨b, o, s⟩ := a
  cases s with
  | none => exact ⟨b, o, rfl⟩
  | some s =>
    exfalso
    simp only [World.cell?, Addr.add, if_true] at h
    split at h <;> simp_all
/-- a number that a byte holds -/
def u8of (z : Int) : UInt8 := UInt8.ofNat z.toNat
theorem u8of_val {z : Int} (h : (Lit.int .u8 z).wf = true) : ((u8of z).toNat : Int) = z := by
  have hb : 0 ≤ z ∧ z < 256 := by
    simp [Lit.wf, IntKind.min, IntKind.max, IntKind.signed, IntKind.bits] at h
    omega
  unfold u8of
  rw [UInt8.toNat_ofNat']
  omega
/-- cells of bytes that came in -/
theorem argB_cells {W : World} {a : Option Addr} {len cap : Nat} {zs : List Int} (hz : zs.length = cap) (hl : len ≤ cap) (ha : a = none → cap = 0) (hw : ∀ n ∈ zs, (Lit.int .u8 n).wf = true)
    (hc : ∀ a', a = some a' → ∀ c, c < cap → W.cell? (a'.add c) = some (.int .u8 (zs.getD c 0))) : ArgB W (.slice a len cap) ((zs.take len).map u8of) := by
  have hlen : ((zs.take len).map u8of).length = len := by simp [hz, hl]
  refine ⟨a, cap, by rw [hlen], by rw [hlen]; exact hl, fun hne => ?_⟩
  have h0 : 0 < cap := by
    rcases Nat.eq_zero_or_pos cap with h0 | h0
    · exfalso; apply hne; rw [List.eq_nil_of_length_eq_zero (show ((zs.take len).map u8of).length = 0 by rw [hlen]; omega)]; rfl
    · exact h0
  obtain ⟨a', rfl⟩ : ∃ a', a = some a' := by
    cases a with
    | none => have := ha rfl; omega
    | some a' => exact ⟨a', rfl⟩
  obtain ⟨b, o, rfl⟩ := addr_plain (hc a' rfl 0 h0)
  refine ⟨b, o, rfl, fun j v hv => ?_⟩
  rw [u8s_get] at hv
  have hj : j < ((zs.take len).map u8of).length := by
    rcases Nat.lt_or_ge j ((zs.take len).map u8of).length with h' | h'
    · exact h'
    · rw [List.getElem?_eq_none h'] at hv; simp at hv
  rw [List.getElem?_eq_getElem hj] at hv
  simp only [Option.map_some, Option.some.injEq] at hv
  subst hv
  rw [hlen] at hj
  have hjz : j < zs.length := by omega
  rw [← Addr.add_mid, hc _ rfl j (by omega), List.getElem_map, List.getElem_take, List.getD_eq_getElem?_getD, List.getElem?_eq_getElem hjz, u8of_val (hw _ (List.getElem_mem hjz))]
  rfl
/-- bytes that came in -/
theorem open_bytesA {W : World} {b0 : Nat} {t e : TypeId} {v : Value} {d : DataW H} {ps : List MemPlace} (ht : P.underlying t = some (.slice e)) (he : P.underlying e = some (.int .u8))
    (ce : P.cellsOf e = 1) (be : P.bytesOf e = 1) (hv : Value.okWide P W .any b0 t v) (h : DataW.Trod enc P W 0 (fun _ => true) true t v d ps)
    (hz : ∀ n ∈ d.weights P t, n ≤ reachBytes) :
    ∃ (A : Option Addr) (n c : Nat) (l : List UInt8), v = .slice A n c ∧ ArgB W (.slice A n c) l ∧ c ≤ 140737488351232 := by
  obtain ⟨a, len, cap, rfl⟩ := okWide_slice ht hv
  obtain ⟨fuel, hf⟩ := h
  rcases open_ints ht he ce hf with ⟨hcs, hx⟩ | ⟨a', len', cap', zs, hcs, _, hl, hm, hn, hx, hc, hs⟩
  · simp [Value.cells] at hcs
    obtain ⟨rfl, rfl, rfl⟩ := hcs
    exact ⟨none, 0, 0, [], rfl, ArgB.nil _ _ _, by simp⟩
  · simp [Value.cells] at hcs
    obtain ⟨rfl, rfl, rfl⟩ := hcs
    have hn' : zs.length = cap := by simpa using hn
    injection hx with hd _
    have hw := hz ((len + (cap - len)) * P.bytesOf e) (by rw [hd]; simp [DataW.weights, ht, hn', lits, Nat.min_eq_left hl])
    rw [be] at hw
    refine ⟨some a', len, cap, _, rfl, argB_cells hn' hl (fun h => by cases h) hs (fun a'' h c hcc => by injection h with h; subst h; exact hc c (by omega)), by simp [reachBytes] at hw; omega⟩
end
end Go.Proofs.YtlgbmkdeamgpkaaGreatDoor

/- The law's calls that came in: lists of two numbers and a message. No condition beyond what each theorem states. -/
namespace Go.Proofs.YtlgbmkdeamgpkaaGreatDoor
open Go Go.ChangeShapes Go.WideShapes Go.ChangeAt Go.RowKit Go.Deep Go.PlainAid

/-- what is known of a message that came in -/
def MsgOk (w : World) (m : Msg) (A : Option Addr) (c : Nat) : Prop := ArgInts w (.slice A m.stamp.length c) m.stamp ∧ Rng m ∧ Short maxLen m ∧ m.stamp.length ≤ 17592186043904 ∧ m.path.length ≤ 140737488355328
theorem MsgOk.no {w w' : World} {m : Msg} {A : Option Addr} {c : Nat} (h : MsgOk w m A c) (hk : Kp No w w') : MsgOk w' m A c := ⟨h.1.no hk, h.2⟩
structure Opx where
  kind : Int
  k : Int
  m : Msg
  A : Option Addr
  c : Nat
def opC (x : Opx) : List Value := .int .i64 x.kind :: .int .i64 x.k :: mcells x.m (.slice x.A x.m.stamp.length x.c)
def OpOk (w : World) (x : Opx) : Prop := MsgOk w x.m x.A x.c ∧ -9223372036854775808 ≤ x.k ∧ x.k ≤ 9223372036854775807
def ArgOps (w : World) (v : Value) (l : List Opx) : Prop := ∃ A c, v = .slice A l.length c ∧ l.length ≤ c ∧ (l ≠ [] → ∃ g o, A = some ⟨g, o, none⟩ ∧ ∀ k (h : k < l.length), OpOk w l[k] ∧ w.rangeAt g (o + k * 18) (opC l[k]))
theorem addr_none {w : World} {a : Addr} {v : Value} (h : w.cell? (a.add 0) = some v) : ∃ b o, a = ⟨b, o, none⟩ := by
  obtain ⟨b, o, s⟩ := a
  cases s with
  | none => exact ⟨b, o, rfl⟩
  | some s =>
    exfalso
    simp only [World.cell?, Addr.add, if_true] at h
    split at h <;> simp_all
theorem mapM_some {α β : Type} {f : α → Option β} : ∀ {l : List α} {r : List β}, l.mapM f = some r → r.length = l.length ∧ ∀ i (h : i < l.length), f l[i] = r[i]?
  | [], r, h => by simp at h; subst h; exact ⟨rfl, by intro i hi; simp at hi⟩
  | a :: t, r, h => by
    rw [List.mapM_cons] at h
    cases ha : f a with
    | none => simp [ha] at h
    | some b =>
      cases ht : t.mapM f with
      | none => simp [ha, ht] at h
      | some bs =>
        simp [ha, ht] at h
        subst h
        obtain ⟨h1, h2⟩ := mapM_some ht
        refine ⟨by simp [h1], fun i hi => ?_⟩
        rcases i with _ | i
        · simpa using ha
        · simpa using h2 i (by simpa using hi)
section
variable {H : Type} {enc : TypeId × Value → H} {P : Program}
theorem list16 {α : Type} {cs : List α} (h : cs.length = 16) : ∃ a0 a1 a2 a3 a4 a5 a6 a7 a8 a9 a10 a11 a12 a13 a14 a15, cs = [a0, a1, a2, a3, a4, a5, a6, a7, a8, a9, a10, a11, a12, a13, a14, a15] :=
  match cs, h with
  | [a0, a1, a2, a3, a4, a5, a6, a7, a8, a9, a10, a11, a12, a13, a14, a15], _ => ⟨a0, a1, a2, a3, a4, a5, a6, a7, a8, a9, a10, a11, a12, a13, a14, a15, rfl⟩
/-- a struct of one-cell fields, by its cells, opened -/
theorem open_aggC {w : World} {base : Nat} {spare : Nat → Bool} {held : Bool} {n0 : Nat} {t : TypeId} {fs : Array Field} {cs : List Value} {y : DataW H × List MemPlace} (hs : P.underlying t = some (.struct fs)) (hone : oneCellFields P fs = true) (hl : cs.length = fs.size)
    (hf : DataW.trod enc P w base spare held n0 t cs = some y) :
    ∃ (n : Nat) (xs : List (DataW H × List MemPlace)), y.1 = .agg (xs.map (·.1)) ∧ ∀ (j : Nat) (f : Field), fs[j]? = some f → ∃ c z, cs[j]? = some c ∧ (xs.map (·.1))[j]? = some z.1 ∧ DataW.trod enc P w base spare held n f.type [c] = some z := by
  obtain ⟨xs, n, _, hx, hl2, hlen, hg⟩ := DataW.trod_struct hs hf
  refine ⟨n, xs, by rw [hx], fun j f hj => ?_⟩
  obtain ⟨o, k⟩ := hone_of hone j f hj
  have hjl : j < fs.size := (Array.getElem?_eq_some_iff.1 hj).1
  have hg1 := hg j f hj
  rw [o, k] at hg1
  have hcl : j < cs.length := by omega
  have e1 : (cs.drop j).take 1 = [cs[j]'(by omega)] := by
    rw [List.drop_eq_getElem_cons hcl, List.take_succ_cons, List.take_zero]
  rw [e1] at hg1
  have hys : xs[j]? = some (xs[j]'(by omega)) := List.getElem?_eq_getElem (by omega)
  exact ⟨cs[j]'(by omega), xs[j]'(by omega), List.getElem?_eq_getElem (by omega), by rw [List.getElem?_map, hys]; rfl, hg1.trans hys⟩
end
set_option maxRecDepth 100000 in
set_option maxHeartbeats 1000000 in
theorem open_msgC {H : Type} {enc : TypeId × Value → H} {W : World} {n : Nat} {cs : List Value} {y : DataW H × List MemPlace} (hl : cs.length = 16) (hf : DataW.trod enc Tryz.prog W 0 (fun _ => true) true n 38 cs = some y) (hz : ∀ k ∈ y.1.weights Tryz.prog 38, k ≤ reachBytes) :
    ∃ (m : Msg) (A : Option Addr) (c : Nat), cs = mcells m (.slice A m.stamp.length c) ∧ MsgOk W m A c := by
  obtain ⟨n, xs, hy, hg⟩ := open_aggC Tryz.underlying38 (by kernel_rfl) hl hf
  rw [hy] at hz
  have hw : ∀ (j : Nat) t y, ([34, 3, 3, 3, 3, 3, 35, 9, 36, 3, 3, 4, 23, 31, 3, 3] : List TypeId)[j]? = some t → (xs.map (·.1))[j]? = some y → ∀ n ∈ y.weights Tryz.prog t, n ≤ reachBytes := fun j t y h1 h2 n hn => hz n (by
    have := DataW.weights_mem_each h1 h2 n hn
    simpa [DataW.weights, Tryz.underlying38] using this)
  obtain ⟨c0, y0, e0, x0, t0⟩ := hg 0 _ rfl
  obtain ⟨c1, y1, e1, x1, t1⟩ := hg 1 _ rfl
  obtain ⟨c2, y2, e2, x2, t2⟩ := hg 2 _ rfl
  obtain ⟨c3, y3, e3, x3, t3⟩ := hg 3 _ rfl
  obtain ⟨c4, y4, e4, x4, t4⟩ := hg 4 _ rfl
  obtain ⟨c5, y5, e5, x5, t5⟩ := hg 5 _ rfl
  obtain ⟨c6, y6, e6, x6, t6⟩ := hg 6 _ rfl
  obtain ⟨c7, y7, e7, x7, t7⟩ := hg 7 _ rfl
  obtain ⟨c8, y8, e8, x8, t8⟩ := hg 8 _ rfl
  obtain ⟨c9, y9, e9, x9, t9⟩ := hg 9 _ rfl
  obtain ⟨c10, y10, e10, x10, t10⟩ := hg 10 _ rfl
  obtain ⟨c11, y11, e11, x11, t11⟩ := hg 11 _ rfl
  obtain ⟨c12, y12, e12, x12, t12⟩ := hg 12 _ rfl
  obtain ⟨c13, y13, e13, x13, t13⟩ := hg 13 _ rfl
  obtain ⟨c14, y14, e14, x14, t14⟩ := hg 14 _ rfl
  obtain ⟨c15, y15, e15, x15, t15⟩ := hg 15 _ rfl
  clear hg hz hf
  obtain ⟨a0, a1, a2, a3, a4, a5, a6, a7, a8, a9, a10, a11, a12, a13, a14, a15, rfl⟩ := list16 hl
  simp only [List.getElem?_cons_zero, List.getElem?_cons_succ, Option.some.injEq] at e0 e1 e2 e3 e4 e5 e6 e7 e8 e9 e10 e11 e12 e13 e14 e15
  subst e0 e1 e2 e3 e4 e5 e6 e7 e8 e9 e10 e11 e12 e13 e14 e15
  obtain ⟨n0, h0, _, w0⟩ := DataW.trod_int Tryz.underlying34 t0
  obtain ⟨n1, h1, _, w1⟩ := DataW.trod_int Tryz.underlying3 t1
  obtain ⟨n2, h2, _, w2⟩ := DataW.trod_int Tryz.underlying3 t2
  obtain ⟨n3, h3, _, w3⟩ := DataW.trod_int Tryz.underlying3 t3
  obtain ⟨n4, h4, _, w4⟩ := DataW.trod_int Tryz.underlying3 t4
  obtain ⟨n5, h5, _, w5⟩ := DataW.trod_int Tryz.underlying3 t5
  obtain ⟨n6, h6, _, w6⟩ := DataW.trod_int Tryz.underlying35 t6
  obtain ⟨s, h7, q7, w7⟩ := DataW.trod_string Tryz.underlying9 t7
  have hpl : s.data.toList.length ≤ reachBytes := hw 7 _ _ rfl x7 _ (by rw [(Prod.mk.inj q7).1]; simp [DataW.weights])
  clear q7
  unfold reachBytes at hpl
  obtain ⟨n8, h8, _, w8⟩ := DataW.trod_int Tryz.underlying36 t8
  obtain ⟨n9, h9, _, w9⟩ := DataW.trod_int Tryz.underlying3 t9
  obtain ⟨n10, h10, _, w10⟩ := DataW.trod_int Tryz.underlying3 t10
  obtain ⟨fr, h11, _⟩ := DataW.trod_bool Tryz.underlying4 t11
  obtain ⟨n12, h12, _, w12⟩ := DataW.trod_int Tryz.underlying23 t12
  obtain ⟨L, hL, hLl, hLr⟩ := open_intsF Tryz.underlying31 Tryz.underlying3 (by kernel_rfl) (by kernel_rfl) t13 (hw 13 _ _ rfl x13)
  obtain ⟨n14, h14, _, w14⟩ := DataW.trod_int Tryz.underlying3 t14
  obtain ⟨n15, h15, _, w15⟩ := DataW.trod_int Tryz.underlying3 t15
  simp only [List.cons.injEq, and_true] at h0 h1 h2 h3 h4 h5 h6 h7 h8 h9 h10 h11 h12 h14 h15
  subst h0 h1 h2 h3 h4 h5 h6 h7 h8 h9 h10 h11 h12 h14 h15
  obtain ⟨A, c, rfl, hc, hcs⟩ := hL
  refine ⟨{ kind := n0, from_ := n1, dest := n2, boot := n3, seq := n4, low := n5, verb := n6, path := s.data.toList, mode := n8, term := n9, id := n10, fresh := fr, code := n12, stamp := L, origin := n14, number := n15 }, A, c, rfl, ⟨A, c, rfl, hc, hcs⟩, ⟨?_, fun x hx => by have := hLr x hx; omega⟩, ⟨by show s.data.toList.length ≤ maxLen; rw [Array.length_toList]; exact w7, by show L.length ≤ maxLen; unfold maxLen; omega⟩, hLl, by show s.data.toList.length ≤ _; omega⟩
  intro x hx
  simp only [List.mem_cons, List.not_mem_nil, or_false] at hx
  have b0 := bounds_i64 w0
  have b1 := bounds_i64 w1
  have b2 := bounds_i64 w2
  have b3 := bounds_i64 w3
  have b4 := bounds_i64 w4
  have b5 := bounds_i64 w5
  have b6 := bounds_i64 w6
  have b8 := bounds_i64 w8
  have b9 := bounds_i64 w9
  have b10 := bounds_i64 w10
  have b12 := bounds_i64 w12
  have b14 := bounds_i64 w14
  have b15 := bounds_i64 w15
  rcases hx with rfl | rfl | rfl | rfl | rfl | rfl | rfl | rfl | rfl | rfl | rfl | rfl | rfl <;> omega
theorem weights_all {H : Type} {P : Program} {e : TypeId} : ∀ {l : List (DataW H)} {d : DataW H}, d ∈ l → ∀ n ∈ d.weights P e, n ∈ DataW.weightsAll P e l
  | [], _, h, _, _ => by cases h
  | x :: l, d, h, n, hn => by
    rw [DataW.weightsAll]
    rcases List.mem_cons.1 h with rfl | h
    · exact List.mem_append.2 (.inl hn)
    · exact List.mem_append.2 (.inr (weights_all h n hn))
set_option maxRecDepth 100000 in
set_option maxHeartbeats 1000000 in
theorem open_ops {H : Type} {enc : TypeId × Value → H} {W : World} {b0 : Nat} {v : Value} {d : DataW H} {ps : List MemPlace} (hv : Value.okWide Tryz.prog W .any b0 30 v) (h : DataW.Trod enc Tryz.prog W 0 (fun _ => true) true 30 v d ps)
    (hz : ∀ n ∈ d.weights Tryz.prog 30, n ≤ reachBytes) : ∃ l : List Opx, ArgOps W v l ∧ l.length ≤ 17592186043904 := by
  obtain ⟨a, len, cap, rfl⟩ := okWide_slice Tryz.underlying30 hv
  obtain ⟨fuel, hf⟩ := h
  rcases open_slice Tryz.underlying30 hf with ⟨hcs, hx⟩ | ⟨a', len', cap', m, n, D, Pl, hcs, _, hl, hm, hmm, hx, hr⟩
  · simp [Value.cells] at hcs
    obtain ⟨rfl, rfl, rfl⟩ := hcs
    exact ⟨[], ⟨Option.none, 0, rfl, Nat.le_refl _, fun h => absurd rfl h⟩, by simp⟩
  · simp [Value.cells] at hcs
    obtain ⟨rfl, rfl, rfl⟩ := hcs
    simp at hmm
    subst hmm
    injection hx with hd _
    have hce : Tryz.prog.cellsOf 40 = 18 := by kernel_rfl
    have hbe : Tryz.prog.bytesOf 40 = 168 := by kernel_rfl
    have hzz : ∀ i, i < len → ∀ n ∈ (D i).weights Tryz.prog 40, n ≤ reachBytes := fun i hi n hn => hz n (by
      rw [hd]
      simp only [DataW.weights, Tryz.underlying30]
      refine List.mem_cons_of_mem _ (List.mem_append.2 (.inl (weights_all (d := D i) (List.mem_map.2 ⟨i, List.mem_range.2 hi, rfl⟩) n hn)))
      )
    have hone : ∀ i, i < len → ∃ o : Opx, OpOk W o ∧ ∀ j v, (opC o)[j]? = some v → W.cell? ((a'.add (i * 18)).add j) = some v := fun i hi => by
      obtain ⟨cs', hcs', htr⟩ := hr i (by omega)
      rw [hce] at hcs'
      obtain ⟨xs, n', _, hxx, hcl, hxl, hg⟩ := DataW.trod_struct Tryz.underlying40 htr
      simp only [Prod.mk.injEq] at hxx
      have hw := hzz i hi
      rw [hxx.1] at hw
      have hw2 : ∀ (j : Nat) t y, ([3, 3, 38] : List TypeId)[j]? = some t → (xs.map (·.1))[j]? = some y → ∀ n ∈ y.weights Tryz.prog t, n ≤ reachBytes := fun j t y h1 h2 n hn => hw n (by
        have := DataW.weights_mem_each h1 h2 n hn
        simpa [DataW.weights, Tryz.underlying40] using this)
      unfold World.cells? at hcs'
      rw [if_pos (Nat.zero_le _)] at hcs'
      obtain ⟨hl4, hc4⟩ := mapM_some hcs'
      simp only [List.length_range] at hl4 hc4
      have c0 : Tryz.prog.cellsOf 3 = 1 := by kernel_rfl
      have c1 : Tryz.prog.cellsOf 38 = 16 := by kernel_rfl
      have g0 : DataW.trod enc Tryz.prog W 0 (fun _ => true) true n' 3 ((cs'.drop 0).take (Tryz.prog.cellsOf 3)) = xs[0]? := hg 0 _ rfl
      have g1 : DataW.trod enc Tryz.prog W 0 (fun _ => true) true n' 3 ((cs'.drop 1).take (Tryz.prog.cellsOf 3)) = xs[1]? := hg 1 _ rfl
      have g2 : DataW.trod enc Tryz.prog W 0 (fun _ => true) true n' 38 ((cs'.drop 2).take (Tryz.prog.cellsOf 38)) = xs[2]? := hg 2 _ rfl
      rw [c0] at g0 g1
      rw [c1] at g2
      match xs, hxl with
      | [y0, y1, y2], _ =>
        simp only [List.getElem?_cons_zero, List.getElem?_cons_succ] at g0 g1 g2
        obtain ⟨m1, A1, q1, e1, k1⟩ := open_msgC (by rw [List.length_take, List.length_drop, hl4]; rfl) g2 (hw2 2 _ _ rfl rfl)
        obtain ⟨n0, e0, _, w0⟩ := DataW.trod_int Tryz.underlying3 g0
        obtain ⟨n1, e2, _, w1⟩ := DataW.trod_int Tryz.underlying3 g1
        refine ⟨⟨n0, n1, m1, A1, q1⟩, ⟨k1, bounds_i64 w1⟩, fun j v hj => ?_⟩
        have hcs : cs' = opC ⟨n0, n1, m1, A1, q1⟩ := by
          have h1 : cs' = cs'.take 1 ++ ((cs'.drop 1).take 1 ++ (cs'.drop 2).take 16) := by
            have h3 : (cs'.drop 2).take 16 = cs'.drop 2 := List.take_of_length_le (by rw [List.length_drop, hl4]; omega)
            rw [h3, show cs'.drop 2 = (cs'.drop 1).drop 1 from by rw [List.drop_drop], List.take_append_drop, List.take_append_drop]
          have h0 : cs'.take 1 = [.int .i64 n0] := by
            have : (cs'.drop 0).take 1 = _ := e0
            rwa [List.drop_zero] at this
          rw [h1, h0, e2, e1]
          rfl
        rw [← hcs] at hj
        have hj4 : j < 18 := by have := (List.getElem?_eq_some_iff.1 hj).1; omega
        have := hc4 j hj4
        rw [List.getElem_range] at this
        rw [this]
        exact hj
    obtain ⟨f, hf'⟩ : ∃ f : Nat → Opx, ∀ i, i < len → OpOk W (f i) ∧ ∀ j v, (opC (f i))[j]? = some v → W.cell? ((a'.add (i * 18)).add j) = some v :=
      ⟨fun i => if h : i < len then (hone i h).choose else ⟨0, 0, {}, none, 0⟩, fun i hi => by
        simp only [dif_pos hi]
        exact (hone i hi).choose_spec⟩
    refine ⟨(List.range len).map f, ⟨some a', m, by simp, by simp; omega, fun hne => ?_⟩, ?_⟩
    · have hlen : 0 < len := by
        rcases Nat.eq_zero_or_pos len with h0 | h0
        · subst h0; simp at hne
        · exact h0
      have h00 := (hf' 0 hlen).2 0 (.int .i64 (f 0).kind) rfl
      rw [add_add, Nat.zero_mul] at h00
      obtain ⟨b, o, rfl⟩ := addr_none h00
      refine ⟨b, o, rfl, fun k hk => ⟨by simpa using (hf' k (by simpa using hk)).1, fun j v hj => ?_⟩⟩
      have hk' : k < len := by simpa using hk
      simp only [List.getElem_map, List.getElem_range] at hj
      have := (hf' k hk').2 j v hj
      rw [add_add, Addr.add_mid] at this
      rw [Nat.add_assoc]; exact this
    · simp only [List.length_map, List.length_range]
      have := hz ((len + (m - len)) * Tryz.prog.bytesOf 40) (by rw [hd]; simp [DataW.weights, Tryz.underlying30])
      rw [hbe] at this
      unfold reachBytes at this
      omega
end Go.Proofs.YtlgbmkdeamgpkaaGreatDoor

/- Words of the gate's laws: stores of calls and messages; the disk's calls beside a gate. No condition beyond what each theorem states. -/
namespace Go.Proofs.YtlgbmkdeamgpkaaGreatDoor
open Go Go.RowKit Go.PlainAid

section
open Go.ChangeShapes Go.WideShapes Go.ChangeAt Go.Deep
variable {H : Type} {enc : TypeId × Value → H} {P : Program}
/-- a list of ints that came in -/
theorem open_intsA {W : World} {b0 : Nat} {t e : TypeId} {v : Value} {d : DataW H} {ps : List MemPlace} (ht : P.underlying t = some (.slice e)) (he : P.underlying e = some (.int .i64))
    (ce : P.cellsOf e = 1) (be : P.bytesOf e = 8) (hv : Value.okWide P W .any b0 t v) (h : DataW.Trod enc P W 0 (fun _ => true) true t v d ps)
    (hz : ∀ n ∈ d.weights P t, n ≤ reachBytes) :
    ∃ L : List Int, ArgInts W v L ∧ L.length ≤ 17592186043904 ∧ ∀ n ∈ L, -9223372036854775808 ≤ n ∧ n ≤ 9223372036854775807 := by
  obtain ⟨a, len, cap, rfl⟩ := okWide_slice ht hv
  obtain ⟨fuel, hf⟩ := h
  rcases open_ints ht he ce hf with ⟨hcs, hx⟩ | ⟨a', len', cap', zs, hcs, _, hl, hm, hn, hx, hc, hs⟩
  · simp [Value.cells] at hcs
    obtain ⟨rfl, rfl, rfl⟩ := hcs
    exact ⟨[], ArgInts.nil _ _ _, by simp, by simp⟩
  · simp [Value.cells] at hcs
    obtain ⟨rfl, rfl, rfl⟩ := hcs
    have hn' : zs.length = cap := by simpa using hn
    injection hx with hd _
    have hw := hz ((len + (cap - len)) * P.bytesOf e) (by rw [hd]; simp [DataW.weights, ht, hn', lits, Nat.min_eq_left hl])
    rw [be] at hw
    have hlen : (zs.take len).length = len := by simp [hn', hl]
    refine ⟨zs.take len, ⟨some a', cap, by rw [hlen], by rw [hlen]; exact hl, fun hne => ?_⟩, by rw [hlen]; simp [reachBytes] at hw; omega, fun x hx => bounds_i64 (hs x (List.mem_of_mem_take hx))⟩
    have h0 : 0 < zs.length := by
      rcases Nat.eq_zero_or_pos zs.length with h0 | h0
      · exfalso; apply hne; rw [List.eq_nil_of_length_eq_zero h0]; simp [ints]
      · exact h0
    have addr_none : ∀ {w : World} {a : Addr} {v : Value}, w.cell? (a.add 0) = some v → ∃ b o, a = ⟨b, o, none⟩ := by
      intro w a v h
      obtain ⟨b, o, s⟩ := a
      cases s with
      | none => exact ⟨b, o, rfl⟩
      | some s =>
        exfalso
        simp only [World.cell?, Addr.add, if_true] at h
        split at h <;> simp_all
    obtain ⟨b, o, rfl⟩ := addr_none (hc 0 h0)
    refine ⟨b, o, rfl, fun j v hv => ?_⟩
    rw [ints_get] at hv
    have hj : j < (zs.take len).length := by
      rcases Nat.lt_or_ge j (zs.take len).length with h' | h'
      · exact h'
      · rw [List.getElem?_eq_none h'] at hv; simp at hv
    rw [List.getElem?_eq_getElem hj] at hv
    simp only [Option.map_some, Option.some.injEq] at hv
    subst hv
    rw [hlen] at hj
    rw [← Addr.add_mid, hc j (by omega), List.getElem_take, List.getD_eq_getElem?_getD, List.getElem?_eq_getElem (by omega)]
    rfl
end
theorem mcells_len (m : Msg) (sv : Value) : (mcells m sv).length = 16 := rfl
theorem msg_there (w : World) (m : Msg) (sv : Value) : (w.alloc (.cells #[.int .i64 0, .int .i64 0, .int .i64 0, .int .i64 0, .int .i64 0, .int .i64 0, .int .i64 0, .string ⟨#[]⟩, .int .i64 0, .int .i64 0, .int .i64 0, .bool false, .int .i64 0, .slice none 0 0, .int .i64 0, .int .i64 0] 38)).there w.heap.size 0 (mcells m sv).toArray.size :=
  (show Bk (w.alloc (.cells #[.int .i64 0, .int .i64 0, .int .i64 0, .int .i64 0, .int .i64 0, .int .i64 0, .int .i64 0, .string ⟨#[]⟩, .int .i64 0, .int .i64 0, .int .i64 0, .bool false, .int .i64 0, .slice none 0 0, .int .i64 0, .int .i64 0] 38)) w.heap.size 38 (mcells ({} : Msg) (.slice none 0 0)) from Bk.new' rfl rfl).there 0 _ (by simp [mcells])
theorem msg_info (m : Msg) (sv : Value) : (Tryz.prog.info? 38).map (·.size) = some (mcells m sv).toArray.size := by kernel_rfl
theorem msg_one (m : Msg) (A : Option Addr) (n c : Nat) : (mcells m (.slice A n c)).toArray.all (·.oneCell') = true := by simp [mcells, Value.oneCell']
theorem msg_store (w : World) (m : Msg) (A : Option Addr) (n c : Nat) : Bk ((w.alloc (.cells #[.int .i64 0, .int .i64 0, .int .i64 0, .int .i64 0, .int .i64 0, .int .i64 0, .int .i64 0, .string ⟨#[]⟩, .int .i64 0, .int .i64 0, .int .i64 0, .bool false, .int .i64 0, .slice none 0 0, .int .i64 0, .int .i64 0] 38)).setCells w.heap.size 0 (mcells m (.slice A n c))) w.heap.size 38 (mcells m (.slice A n c)) ∧ Kp No w ((w.alloc (.cells #[.int .i64 0, .int .i64 0, .int .i64 0, .int .i64 0, .int .i64 0, .int .i64 0, .int .i64 0, .string ⟨#[]⟩, .int .i64 0, .int .i64 0, .int .i64 0, .bool false, .int .i64 0, .slice none 0 0, .int .i64 0, .int .i64 0] 38)).setCells w.heap.size 0 (mcells m (.slice A n c))) := by
  refine ⟨?_, Kp.sets _ 0 ((Kp.refl No w).alloc _) (.inr (Nat.le_refl _))⟩
  have h0 : Bk (w.alloc (.cells #[.int .i64 0, .int .i64 0, .int .i64 0, .int .i64 0, .int .i64 0, .int .i64 0, .int .i64 0, .string ⟨#[]⟩, .int .i64 0, .int .i64 0, .int .i64 0, .bool false, .int .i64 0, .slice none 0 0, .int .i64 0, .int .i64 0] 38)) w.heap.size 38 (mcells ({} : Msg) (.slice none 0 0)) := Bk.new' rfl rfl
  have h := Bk.sets (mcells m (.slice A n c)) 0 h0 (by simp [mcells])
  rw [List.take_zero, List.nil_append, List.drop_of_length_le (by simp [mcells]), List.append_nil] at h
  exact h
def toM (m : Msg) : Msg := { m with dest := 8 }
theorem toM_cells (m : Msg) (sv : Value) : (mcells m sv).set 2 (.int .i64 8) = mcells (toM m) sv := rfl
theorem toM_rng {m : Msg} (h : Rng m) : Rng (toM m) := by
  refine ⟨fun x hx => ?_, h.2⟩
  have h1 := h.1
  simp only [toM, List.mem_cons, List.not_mem_nil, or_false] at hx h1
  rcases hx with rfl | rfl | rfl | rfl | rfl | rfl | rfl | rfl | rfl | rfl | rfl | rfl | rfl <;> first | omega | (apply h1; simp)
theorem op_infoL (x : Opx) : (Tryz.prog.info? 40).map (·.size) = some (opC x).length := by kernel_rfl
theorem op_info (x : Opx) : (Tryz.prog.info? 40).map (·.size) = some (opC x).toArray.size := by kernel_rfl
theorem op_one (x : Opx) : (opC x).toArray.all (·.oneCell') = true := by simp [opC, mcells, Value.oneCell']
theorem op_store (w : World) (C : List Value) (hc : C.length = 18) : Bk ((w.alloc (.cells #[.int .i64 0, .int .i64 0, .int .i64 0, .int .i64 0, .int .i64 0, .int .i64 0, .int .i64 0, .int .i64 0, .int .i64 0, .string ⟨#[]⟩, .int .i64 0, .int .i64 0, .int .i64 0, .bool false, .int .i64 0, .slice none 0 0, .int .i64 0, .int .i64 0] 40)).setCells w.heap.size 0 C) w.heap.size 40 C ∧ Kp No w ((w.alloc (.cells #[.int .i64 0, .int .i64 0, .int .i64 0, .int .i64 0, .int .i64 0, .int .i64 0, .int .i64 0, .int .i64 0, .int .i64 0, .string ⟨#[]⟩, .int .i64 0, .int .i64 0, .int .i64 0, .bool false, .int .i64 0, .slice none 0 0, .int .i64 0, .int .i64 0] 40)).setCells w.heap.size 0 C) := by
  refine ⟨?_, Kp.sets _ 0 ((Kp.refl No w).alloc _) (.inr (Nat.le_refl _))⟩
  have h := Bk.sets C 0 (show Bk (w.alloc (.cells #[.int .i64 0, .int .i64 0, .int .i64 0, .int .i64 0, .int .i64 0, .int .i64 0, .int .i64 0, .int .i64 0, .int .i64 0, .string ⟨#[]⟩, .int .i64 0, .int .i64 0, .int .i64 0, .bool false, .int .i64 0, .slice none 0 0, .int .i64 0, .int .i64 0] 40)) w.heap.size 40 [.int .i64 0, .int .i64 0, .int .i64 0, .int .i64 0, .int .i64 0, .int .i64 0, .int .i64 0, .int .i64 0, .int .i64 0, .string ⟨#[]⟩, .int .i64 0, .int .i64 0, .int .i64 0, .bool false, .int .i64 0, .slice none 0 0, .int .i64 0, .int .i64 0] from Bk.new' rfl rfl) (by rw [hc]; decide)
  rw [List.take_zero, List.nil_append, List.drop_of_length_le (by rw [hc]; decide), List.append_nil] at h
  exact h
theorem op_there (w : World) (n : Nat) (hn : n = 18) : (w.alloc (.cells #[.int .i64 0, .int .i64 0, .int .i64 0, .int .i64 0, .int .i64 0, .int .i64 0, .int .i64 0, .int .i64 0, .int .i64 0, .string ⟨#[]⟩, .int .i64 0, .int .i64 0, .int .i64 0, .bool false, .int .i64 0, .slice none 0 0, .int .i64 0, .int .i64 0] 40)).there w.heap.size 0 n :=
  (show Bk (w.alloc (.cells #[.int .i64 0, .int .i64 0, .int .i64 0, .int .i64 0, .int .i64 0, .int .i64 0, .int .i64 0, .int .i64 0, .int .i64 0, .string ⟨#[]⟩, .int .i64 0, .int .i64 0, .int .i64 0, .bool false, .int .i64 0, .slice none 0 0, .int .i64 0, .int .i64 0] 40)) w.heap.size 40 [.int .i64 0, .int .i64 0, .int .i64 0, .int .i64 0, .int .i64 0, .int .i64 0, .int .i64 0, .int .i64 0, .int .i64 0, .string ⟨#[]⟩, .int .i64 0, .int .i64 0, .int .i64 0, .bool false, .int .i64 0, .slice none 0 0, .int .i64 0, .int .i64 0] from Bk.new' rfl rfl).there 0 _ (by rw [hn]; decide)
theorem op_m (x : Opx) : ∀ j v, (mcells x.m (.slice x.A x.m.stamp.length x.c))[j]? = some v → (opC x)[2 + j]? = some v := fun j v h => by
  unfold opC
  rw [show 2 + j = j + 1 + 1 from by omega, List.getElem?_cons_succ, List.getElem?_cons_succ]; exact h
theorem op_range {w : World} {g : Nat} {x : Opx} (h : Bk w g 40 (opC x)) : w.rangeAt g 2 (mcells x.m (.slice x.A x.m.stamp.length x.c)) :=
  fun j v hj => by have := range_of h (2 + j) v (op_m x j v hj); rwa [Nat.zero_add] at this
/-- a whole array read under a guard that holds -/
theorem wpList_load_mid_g {P : Program} {ops : Array Oper} {rest : List Oper} {op : Oper} {a : Act} {w : World} {Q : Exit → Act → World → Prop} (hw : Region.wanted op (yielded ops a.tmps) = true) (ty : TypeId) (x : Operand) (ho : op.op = .load ty x)
    (b o : Nat) (hx : a.eval x = .pointer (some ⟨b, o, none⟩)) (cs : List Value) (d : TypeDesc) (hc : w.rangeAt b o cs)
    (hu : P.underlying ty = some d) (hd : d.isRow = true) (hi : (P.info? ty).map (·.size) = some cs.length)
    (h : wpList P ops Q rest (a.put op.dst (.agg cs.toArray)) w) : wpList P ops Q (op :: rest) a w :=
  wpList_step fun K hK => by
    rw [if_pos hw]
    exact wp_load_mid ty x ho b o hx cs d hc hu hd hi (hK _ _ h)
/-- append([]int{}, x...) -/
theorem copy_g {w0 : World} {ops : Array Oper} {rest : List Oper} {o : Oper} {a : Act} {Q : Exit → Act → World → Prop} (hw : Region.wanted o (yielded ops a.tmps) = true) (s x : Operand)
    (ho : o.op = .call { callee := .builtin .append, args := #[s, x], argTypes := #[31, 31] }) (hs : a.eval s = .slice (some ⟨w0.heap.size, 0, none⟩) 0 0)
    (A : Option Addr) (L : List Int) (c : Nat) (hx : a.eval x = .slice A L.length c) (hc : ArgInts w0 (.slice A L.length c) L) (hl : L.length ≤ 17592186044416)
    (h : ∀ A' c' w', w'.ownsRow w0.heap.size 3 1 (.slice A' L.length c') L.length (ints L) → Kp No w0 w' → wpList Tryz.prog ops Q rest (a.put o.dst (.slice A' L.length c')) w') :
    wpList Tryz.prog ops Q (o :: rest) a (w0.alloc (.cells #[] 3)) := by
  have kE := (Kp.refl No w0).alloc (.cells #[] 3)
  have ho0 := own_fresh w0 w0.heap.size 3 (Nat.le_refl _)
  refine wpList_step fun K hK => ?_
  rw [if_pos hw]
  refine wp_appV _ s x _ ho w0.heap.size 3 _ 8 Tryz.underlying31 Tryz.infoI rfl _ 0 [] hs ho0 A L.length c (ints L) hx (by simp) (hc.no kE).cs.1 (ints_one _) (by omega) (by omega) kE.size ?_
  intro v' w' o1 k1 n1
  rw [Nat.zero_add, List.nil_append] at o1
  obtain ⟨A', c', rfl, _⟩ := own_len o1
  exact hK _ _ (h A' c' w' o1 (kp_own ho0 kE k1))
theorem arm_gs (B gb db sb cap : Nat) (n : Int) (g : Gat) (d : Dsk) (k : Int) (W : World) (h : GS W B gb db sb cap n g d) (hk : k ≤ 9223372036854775807) :
    Calls Tryz.prog 24 #[.pointer (some ⟨db, 0, none⟩), .int .i64 k] W fun e w' => e = .returned (.tuple #[]) ∧ GS w' B gb db sb cap n g { d with ar := decide (0 ≤ k), lf := k } ∧ Kp (GM gb db sb) W w' := by
  refine (arm_any db k W _ d.wr d.ar d.lf d.off h.dk.1.st).mono ?_
  rintro e w' ⟨rfl, hb, kk⟩
  obtain ⟨sp, hse⟩ := h.dk.1.se
  obtain ⟨gcs, hgb⟩ := h.gt.bk
  refine ⟨rfl, ⟨h.gt.kp kk (fun e => hgb.ne_ h.dk.1.st (by decide) e) (fun q cs hq _ e => hq.ne_ h.dk.1.st (by decide) e), ⟨⟨hb, ⟨sp, hse.kp kk fun e => hse.ne_ h.dk.1.st (by decide) e⟩, h.dk.1.le, h.dk.1.n1, h.dk.1.n2⟩, ?_, h.dk.2.2⟩, ⟨h.inv.two, h.inv.len, h.inv.at_⟩, h.b1, h.b2, h.b3⟩, kk.mono fun q _ e => .inr (.inl e)⟩
  intro e
  have e : decide (0 ≤ k) = true := e
  rw [decide_eq_true_iff] at e
  exact ⟨e, by show k < _; omega⟩
theorem on_gs (B gb db sb cap : Nat) (n : Int) (g : Gat) (d : Dsk) (W : World) (h : GS W B gb db sb cap n g d) :
    Calls Tryz.prog 25 #[.pointer (some ⟨db, 0, none⟩)] W fun e w' => e = .returned (.tuple #[]) ∧ GS w' B gb db sb cap n g { d with off := false } ∧ Kp (GM gb db sb) W w' := by
  refine (on_any db W _ d.wr d.ar d.lf d.off h.dk.1.st).mono ?_
  rintro e w' ⟨rfl, hb, kk⟩
  obtain ⟨sp, hse⟩ := h.dk.1.se
  obtain ⟨gcs, hgb⟩ := h.gt.bk
  exact ⟨rfl, ⟨h.gt.kp kk (fun e => hgb.ne_ h.dk.1.st (by decide) e) (fun q cs hq _ e => hq.ne_ h.dk.1.st (by decide) e), ⟨⟨hb, ⟨sp, hse.kp kk fun e => hse.ne_ h.dk.1.st (by decide) e⟩, h.dk.1.le, h.dk.1.n1, h.dk.1.n2⟩, h.dk.2.1, h.dk.2.2⟩, ⟨h.inv.two, h.inv.len, h.inv.at_⟩, h.b1, h.b2, h.b3⟩, kk.mono fun q _ e => .inr (.inl e)⟩
theorem GS.apart {w : World} {B gb db sb cap : Nat} {n : Int} {g : Gat} {d : Dsk} (h : GS w B gb db sb cap n g d) {B' k : Nat} {v : Value} {xs : List Value} (ho : w.ownsRow B' 3 1 v k xs) {q : Nat} (e : v.ownBlock = some q) : ¬ GM gb db sb q := by
  obtain ⟨cs, hb⟩ := own_bk ho q e
  obtain ⟨gcs, hgb⟩ := h.gt.bk
  obtain ⟨sp, hse⟩ := h.dk.1.se
  rintro (m | m | m)
  · exact hb.ne_ hgb (by decide) m
  · exact hb.ne_ h.dk.1.st (by decide) m
  · exact hb.ne_ hse (by decide) m
theorem GS.ints {w : World} {B gb db sb cap : Nat} {n : Int} {g : Gat} {d : Dsk} (h : GS w B gb db sb cap n g d) {q : Nat} {cs : List Value} (hb : Bk w q 3 cs) : ¬ GM gb db sb q := by
  obtain ⟨gcs, hgb⟩ := h.gt.bk
  obtain ⟨sp, hse⟩ := h.dk.1.se
  rintro (m | m | m)
  · exact hb.ne_ hgb (by decide) m
  · exact hb.ne_ h.dk.1.st (by decide) m
  · exact hb.ne_ hse (by decide) m
theorem GS.msg {w : World} {B gb db sb cap : Nat} {n : Int} {g : Gat} {d : Dsk} (h : GS w B gb db sb cap n g d) {q : Nat} {cs : List Value} (hb : Bk w q 38 cs) : ¬ GM gb db sb q := by
  obtain ⟨gcs, hgb⟩ := h.gt.bk
  obtain ⟨sp, hse⟩ := h.dk.1.se
  rintro (m | m | m)
  · exact hb.ne_ hgb (by decide) m
  · exact hb.ne_ h.dk.1.st (by decide) m
  · exact hb.ne_ hse (by decide) m
theorem off_gs (B gb db sb cap : Nat) (n : Int) (g : Gat) (d : Dsk) (W : World) (h : GS W B gb db sb cap n g d) :
    Calls Tryz.prog 26 #[.pointer (some ⟨db, 0, none⟩)] W fun e w' => e = .returned (.bool d.off) ∧ W = w' := off_any db W _ d.wr d.ar d.lf d.off h.dk.1.st
end Go.Proofs.YtlgbmkdeamgpkaaGreatDoor

/- Plain laws of a gate: what is let by rises, and what may be let by is. No condition beyond what each theorem states. -/
namespace Go.Proofs.YtlgbmkdeamgpkaaGreatDoor
open Go

theorem cmpS_self : ∀ L : List Int, cmpS L L = 0
  | [] => rfl
  | a :: L => by rw [cmpS, if_neg (by omega), if_neg (by omega), cmpS_self L]
theorem cmpS_three : ∀ L M : List Int, (cmpS L M = 0 ∧ cmpS M L = 0 ∧ L = M) ∨ (cmpS L M = -1 ∧ cmpS M L = 1 ∧ L ≠ M) ∨ (cmpS L M = 1 ∧ cmpS M L = -1 ∧ L ≠ M)
  | [], [] => .inl ⟨rfl, rfl, rfl⟩
  | [], b :: M => .inr (.inl ⟨rfl, rfl, by simp⟩)
  | a :: L, [] => .inr (.inr ⟨rfl, rfl, by simp⟩)
  | a :: L, b :: M => by
    unfold cmpS
    by_cases h1 : a < b
    · rw [if_pos h1, if_neg (by omega), if_pos h1]
      exact .inr (.inl ⟨rfl, rfl, fun e => by injection e; omega⟩)
    · by_cases h2 : b < a
      · rw [if_neg h1, if_pos h2, if_pos h2]
        exact .inr (.inr ⟨rfl, rfl, fun e => by injection e; omega⟩)
      · obtain rfl : a = b := by omega
        rw [if_neg h1, if_neg h1, if_neg h1, if_neg h1]
        rcases cmpS_three L M with ⟨h1, h2, rfl⟩ | ⟨h1, h2, h3⟩ | ⟨h1, h2, h3⟩
        · exact .inl ⟨h1, h2, rfl⟩
        · exact .inr (.inl ⟨h1, h2, fun e => h3 (by injection e)⟩)
        · exact .inr (.inr ⟨h1, h2, fun e => h3 (by injection e)⟩)
theorem cmpS_trans : ∀ L M N : List Int, cmpS L M ≤ 0 → cmpS M N ≤ 0 → cmpS L N ≤ 0
  | [], _, [], _, _ => by simp [cmpS]
  | [], _, c :: N, _, _ => by simp [cmpS]
  | a :: L, [], _, h, _ => by simp [cmpS] at h
  | a :: L, b :: M, [], _, h => by simp [cmpS] at h
  | a :: L, b :: M, c :: N, h, k => by
    unfold cmpS at h k ⊢
    by_cases h1 : a < b
    · by_cases k1 : b < c
      · rw [if_pos (by omega)]; omega
      · rw [if_neg k1] at k
        by_cases k2 : c < b
        · rw [if_pos k2] at k; omega
        · rw [if_pos (by omega)]; omega
    · rw [if_neg h1] at h
      by_cases h2 : b < a
      · rw [if_pos h2] at h; omega
      · rw [if_neg h2] at h
        by_cases k1 : b < c
        · rw [if_pos (by omega)]; omega
        · rw [if_neg k1] at k
          by_cases k2 : c < b
          · rw [if_pos k2] at k; omega
          · rw [if_neg k2] at k
            rw [if_neg (by omega), if_neg (by omega)]
            exact cmpS_trans L M N h k
theorem cmp_flip (L M : List Int) : 0 ≤ cmpS L M ↔ cmpS M L ≤ 0 := by
  rcases cmpS_three L M with ⟨h1, h2, _⟩ | ⟨h1, h2, _⟩ | ⟨h1, h2, _⟩ <;> omega
theorem cmp_eq {L M : List Int} (h : cmpS L M = 0) : L = M := by
  rcases cmpS_three L M with ⟨_, _, e⟩ | ⟨h1, _⟩ | ⟨h1, _⟩
  · exact e
  · omega
  · omega
/-- a disk with its power on takes every write -/
theorem dwrite_on {d : Dsk} {i : Nat} {x : List UInt8} (ha : d.ar = false) (ho : d.off = false) : (dwriteG d i x).2 = 0 ∧ (dwriteG d i x).1.ar = false ∧ (dwriteG d i x).1.off = false := by
  unfold dwriteG
  rw [if_neg (by rw [ho]; decide), if_neg (by rw [ha]; decide)]
  exact ⟨rfl, ha, ho⟩
theorem fair_step (n : Int) (g : Gat) (d : Dsk) (m : Msg) (ha : d.ar = false) (ho : d.off = false) (hd : g.dead = false) :
    (handleG n g d m).2.1.ar = false ∧ (handleG n g d m).2.1.off = false ∧ (handleG n g d m).1.dead = false ∧ (handleG n g d m).1.seq ≤ g.seq + 1 := by
  unfold handleG
  obtain ⟨h1, h2, h3⟩ := dwrite_on (i := (g.seq + 1) % 2) (x := sectG (g.seq + 1) m.stamp) ha ho
  repeat' split
  all_goals first
    | exact ⟨ha, ho, hd, Nat.le_succ _⟩
    | exact ⟨h2, h3, rfl, Nat.le_refl _⟩
    | (rename_i h; exact absurd h1 h)
theorem may_opM {p : List UInt8} {s : List Int} (hp : vpP p = true) (hs : validS s = true) : mayS vpP (opM p s) := by
  have hl := valid_len hs
  unfold validS at hs
  rw [Bool.and_eq_true, List.all_eq_true] at hs
  refine ⟨rfl, by unfold nodeI; simp [opM], by simp [opM], ?_⟩
  unfold fineS
  rw [if_neg (show ¬ (opM p s).kind = 1 by show ¬ (5 : Int) = 1; omega), if_neg (show ¬ (opM p s).kind = 2 by show ¬ (5 : Int) = 2; omega), if_neg (show ¬ (opM p s).kind = 3 by show ¬ (5 : Int) = 3; omega), if_neg (show ¬ (opM p s).kind = 4 by show ¬ (5 : Int) = 4; omega), if_pos (show (opM p s).kind = 5 from rfl)]
  show 8 ≤ (8 : Int) ∧ (8 : Int) < 12 ∧ vpP p = true ∧ modeI 1 ∧ stampI s
  refine ⟨by omega, by omega, hp, by unfold modeI; omega, hl, fun x hx => ?_⟩
  have := hs.2 x hx
  unfold okN at this
  rw [decide_eq_true_iff] at this
  exact this
theorem fair_end {g : Gat} {d : Dsk} {p : List UInt8} {s : List Int} (hp : vpP p = true) (hs : validS s = true) (ha : d.ar = false) (ho : d.off = false) (hd : g.dead = false) (hq : g.seq < 1073741824) :
    (cmpS s g.high < 0 → handleG 8 g d (opM p s) = (g, d, 65)) ∧ (cmpS s g.high = 0 → handleG 8 g d (opM p s) = (g, d, 0)) ∧
    (0 < cmpS s g.high → (handleG 8 g d (opM p s)).2.2 = 0 ∧ (handleG 8 g d (opM p s)).1.high = s ∧ (handleG 8 g d (opM p s)).2.1.wr = d.wr + 1) := by
  have hm : (opM p s).kind = 5 ∧ (opM p s).dest = 8 ∧ mayS vpP (opM p s) := ⟨rfl, rfl, may_opM hp hs⟩
  have e := hand_op (n := 8) (g := g) (d := d) hm
  rw [if_neg (by rw [hd]; decide)] at e
  have es : (opM p s).stamp = s := rfl
  rw [es] at e
  refine ⟨fun h => by rw [e, if_pos h], fun h => by rw [e, if_neg (by omega), if_pos h], fun h => ?_⟩
  obtain ⟨h1, h2, h3⟩ := dwrite_on (i := (g.seq + 1) % 2) (x := sectG (g.seq + 1) s) ha ho
  rw [if_neg (by omega), if_neg (by omega), if_neg (by omega), if_pos h1] at e
  rw [e]
  exact ⟨rfl, rfl, (dwrite_yes h1).2.2⟩
/-- what is let by never falls -/
theorem rises_step (n : Int) (g : Gat) (d : Dsk) (m : Msg) (last : List Int) (h1 : g.dead = true → d.off = true) (h2 : 0 ≤ cmpS g.high last) :
    ((handleG n g d m).1.dead = true → (handleG n g d m).2.1.off = true) ∧ ((handleG n g d m).2.2 = 0 → 0 ≤ cmpS m.stamp last ∧ cmpS (handleG n g d m).1.high m.stamp = 0) ∧ ((handleG n g d m).2.2 = 40 → (handleG n g d m).2.1.off = true) ∧ ((handleG n g d m).2.2 ≠ 0 → (handleG n g d m).1.high = g.high) := by
  unfold handleG
  split
  · exact ⟨h1, fun h => by simp at h, fun h => by simp at h, fun _ => rfl⟩
  · split
    · rename_i hd
      exact ⟨h1, fun h => by simp at h, fun _ => h1 hd, fun _ => rfl⟩
    · split
      · exact ⟨h1, fun h => by simp at h, fun h => by simp at h, fun _ => rfl⟩
      · rename_i hc
        split
        · rename_i hz
          have e := cmp_eq hz
          refine ⟨h1, fun _ => ⟨by rw [e]; exact h2, by show cmpS g.high m.stamp = 0; rw [e]; exact cmpS_self _⟩, fun h => by simp at h, fun _ => rfl⟩
        · rename_i hz
          split
          · exact ⟨h1, fun h => by simp at h, fun h => by simp at h, fun _ => rfl⟩
          · split
            · refine ⟨fun h => by simp at h, fun _ => ⟨?_, cmpS_self _⟩, fun h => by simp at h, fun h => absurd rfl h⟩
              rw [cmp_flip] at h2 ⊢
              exact cmpS_trans last g.high m.stamp h2 (by rw [← cmp_flip]; omega)
            · rename_i hw
              obtain ⟨_, _, h5, _⟩ := dwrite_no hw
              exact ⟨fun _ => h5, fun h => by simp at h, fun _ => h5, fun _ => rfl⟩
end Go.Proofs.YtlgbmkdeamgpkaaGreatDoor
