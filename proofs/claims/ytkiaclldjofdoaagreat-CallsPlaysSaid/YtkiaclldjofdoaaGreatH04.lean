/- Several texts of this claim in one. No condition beyond what each theorem states. -/
import Derived.Test.YtkiaclldjofdoaaGreatH03
import Derived.Test.YtkiaclldjofdoaaGreatB11
/- Which calls may be made: calls.may by contract. No condition beyond what each theorem states. -/
namespace Go.Proofs.YtkiaclldjofdoaaGreat
open Go Go.RowKit Go.Maps

/-- what a call's own fields must be -/
def okX (x : Cll) : Prop :=
  nodeI x.dest ∧ (if x.verb = 1 then vpP x.path = true ∧ modeI x.mode ∧ termI x.term ∧ x.id = 0 ∧ x.fresh = false else if x.verb = 2 then cntI x.id ∧ termI x.term ∧ x.path = [] ∧ x.mode = 0
    else if x.verb = 3 then cntI x.id ∧ x.path = [] ∧ x.mode = 0 ∧ x.term = 0 ∧ x.fresh = false else False)
instance (x : Cll) : Decidable (okX x) := by unfold okX; infer_instance

theorem mayS_msgC (x : Cll) (f boot low : Int) : mayS vpP (msgC x f boot low) ↔ nodeI f ∧ f ≠ x.dest ∧ cntI boot ∧ cntI x.seq ∧ (1 ≤ low ∧ low ≤ x.seq) ∧ okX x := by
  unfold mayS fineS usedS okX msgC
  by_cases h1 : x.verb = 1
  · simp [h1]
    constructor
    · rintro ⟨⟨e1, e2⟩, h2, h3, h4, h5, h6, h7, h8, h9, h10, h11⟩
      exact ⟨h2, h3, h5, h6, ⟨h7, h8⟩, h4, h9, h10, h11, by omega, by simpa using e2⟩
    · rintro ⟨h2, h3, h5, h6, ⟨h7, h8⟩, h4, h9, h10, h11, e1, e2⟩
      exact ⟨⟨by omega, by simpa using e2⟩, h2, h3, h4, h5, h6, h7, h8, h9, h10, h11⟩
  · by_cases h2 : x.verb = 2
    · simp [h2]
      constructor
      · rintro ⟨⟨e1, e2⟩, h2, h3, h4, h5, h6, h7, h8, h9, h10⟩
        exact ⟨h2, h3, h5, h6, ⟨h7, h8⟩, h4, h9, h10, by simpa using e1.symm, by omega⟩
      · rintro ⟨h2, h3, h5, h6, ⟨h7, h8⟩, h4, h9, h10, e1, e2⟩
        exact ⟨⟨by simp [e1], by omega⟩, h2, h3, h4, h5, h6, h7, h8, h9, h10⟩
    · by_cases h3 : x.verb = 3
      · simp [h3]
        constructor
        · rintro ⟨⟨e1, e2, e3, e4⟩, h2, h3, h4, h5, h6, h7, h8, h9⟩
          exact ⟨h2, h3, h5, h6, ⟨h7, h8⟩, h4, h9, by simpa using e1.symm, by omega, by omega, by simpa using e4⟩
        · rintro ⟨h2, h3, h5, h6, ⟨h7, h8⟩, h4, h9, e1, e2, e3, e4⟩
          exact ⟨⟨by simp [e1], by omega, by omega, by simpa using e4⟩, h2, h3, h4, h5, h6, h7, h8, h9⟩
      · simp [h1, h2, h3]

theorem and7 (a : Int) : bits .and .i64 a 7 = a % 8 := by
  show IntKind.i64.wrap ((BitVec.ofInt 64 a &&& BitVec.ofInt 64 7).toNat : Int) = _
  have h1 : (BitVec.ofInt 64 (7 : Int)).toNat = 7 := by decide
  have h2 : (((a % 18446744073709551616).toNat &&& 7 : Nat) : Int) = a % 8 := by
    rw [show (7 : Nat) = 2 ^ 3 - 1 from rfl, Nat.and_two_pow_sub_one_eq_mod]
    omega
  rw [BitVec.toNat_and, h1, BitVec.toNat_ofInt]
  have h3 : (a % ((2 ^ 64 : Nat) : Int)).toNat = (a % 18446744073709551616).toNat := by simp
  rw [h3, h2, IntKind.wrap_i64]
  omega

/-- its numbers are ints, its text is not too long -/
structure InX (x : Cll) : Prop where
  num : ∀ n ∈ [x.seq, x.dest, x.verb, x.mode, x.term, x.id, x.sent, x.tries], -9223372036854775808 ≤ n ∧ n < 9223372036854775808
  path : x.path.length ≤ 140737488355328

theorem InX.rng {x : Cll} (h : InX x) {f boot low : Int} (hf : f < 9223372036854775808) (hb : boot < 9223372036854775808) (hl : low < 9223372036854775808) : Rng (msgC x f boot low) := by
  refine ⟨?_, by simp [msgC]⟩
  have h1 := fun n hn => (h.num n hn).2
  simp only [List.mem_cons, List.not_mem_nil, or_false, forall_eq_or_imp, forall_eq, msgC] at h1 ⊢
  omega
theorem InX.short {x : Cll} (h : InX x) {f boot low : Int} : Short maxLen (msgC x f boot low) := by
  have := h.path
  unfold Short maxLen msgC
  simp
  omega

set_option maxRecDepth 100000 in
set_option maxHeartbeats 4000000 in
theorem may_any (x : Cll) (W : World) (hx : InX x) : Calls Tryz.prog 28 #[vC x] W fun e w' => e = .returned (.bool (decide (okX x))) ∧ Kp No W w' := by
  have HX := Lib.hid hx
  clear hx
  obtain ⟨a0, a1, a2, a3, a4, a5, a6, a7, a8, a9⟩ := x
  have HF : ∀ a : Int, bits .and .i64 (wrap64 (bits .and .i64 a 7 + 1)) 7 = (a % 8 + 1) % 8 := fun a => by
    rw [and7, and7]
    have : wrap64 (a % 8 + 1) = a % 8 + 1 := by unfold wrap64; omega
    rw [this]
  unfold vC cC
  go_enter Tryz.func28, Tryz.ntmps28
  have HI := Lib.hid (show InX ⟨1, a1, a2, a3, a4, a5, a6, a7, a8, a9⟩ from ⟨fun n hn => by
    rcases List.mem_cons.1 hn with rfl | h
    · exact (by decide : (-9223372036854775808 : Int) ≤ 1 ∧ (1 : Int) < 9223372036854775808)
    · exact HX.out.num n (List.mem_cons_of_mem _ h), HX.out.path⟩)
  have pa := fun W2 => cask_any ⟨1, a1, a2, a3, a4, a5, a6, a7, a8, a9⟩ ((a1 + 1) % 8) 1 1 W2
  have pv := fun W2 => valid10_any (msgC ⟨1, a1, a2, a3, a4, a5, a6, a7, a8, a9⟩ ((a1 + 1) % 8) 1 1) (.slice none 0 0) W2 (SlI.nil _ _ _) (HI.out.rng (by omega) (by omega) (by omega)) HI.out.short
  have HE := Lib.hid (show decide (mayS vpP (msgC ⟨1, a1, a2, a3, a4, a5, a6, a7, a8, a9⟩ ((a1 + 1) % 8) 1 1)) = decide (okX ⟨a0, a1, a2, a3, a4, a5, a6, a7, a8, a9⟩) from by
    rw [decide_eq_decide, mayS_msgC]
    constructor
    · rintro ⟨_, _, _, _, _, h⟩; exact h
    · intro h
      have h1 : nodeI a1 := h.1
      unfold nodeI at h1
      refine ⟨by unfold nodeI; omega, by show (a1 + 1) % 8 ≠ a1; omega, (by decide : (1 : Int) ≤ 1 ∧ (1 : Int) ≤ 1099511627776), (by decide : (1 : Int) ≤ 1 ∧ (1 : Int) ≤ 1099511627776), (by decide : (1 : Int) ≤ 1 ∧ (1 : Int) ≤ 1), h⟩)
  unfold mC at pa
  rw [HE.out] at pv
  generalize mcells (msgC ⟨1, a1, a2, a3, a4, a5, a6, a7, a8, a9⟩ ((a1 + 1) % 8) 1 1) (.slice none 0 0) = M at pa pv
  generalize decide (okX ⟨a0, a1, a2, a3, a4, a5, a6, a7, a8, a9⟩) = ok at *
  unfold vC cC at pa
  have HK := Lib.hid ((Kp.refl No W).alloc (.cells #[.int .i64 1, .int .i64 a1, .int .i64 a2, .string ⟨a3.toArray⟩, .int .i64 a4, .int .i64 a5, .int .i64 a6, .bool a7, .int .i64 a8, .int .i64 a9] 32))
  clear HX HI HE
  go_wp2_with fail
  refine (pa _).mono ?_
  rintro e w2 ⟨rfl, k2⟩
  have HK2 := Lib.hid (HK.out.trans k2)
  clear k2 pa HK
  go_wp2_with fail
  refine (pv _).mono ?_
  rintro e w3 ⟨rfl, k3⟩
  have HK3 := Lib.hid (HK2.out.trans k3)
  clear k3 pv HK2
  go_wp2
  go_ret
  exact ⟨rfl, HK3.out⟩
end Go.Proofs.YtkiaclldjofdoaaGreat

/- Open by contract. No condition beyond what each theorem states. -/
namespace Go.Proofs.YtkiaclldjofdoaaGreat
open Go Go.RowKit Go.Maps

theorem exec_lenM {P : Program} {k : TypeId} (w : World) {o : Oper} {a : Act} (m : Operand) (t : TypeId) (hop : o.op = Op.call { callee := Callee.builtin Builtin.len, args := #[m], argTypes := #[t] }) (e : TypeId)
    (ht : P.underlying t = some (.map k e)) (b : Nat) (l : List Cll) (L : Int) (hL : L = l.length) (hm : a.eval m = .map (some b)) (hown : OwnM P w k b l) : (execOp a.eval o).run P w = .ok (.value (.int .i64 L)) w := by
  have h := World.ownsMap.len hown ht o.type
  rw [mapC_size] at h
  subst hL
  simp [execOp, hop, resolve, invoke, builtin, hm, h, Result.andThen]

theorem wf64 {n : Int} (h : -9223372036854775808 ≤ n ∧ n ≤ 9223372036854775807) : (Lit.int .i64 n).wf = true := by
  simp [Lit.wf, IntKind.min, IntKind.max, IntKind.signed, IntKind.bits]
  omega
def openN (c : Cls) (er : Int) : Int := if er = 0 then c.next else 0
def stepO (c : Cls) (now : Int) (x : Cll) (er : Int) : Cls := if er = 0 then openC c now x else c
/-- a set of calls' two blocks -/
def Two (b mb : Nat) : Nat → Prop := fun k => k = b ∨ k = mb
/-- what Open answers -/
def OpenR (b mb : Nat) (c : Cls) (now : Int) (x : Cll) (W : World) (e : Ending) (w' : World) : Prop :=
  e = .returned (.tuple #[.int .i64 (openN c (startE (decide (okX x)) c now)), .int .i64 (startE (decide (okX x)) c now)]) ∧ OwnCs w' b mb (stepO c now x (startE (decide (okX x)) c now)) ∧ Kp (Two b mb) W w'

set_option maxHeartbeats 4000000 in
set_option maxRecDepth 100000 in
theorem open_any (b mb : Nat) (c : Cls) (now : Int) (x : Cll) (W : World) (h : OwnCs W b mb c) (hc : CsOk c) (hx : InX x) :
    Calls Tryz.prog 9 #[.pointer (some ⟨b, 0, none⟩), .int .i64 now, vC x] W (OpenR b mb c now x W) := by
  obtain ⟨Q, hQ⟩ : ∃ Q : Ending → World → Prop, Q = OpenR b mb c now x W := ⟨_, rfl⟩
  rw [← hQ]
  have HE := Lib.hid (show ∀ er w', startE (decide (okX x)) c now = er → er ≠ 0 → Kp No W w' → Q (.returned (.tuple #[.int .i64 0, .int .i64 er])) w' from fun er w' e ne k => by
    rw [hQ]; refine ⟨?_, ?_, k.of_no⟩
    · rw [e]; unfold openN; rw [if_neg ne]
    · rw [e]; unfold stepO; rw [if_neg ne]; exact h.no k)
  have HG := Lib.hid (show ∀ w', startE (decide (okX x)) c now = 0 → OwnCs w' b mb (openC c now x) → Kp (Two b mb) W w' → Q (.returned (.tuple #[.int .i64 c.next, .int .i64 0])) w' from fun w' e k1 k2 => by
    rw [hQ]; refine ⟨?_, ?_, k2⟩
    · rw [e]; rfl
    · rw [e]; exact k1)
  clear hQ
  have hb : b < W.heap.size := h.1.lt
  have hmb : mb < W.heap.size := h.2.lt
  have HNE := Lib.hid h.ne
  obtain ⟨C, hC⟩ : ∃ C, C = cC x := ⟨_, rfl⟩
  have HT := Lib.hid (show Ten C by rw [hC]; exact Ten.of _)
  obtain ⟨D, hD⟩ : ∃ D, D = cC (callC c now x) := ⟨_, rfl⟩
  have HTD := Lib.hid (show Ten D by rw [hD]; exact Ten.of _)
  have HCD := Lib.hid (show ((C.set 0 (.int .i64 c.next)).set 8 (.int .i64 now)).set 9 (.int .i64 1) = D by rw [hC, hD]; rfl)
  have HVD := Lib.hid (show vC (callC c now x) = .agg D.toArray by rw [hD]; rfl)
  have HSQ := Lib.hid (show (callC c now x).seq = c.next from rfl)
  have HD0 := Lib.hid (show D[0]? = some (.int .i64 c.next) by rw [hD]; rfl)
  have hv : vC x = .agg C.toArray := by rw [hC]; rfl
  have pm := fun W2 => may_any x W2 hx
  rw [hv] at pm ⊢
  clear hv hC hD hx
  have HST := Lib.hid (show startE (decide (okX x)) c now = startE (decide (okX x)) c now from rfl)
  generalize hok : decide (okX x) = ok at *
  clear hok
  have HI := Lib.hid HT.out.infoL; have HTM := Lib.hid HT.out.info; have HTO := Lib.hid HT.out.one
  obtain ⟨w1, hw1⟩ : ∃ w1, w1 = W.alloc (.cells C.toArray 32) := ⟨_, rfl⟩
  have HK1 := Lib.hid (show Kp No W w1 by rw [hw1]; exact (Kp.refl No W).alloc _)
  have HB1 := Lib.hid (show Bk w1 W.heap.size 32 C by rw [hw1]; exact Bk.new W _ _)
  have HW1 := Lib.hid hw1; clear hw1
  have HC := Lib.hid hc; have H := Lib.hid h
  clear h hc
  by_cases h1 : now < 0
  · have HX := Lib.hid (HE.out 2 w1 (by unfold startE; rw [if_pos (.inl h1)]) (by decide) HK1.out)
    go_enter Tryz.func9, Tryz.ntmps9
    go_upto_region 1 with (fail)
    rw [← HW1.out]
    clear HW1
    go_wp2
    exact HX.out
  by_cases h2 : 1152921504606846976 < now
  · have HX := Lib.hid (HE.out 2 w1 (by unfold startE; rw [if_pos (.inr h2)]) (by decide) HK1.out)
    go_enter Tryz.func9, Tryz.ntmps9
    go_upto_region 1 with (fail)
    rw [← HW1.out]
    clear HW1
    go_wp2
    exact HX.out
  have HS1 := Lib.hid (show ¬ (now < 0 ∨ 1152921504606846976 < now) by omega)
  go_enter Tryz.func9, Tryz.ntmps9
  go_upto_region 1 with (fail)
  rw [← HW1.out]
  clear HW1
  have HX1 := Lib.hid HB1.out.all_
  go_wp2_with (with_reducible refine wpList_load_mid rfl _ _ rfl W.heap.size 0 rfl C _ HX1.out Tryz.underlying32 rfl HI.out ?_)
  refine (pm _).mono ?_
  rintro e w2 ⟨rfl, k2⟩
  have HK2 := Lib.hid (HK1.out.trans k2)
  have HB2 := Lib.hid (HB1.out.no k2)
  have HO2 := Lib.hid (H.out.no HK2.out)
  clear k2 pm h1 h2 HX1
  cases ok
  case false =>
    have HX := Lib.hid (HE.out 22 w2 (by unfold startE; rw [if_neg HS1.out, if_pos rfl]) (by decide) HK2.out)
    go_wp2
    exact HX.out
  case true =>
  have x1 : w2.cell? ⟨b, 1, none⟩ = some (.int .i64 c.next) := HO2.out.1.cell 1
  obtain ⟨N, hN⟩ : ∃ N, N = c.next := ⟨_, rfl⟩
  rw [← hN] at x1
  have HN := Lib.hid hN
  clear hN
  by_cases h3 : 1099511627776 < N
  · have HX := Lib.hid (HE.out 66 w2 (by unfold startE; rw [if_neg HS1.out, if_neg (by decide), if_pos (by rw [← HN.out]; exact h3)]) (by decide) HK2.out)
    go_wp2
    exact HX.out
  have HS3 := Lib.hid h3
  have hN1 := HC.out.next
  rw [← HN.out] at hN1
  go_upto_region 9 with (fail)
  clear x1
  obtain ⟨L, hL⟩ : ∃ L : Int, L = c.opn.length := ⟨_, rfl⟩
  have HL := Lib.hid hL
  have hF := (Kp.refl No w2).drew
  by_cases h4 : 4 ≤ L
  · have HX := Lib.hid (HE.out 52 w2.drew (by unfold startE; rw [if_neg HS1.out, if_neg (by decide), if_neg (by have := HS3.out; have := HN.out; omega), if_pos (.inl (by omega))]) (by decide) HK2.out.drew)
    clear hL
    refine rg_begin (fun W2 => Kp No w2 W2) 17 (by kernel_rfl) ?_
    refine rg_take (i := 0) (v := ?vp0) (by simp only [List.getElem?_toArray, List.getElem?_cons_zero]; rfl) (by kernel_rfl) (by exact fun _ _ _ h => h) (by rfl) ?rp0 hF ?sp0
    case rp0 => (intro W hW; clear hW; go_simp; try with_reducible rfl)
    try simp only [Act.put, List.setIfInBounds_toArray, List.set_cons_zero, List.set_cons_succ]
    refine rg_take (i := 1) (v := ?vp1) (by simp only [List.getElem?_toArray, List.getElem?_cons_succ, List.getElem?_cons_zero]; rfl) (by kernel_rfl) (by exact fun _ _ _ h => h) (by rfl) ?rp1 hF ?sp1
    case rp1 => (intro W hW; clear hW; go_simp; try with_reducible rfl)
    try simp only [Act.put, List.setIfInBounds_toArray, List.set_cons_zero, List.set_cons_succ]
    refine rg_take (i := 2) (v := ?vp2) (by simp only [List.getElem?_toArray, List.getElem?_cons_succ, List.getElem?_cons_zero]; rfl) (by kernel_rfl) (by exact fun _ _ _ h => h) (by rfl) ?rp2 hF ?sp2
    case rp2 => (intro W hW; clear hW; go_simp; try with_reducible rfl)
    try simp only [Act.put, List.setIfInBounds_toArray, List.set_cons_zero, List.set_cons_succ]
    refine rg_take (i := 3) (v := ?vp3) (by simp only [List.getElem?_toArray, List.getElem?_cons_succ, List.getElem?_cons_zero]; rfl) (by kernel_rfl) (by exact fun _ _ _ h => h) (by rfl) ?rp3 hF ?sp3
    case rp3 => (intro W9 hW; have z : W9.cell? ⟨b, 2, none⟩ = some (.map (some mb)) := (HO2.out.no hW).1.cell 2; clear hW; go_simp; try with_reducible rfl)
    try simp only [Act.put, List.setIfInBounds_toArray, List.set_cons_zero, List.set_cons_succ]
    refine rg_take (i := 4) (v := ?vp4) (by simp only [List.getElem?_toArray, List.getElem?_cons_succ, List.getElem?_cons_zero]; rfl) (by kernel_rfl) (by exact fun _ _ _ h => h) (by rfl) ?rp4 hF ?sp4
    case rp4 => (intro W9 hW; refine exec_lenM W9 (.tmp 32) 64 ?_ 32 mapT mb c.opn L HL.out ?_ (HO2.out.no hW).2; exact rfl; exact rfl)
    try simp only [Act.put, List.setIfInBounds_toArray, List.set_cons_zero, List.set_cons_succ]
    refine rg_take (i := 5) (v := ?vp5) (by simp only [List.getElem?_toArray, List.getElem?_cons_succ, List.getElem?_cons_zero]; rfl) (by kernel_rfl) (by exact fun _ _ _ h => h) (by rfl) ?rp5 hF ?sp5
    case rp5 => (intro W hW; clear hW; go_simp; try with_reducible rfl)
    try simp only [Act.put, List.setIfInBounds_toArray, List.set_cons_zero, List.set_cons_succ]
    refine rg_take (i := 6) (v := ?vp6) (by simp only [List.getElem?_toArray, List.getElem?_cons_succ, List.getElem?_cons_zero]; rfl) (by kernel_rfl) (by exact fun _ _ _ h => h) (by rfl) ?rp6 hF ?sp6
    case rp6 => (intro W hW; clear hW; go_simp; try with_reducible rfl)
    try simp only [Act.put, List.setIfInBounds_toArray, List.set_cons_zero, List.set_cons_succ]
    refine rg_pass (i := 7) (by simp only [List.getElem?_toArray, List.getElem?_cons_succ, List.getElem?_cons_zero]; rfl) (by kernel_rfl) (by exact fun _ _ _ h => h) (by rfl) hF ?_
    try simp only [Act.put, List.setIfInBounds_toArray, List.set_cons_zero, List.set_cons_succ]
    refine rg_pass (i := 8) (by simp only [List.getElem?_toArray, List.getElem?_cons_succ, List.getElem?_cons_zero]; rfl) (by kernel_rfl) (by exact fun _ _ _ h => h) (by rfl) hF ?_
    try simp only [Act.put, List.setIfInBounds_toArray, List.set_cons_zero, List.set_cons_succ]
    refine rg_pass (i := 9) (by simp only [List.getElem?_toArray, List.getElem?_cons_succ, List.getElem?_cons_zero]; rfl) (by kernel_rfl) (by exact fun _ _ _ h => h) (by rfl) hF ?_
    try simp only [Act.put, List.setIfInBounds_toArray, List.set_cons_zero, List.set_cons_succ]
    refine rg_pass (i := 10) (by simp only [List.getElem?_toArray, List.getElem?_cons_succ, List.getElem?_cons_zero]; rfl) (by kernel_rfl) (by exact fun _ _ _ h => h) (by rfl) hF ?_
    try simp only [Act.put, List.setIfInBounds_toArray, List.set_cons_zero, List.set_cons_succ]
    refine rg_pass (i := 11) (by simp only [List.getElem?_toArray, List.getElem?_cons_succ, List.getElem?_cons_zero]; rfl) (by kernel_rfl) (by exact fun _ _ _ h => h) (by rfl) hF ?_
    try simp only [Act.put, List.setIfInBounds_toArray, List.set_cons_zero, List.set_cons_succ]
    refine rg_pass (i := 12) (by simp only [List.getElem?_toArray, List.getElem?_cons_succ, List.getElem?_cons_zero]; rfl) (by kernel_rfl) (by exact fun _ _ _ h => h) (by rfl) hF ?_
    try simp only [Act.put, List.setIfInBounds_toArray, List.set_cons_zero, List.set_cons_succ]
    refine rg_pass (i := 13) (by simp only [List.getElem?_toArray, List.getElem?_cons_succ, List.getElem?_cons_zero]; rfl) (by kernel_rfl) (by exact fun _ _ _ h => h) (by rfl) hF ?_
    try simp only [Act.put, List.setIfInBounds_toArray, List.set_cons_zero, List.set_cons_succ]
    refine rg_pass (i := 14) (by simp only [List.getElem?_toArray, List.getElem?_cons_succ, List.getElem?_cons_zero]; rfl) (by kernel_rfl) (by exact fun _ _ _ h => h) (by rfl) hF ?_
    try simp only [Act.put, List.setIfInBounds_toArray, List.set_cons_zero, List.set_cons_succ]
    refine rg_take (i := 15) (v := ?vp15) (by simp only [List.getElem?_toArray, List.getElem?_cons_succ, List.getElem?_cons_zero]; rfl) (by kernel_rfl) (by exact fun _ _ _ h => h) (by rfl) ?rp15 hF ?sp15
    case rp15 => (intro W hW; clear hW; go_simp; try with_reducible rfl)
    try simp only [Act.put, List.setIfInBounds_toArray, List.set_cons_zero, List.set_cons_succ]
    refine rg_take (i := 16) (v := ?vp16) (by simp only [List.getElem?_toArray, List.getElem?_cons_succ, List.getElem?_cons_zero]; rfl) (by kernel_rfl) (by exact fun _ _ _ h => h) (by rfl) ?rp16 hF ?sp16
    case rp16 => (intro W hW; clear hW; go_simp; try with_reducible rfl)
    try simp only [Act.put, List.setIfInBounds_toArray, List.set_cons_zero, List.set_cons_succ]
    refine rg_done (by kernel_rfl) ?_
    go_wp2
    exact HX.out
  have HLE := Lib.hid (show ¬ 4 ≤ c.opn.length by omega)
  clear hL
  obtain ⟨lo, hlo⟩ : ∃ lo, lo = c.low := ⟨_, rfl⟩
  have HLO := Lib.hid hlo
  have hlb := HC.out.low_le.2
  rw [← HN.out, ← hlo] at hlb
  have pl := fun W2 (kk : Kp No w2 W2) => (low_any b mb c W2 (HO2.out.no kk) HC.out).mono fun e w' ⟨h1, h3⟩ => (⟨h1, kk.trans h3⟩ : e = Ending.returned (.int .i64 c.low) ∧ Kp No w2 w')
  rw [← hlo] at pl
  clear hlo
  have HO2x := Lib.hid (show Bk w2 b 66 [.int .i64 c.boot, .int .i64 N, .map (some mb)] by rw [HN.out]; exact HO2.out.1)
  have hlb1 := hlb.1; have hlb2 := hlb.2; have hN2 := hN1.1; have hN3 := hN1.2
  clear hlb hN1
  have hwr : IntKind.i64.wrap (N - lo) = N - lo := by rw [IntKind.wrap_i64]; omega
  by_cases h5 : 8 ≤ N - lo
  · 
    refine rg_begin (fun W2 => Kp No w2 W2) 17 (by kernel_rfl) ?_
    refine rg_take (i := 0) (v := ?vq0) (by simp only [List.getElem?_toArray, List.getElem?_cons_zero]; rfl) (by kernel_rfl) (by exact fun _ _ _ h => h) (by rfl) ?rq0 hF ?sq0
    case rq0 => (intro W hW; clear hW; go_simp; try with_reducible rfl)
    try simp only [Act.put, List.setIfInBounds_toArray, List.set_cons_zero, List.set_cons_succ]
    refine rg_take (i := 1) (v := ?vq1) (by simp only [List.getElem?_toArray, List.getElem?_cons_succ, List.getElem?_cons_zero]; rfl) (by kernel_rfl) (by exact fun _ _ _ h => h) (by rfl) ?rq1 hF ?sq1
    case rq1 => (intro W hW; clear hW; go_simp; try with_reducible rfl)
    try simp only [Act.put, List.setIfInBounds_toArray, List.set_cons_zero, List.set_cons_succ]
    refine rg_take (i := 2) (v := ?vq2) (by simp only [List.getElem?_toArray, List.getElem?_cons_succ, List.getElem?_cons_zero]; rfl) (by kernel_rfl) (by exact fun _ _ _ h => h) (by rfl) ?rq2 hF ?sq2
    case rq2 => (intro W hW; clear hW; go_simp; try with_reducible rfl)
    try simp only [Act.put, List.setIfInBounds_toArray, List.set_cons_zero, List.set_cons_succ]
    refine rg_take (i := 3) (v := ?vq3) (by simp only [List.getElem?_toArray, List.getElem?_cons_succ, List.getElem?_cons_zero]; rfl) (by kernel_rfl) (by exact fun _ _ _ h => h) (by rfl) ?rq3 hF ?sq3
    case rq3 => (intro W9 hW; have z : W9.cell? ⟨b, 2, none⟩ = some (.map (some mb)) := (HO2.out.no hW).1.cell 2; clear hW; go_simp; try with_reducible rfl)
    try simp only [Act.put, List.setIfInBounds_toArray, List.set_cons_zero, List.set_cons_succ]
    refine rg_take (i := 4) (v := ?vq4) (by simp only [List.getElem?_toArray, List.getElem?_cons_succ, List.getElem?_cons_zero]; rfl) (by kernel_rfl) (by exact fun _ _ _ h => h) (by rfl) ?rq4 hF ?sq4
    case rq4 => (intro W9 hW; refine exec_lenM W9 (.tmp 32) 64 ?_ 32 mapT mb c.opn L HL.out ?_ (HO2.out.no hW).2; exact rfl; exact rfl)
    try simp only [Act.put, List.setIfInBounds_toArray, List.set_cons_zero, List.set_cons_succ]
    refine rg_take (i := 5) (v := ?vq5) (by simp only [List.getElem?_toArray, List.getElem?_cons_succ, List.getElem?_cons_zero]; rfl) (by kernel_rfl) (by exact fun _ _ _ h => h) (by rfl) ?rq5 hF ?sq5
    case rq5 => (intro W hW; clear hW; go_simp; try with_reducible rfl)
    try simp only [Act.put, List.setIfInBounds_toArray, List.set_cons_zero, List.set_cons_succ]
    refine rg_take (i := 6) (v := ?vq6) (by simp only [List.getElem?_toArray, List.getElem?_cons_succ, List.getElem?_cons_zero]; rfl) (by kernel_rfl) (by exact fun _ _ _ h => h) (by rfl) ?rq6 hF ?sq6
    case rq6 => (intro W hW; clear hW; go_simp; try with_reducible rfl)
    try simp only [Act.put, List.setIfInBounds_toArray, List.set_cons_zero, List.set_cons_succ]
    refine rg_take (i := 7) (v := ?vq7) (by simp only [List.getElem?_toArray, List.getElem?_cons_succ, List.getElem?_cons_zero]; rfl) (by kernel_rfl) (by exact fun _ _ _ h => h) (by rfl) ?rq7 hF ?sq7
    case rq7 => (intro W hW; clear hW; go_simp; try with_reducible rfl)
    try simp only [Act.put, List.setIfInBounds_toArray, List.set_cons_zero, List.set_cons_succ]
    refine rg_take (i := 8) (v := ?vq8) (by simp only [List.getElem?_toArray, List.getElem?_cons_succ, List.getElem?_cons_zero]; rfl) (by kernel_rfl) (by exact fun _ _ _ h => h) (by rfl) ?rq8 hF ?sq8
    case rq8 => (intro W hW; clear hW; go_simp; try with_reducible rfl)
    try simp only [Act.put, List.setIfInBounds_toArray, List.set_cons_zero, List.set_cons_succ]
    refine rg_take (i := 9) (v := ?vq9) (by simp only [List.getElem?_toArray, List.getElem?_cons_succ, List.getElem?_cons_zero]; rfl) (by kernel_rfl) (by exact fun _ _ _ h => h) (by rfl) ?rq9 hF ?sq9
    case rq9 => (intro W hW; clear hW; go_simp; try with_reducible rfl)
    try simp only [Act.put, List.setIfInBounds_toArray, List.set_cons_zero, List.set_cons_succ]
    refine rg_take (i := 10) (v := ?vq10) (by simp only [List.getElem?_toArray, List.getElem?_cons_succ, List.getElem?_cons_zero]; rfl) (by kernel_rfl) (by exact fun _ _ _ h => h) (by rfl) ?rq10 hF ?sq10
    case rq10 => (intro W9 hW; have z : W9.cell? ⟨b, 1, none⟩ = some (.int .i64 N) := (HO2x.out.no hW).cell 1; clear hW; go_simp; try with_reducible rfl)
    try simp only [Act.put, List.setIfInBounds_toArray, List.set_cons_zero, List.set_cons_succ]
    refine rg_take (i := 11) (v := ?vq11) (by simp only [List.getElem?_toArray, List.getElem?_cons_succ, List.getElem?_cons_zero]; rfl) (by kernel_rfl) (by exact fun _ _ _ h => h) (by rfl) ?rq11 hF ?sq11
    case rq11 => (intro W hW; clear hW; go_simp; try with_reducible rfl)
    try simp only [Act.put, List.setIfInBounds_toArray, List.set_cons_zero, List.set_cons_succ]
    refine rg_one (i := 12) (oi := ?oq12) ?aq12 ?bq12 ?cq12 ?dq12
    case aq12 => (simp only [List.getElem?_toArray, List.getElem?_cons_succ, List.getElem?_cons_zero]; rfl)
    case bq12 => kernel_rfl
    case cq12 => rfl
    intro K hK
    (go_simp; refine (pl _ (Kp.refl No w2).drew).mono ?_; rintro e w3 ⟨rfl, k3⟩)
    refine rg_use hK (k3) (fun hF => ?_)
    clear hK K
    try simp only [Act.put, List.setIfInBounds_toArray, List.set_cons_zero, List.set_cons_succ]
    refine rg_take (i := 13) (v := ?vq13) (by simp only [List.getElem?_toArray, List.getElem?_cons_succ, List.getElem?_cons_zero]; rfl) (by kernel_rfl) (by exact fun _ _ _ h => h) (by rfl) ?rq13 hF ?sq13
    case rq13 => (intro W hW; clear hW; go_simp; try with_reducible rfl)
    try simp only [Act.put, List.setIfInBounds_toArray, List.set_cons_zero, List.set_cons_succ]
    refine rg_take (i := 14) (v := ?vq14) (by simp only [List.getElem?_toArray, List.getElem?_cons_succ, List.getElem?_cons_zero]; rfl) (by kernel_rfl) (by exact fun _ _ _ h => h) (by rfl) ?rq14 hF ?sq14
    case rq14 => (intro W hW; clear hW; go_simp; try with_reducible rfl)
    try simp only [Act.put, List.setIfInBounds_toArray, List.set_cons_zero, List.set_cons_succ]
    refine rg_take (i := 15) (v := ?vq15) (by simp only [List.getElem?_toArray, List.getElem?_cons_succ, List.getElem?_cons_zero]; rfl) (by kernel_rfl) (by exact fun _ _ _ h => h) (by rfl) ?rq15 hF ?sq15
    case rq15 => (intro W hW; clear hW; go_simp; try with_reducible rfl)
    try simp only [Act.put, List.setIfInBounds_toArray, List.set_cons_zero, List.set_cons_succ]
    refine rg_take (i := 16) (v := ?vq16) (by simp only [List.getElem?_toArray, List.getElem?_cons_succ, List.getElem?_cons_zero]; rfl) (by kernel_rfl) (by exact fun _ _ _ h => h) (by rfl) ?rq16 hF ?sq16
    case rq16 => (intro W hW; clear hW; go_simp; try with_reducible rfl)
    try simp only [Act.put, List.setIfInBounds_toArray, List.set_cons_zero, List.set_cons_succ]
    refine rg_done (by kernel_rfl) ?_
    have HX := Lib.hid (HE.out 52 w3 (by unfold startE; rw [if_neg HS1.out, if_neg (by decide), if_neg (by have := HS3.out; have := HN.out; omega), if_pos (.inr (by rw [← HN.out, ← HLO.out]; omega))]) (by decide) (HK2.out.trans k3))
    go_wp2
    exact HX.out
  have HS := Lib.hid (show startE true c now = 0 by
    unfold startE; rw [if_neg HS1.out, if_neg (by decide), if_neg (by have := HS3.out; have := HN.out; omega), if_neg]
    rintro (q | q)
    · exact HLE.out q
    · rw [← HN.out, ← HLO.out] at q; omega)
  refine rg_begin (fun W2 => Kp No w2 W2) 17 (by kernel_rfl) ?_
  refine rg_take (i := 0) (v := ?vs0) (by simp only [List.getElem?_toArray, List.getElem?_cons_zero]; rfl) (by kernel_rfl) (by exact fun _ _ _ h => h) (by rfl) ?rs0 hF ?ss0
  case rs0 => (intro W hW; clear hW; go_simp; try with_reducible rfl)
  try simp only [Act.put, List.setIfInBounds_toArray, List.set_cons_zero, List.set_cons_succ]
  refine rg_take (i := 1) (v := ?vs1) (by simp only [List.getElem?_toArray, List.getElem?_cons_succ, List.getElem?_cons_zero]; rfl) (by kernel_rfl) (by exact fun _ _ _ h => h) (by rfl) ?rs1 hF ?ss1
  case rs1 => (intro W hW; clear hW; go_simp; try with_reducible rfl)
  try simp only [Act.put, List.setIfInBounds_toArray, List.set_cons_zero, List.set_cons_succ]
  refine rg_take (i := 2) (v := ?vs2) (by simp only [List.getElem?_toArray, List.getElem?_cons_succ, List.getElem?_cons_zero]; rfl) (by kernel_rfl) (by exact fun _ _ _ h => h) (by rfl) ?rs2 hF ?ss2
  case rs2 => (intro W hW; clear hW; go_simp; try with_reducible rfl)
  try simp only [Act.put, List.setIfInBounds_toArray, List.set_cons_zero, List.set_cons_succ]
  refine rg_take (i := 3) (v := ?vs3) (by simp only [List.getElem?_toArray, List.getElem?_cons_succ, List.getElem?_cons_zero]; rfl) (by kernel_rfl) (by exact fun _ _ _ h => h) (by rfl) ?rs3 hF ?ss3
  case rs3 => (intro W9 hW; have z : W9.cell? ⟨b, 2, none⟩ = some (.map (some mb)) := (HO2.out.no hW).1.cell 2; clear hW; go_simp; try with_reducible rfl)
  try simp only [Act.put, List.setIfInBounds_toArray, List.set_cons_zero, List.set_cons_succ]
  refine rg_take (i := 4) (v := ?vs4) (by simp only [List.getElem?_toArray, List.getElem?_cons_succ, List.getElem?_cons_zero]; rfl) (by kernel_rfl) (by exact fun _ _ _ h => h) (by rfl) ?rs4 hF ?ss4
  case rs4 => (intro W9 hW; refine exec_lenM W9 (.tmp 32) 64 ?_ 32 mapT mb c.opn L HL.out ?_ (HO2.out.no hW).2; exact rfl; exact rfl)
  try simp only [Act.put, List.setIfInBounds_toArray, List.set_cons_zero, List.set_cons_succ]
  refine rg_take (i := 5) (v := ?vs5) (by simp only [List.getElem?_toArray, List.getElem?_cons_succ, List.getElem?_cons_zero]; rfl) (by kernel_rfl) (by exact fun _ _ _ h => h) (by rfl) ?rs5 hF ?ss5
  case rs5 => (intro W hW; clear hW; go_simp; try with_reducible rfl)
  try simp only [Act.put, List.setIfInBounds_toArray, List.set_cons_zero, List.set_cons_succ]
  refine rg_take (i := 6) (v := ?vs6) (by simp only [List.getElem?_toArray, List.getElem?_cons_succ, List.getElem?_cons_zero]; rfl) (by kernel_rfl) (by exact fun _ _ _ h => h) (by rfl) ?rs6 hF ?ss6
  case rs6 => (intro W hW; clear hW; go_simp; try with_reducible rfl)
  try simp only [Act.put, List.setIfInBounds_toArray, List.set_cons_zero, List.set_cons_succ]
  refine rg_take (i := 7) (v := ?vs7) (by simp only [List.getElem?_toArray, List.getElem?_cons_succ, List.getElem?_cons_zero]; rfl) (by kernel_rfl) (by exact fun _ _ _ h => h) (by rfl) ?rs7 hF ?ss7
  case rs7 => (intro W hW; clear hW; go_simp; try with_reducible rfl)
  try simp only [Act.put, List.setIfInBounds_toArray, List.set_cons_zero, List.set_cons_succ]
  refine rg_take (i := 8) (v := ?vs8) (by simp only [List.getElem?_toArray, List.getElem?_cons_succ, List.getElem?_cons_zero]; rfl) (by kernel_rfl) (by exact fun _ _ _ h => h) (by rfl) ?rs8 hF ?ss8
  case rs8 => (intro W hW; clear hW; go_simp; try with_reducible rfl)
  try simp only [Act.put, List.setIfInBounds_toArray, List.set_cons_zero, List.set_cons_succ]
  refine rg_take (i := 9) (v := ?vs9) (by simp only [List.getElem?_toArray, List.getElem?_cons_succ, List.getElem?_cons_zero]; rfl) (by kernel_rfl) (by exact fun _ _ _ h => h) (by rfl) ?rs9 hF ?ss9
  case rs9 => (intro W hW; clear hW; go_simp; try with_reducible rfl)
  try simp only [Act.put, List.setIfInBounds_toArray, List.set_cons_zero, List.set_cons_succ]
  refine rg_take (i := 10) (v := ?vs10) (by simp only [List.getElem?_toArray, List.getElem?_cons_succ, List.getElem?_cons_zero]; rfl) (by kernel_rfl) (by exact fun _ _ _ h => h) (by rfl) ?rs10 hF ?ss10
  case rs10 => (intro W9 hW; have z : W9.cell? ⟨b, 1, none⟩ = some (.int .i64 N) := (HO2x.out.no hW).cell 1; clear hW; go_simp; try with_reducible rfl)
  try simp only [Act.put, List.setIfInBounds_toArray, List.set_cons_zero, List.set_cons_succ]
  refine rg_take (i := 11) (v := ?vs11) (by simp only [List.getElem?_toArray, List.getElem?_cons_succ, List.getElem?_cons_zero]; rfl) (by kernel_rfl) (by exact fun _ _ _ h => h) (by rfl) ?rs11 hF ?ss11
  case rs11 => (intro W hW; clear hW; go_simp; try with_reducible rfl)
  try simp only [Act.put, List.setIfInBounds_toArray, List.set_cons_zero, List.set_cons_succ]
  refine rg_one (i := 12) (oi := ?os12) ?as12 ?bs12 ?cs12 ?ds12
  case as12 => (simp only [List.getElem?_toArray, List.getElem?_cons_succ, List.getElem?_cons_zero]; rfl)
  case bs12 => kernel_rfl
  case cs12 => rfl
  intro K hK
  (go_simp; refine (pl _ (Kp.refl No w2).drew).mono ?_; rintro e w3 ⟨rfl, k3⟩)
  refine rg_use hK (k3) (fun hF => ?_)
  clear hK K
  try simp only [Act.put, List.setIfInBounds_toArray, List.set_cons_zero, List.set_cons_succ]
  refine rg_take (i := 13) (v := ?vs13) (by simp only [List.getElem?_toArray, List.getElem?_cons_succ, List.getElem?_cons_zero]; rfl) (by kernel_rfl) (by exact fun _ _ _ h => h) (by rfl) ?rs13 hF ?ss13
  case rs13 => (intro W hW; clear hW; go_simp; try with_reducible rfl)
  try simp only [Act.put, List.setIfInBounds_toArray, List.set_cons_zero, List.set_cons_succ]
  refine rg_take (i := 14) (v := ?vs14) (by simp only [List.getElem?_toArray, List.getElem?_cons_succ, List.getElem?_cons_zero]; rfl) (by kernel_rfl) (by exact fun _ _ _ h => h) (by rfl) ?rs14 hF ?ss14
  case rs14 => (intro W hW; clear hW; go_simp; try with_reducible rfl)
  try simp only [Act.put, List.setIfInBounds_toArray, List.set_cons_zero, List.set_cons_succ]
  refine rg_take (i := 15) (v := ?vs15) (by simp only [List.getElem?_toArray, List.getElem?_cons_succ, List.getElem?_cons_zero]; rfl) (by kernel_rfl) (by exact fun _ _ _ h => h) (by rfl) ?rs15 hF ?ss15
  case rs15 => (intro W hW; clear hW; go_simp; try with_reducible rfl)
  try simp only [Act.put, List.setIfInBounds_toArray, List.set_cons_zero, List.set_cons_succ]
  refine rg_take (i := 16) (v := ?vs16) (by simp only [List.getElem?_toArray, List.getElem?_cons_succ, List.getElem?_cons_zero]; rfl) (by kernel_rfl) (by exact fun _ _ _ h => h) (by rfl) ?rs16 hF ?ss16
  case rs16 => (intro W hW; clear hW; go_simp; try with_reducible rfl)
  try simp only [Act.put, List.setIfInBounds_toArray, List.set_cons_zero, List.set_cons_succ]
  refine rg_done (by kernel_rfl) ?_
  have HK3 := Lib.hid (HK2.out.trans k3)
  have HB3 := Lib.hid (HB2.out.no k3)
  have HO3 := Lib.hid (HO2.out.no k3)
  clear k3 pl hlb1 hlb2 h3 h4 h5
  have y1 : w3.cell? ⟨b, 1, none⟩ = some (.int .i64 N) := by rw [HN.out]; exact HO3.out.1.cell 1
  obtain ⟨u0, e0⟩ : ∃ u, C[0]? = some u := ⟨_, List.getElem?_eq_getElem (by rw [HT.out.len]; decide)⟩
  obtain ⟨u8, e8⟩ : ∃ u, C[8]? = some u := ⟨_, List.getElem?_eq_getElem (by rw [HT.out.len]; decide)⟩
  obtain ⟨u9, e9⟩ : ∃ u, C[9]? = some u := ⟨_, List.getElem?_eq_getElem (by rw [HT.out.len]; decide)⟩
  have s0 : w3.cell? ⟨W.heap.size, 0, none⟩ = some u0 := (HB3.out.cell 0).trans e0
  have s8 : w3.cell? ⟨W.heap.size, 8, none⟩ = some u8 := (HB3.out.cell 8).trans e8
  have s9 : w3.cell? ⟨W.heap.size, 9, none⟩ = some u9 := (HB3.out.cell 9).trans e9
  have g0 := HB3.out.frozen 0; have g8 := HB3.out.frozen 8; have g9 := HB3.out.frozen 9
  clear e0 e8 e9
  go_upto_region 12 with (fail)
  have HB4 := Lib.hid (((HB3.out.set_ 0 (.int .i64 N)).set_ 8 (.int .i64 now)).set_ 9 (.int .i64 1))
  have HK4 := Lib.hid ((((Kp.refl No W).trans HK3.out).set (.inr (Nat.le_refl _)) 0 (.int .i64 N) |>.set (.inr (Nat.le_refl _)) 8 (.int .i64 now)).set (.inr (Nat.le_refl _)) 9 (.int .i64 1))
  have HCN : ((C.set 0 (.int .i64 N)).set 8 (.int .i64 now)).set 9 (.int .i64 1) = D := by rw [HN.out]; exact HCD.out
  rw [HCN] at HB4
  clear HCN s0 s8 s9 g0 g8 g9 y1 hF
  generalize World.setCell _ _ (.int .i64 1) = w4 at *
  refine wp_region_still_tail 7 (by kernel_rfl) (by kernel_rfl) ?_
  simp only [List.take_succ_cons, List.take_zero, List.drop_succ_cons, List.drop_zero]
  change wpStill _ _ w4.drew (fun a' => wpList _ _ _ _ a' w4.drew) _ _
  have HB5 := Lib.hid HB4.out.drew
  have HK5 := Lib.hid HK4.out.drew
  have HO5 := Lib.hid (H.out.no HK5.out)
  clear HB4 HK4
  generalize w4.drew = w5 at *
  have c2 : w5.cell? ⟨b, 2, none⟩ = some (.map (some mb)) := HO5.out.1.cell 2
  have s0 : w5.cell? ⟨W.heap.size, 0, none⟩ = some (.int .i64 N) := by rw [HN.out]; exact (HB5.out.cell 0).trans HD0.out
  have HX2 := Lib.hid HB5.out.all_
  have HID := Lib.hid HTD.out.infoL
  have HLL := Lib.hid (show c.opn.length < maxLen by have := HC.out.len; unfold maxLen; omega)
  have HNM := Lib.hid (show ∀ y ∈ c.opn, y.seq < (callC c now x).seq from fun y hy => by rw [HSQ.out]; exact (HC.out.num y hy).2)
  have HWF := Lib.hid (show (Lit.int .i64 (callC c now x).seq).wf = true by
    rw [HSQ.out, ← HN.out]; exact wf64 ⟨by omega, by omega⟩)
  have HSN := Lib.hid (show (callC c now x).seq = N by rw [HSQ.out, HN.out])
  generalize hcc : callC c now x = cc at *
  have HCC := Lib.hid hcc
  clear hcc
  repeat still_step
  refine still_load_mid rfl _ _ rfl W.heap.size 0 rfl D _ HX2.out Tryz.underlying32 rfl HID.out ?_
  refine wpStill_nil ?_
  rw [← HVD.out]
  refine wp_putNew _ rfl _ _ _ _ rfl 3 32 intT mapT mb c.opn cc rfl HO5.out.2 HLL.out (by rw [HSN.out]; rfl) HWF.out rfl HNM.out ?_
  intro w6 hm6 ht6
  have kt := Kp.turned ht6
  have HB6 := Lib.hid (HB5.out.kp kt (fun e : W.heap.size = mb => by omega))
  have HO6 := Lib.hid (HO5.out.1.kp kt HNE.out)
  have HM6 := Lib.hid hm6
  have HK6 := Lib.hid ((HK5.out.of_no (M := Two b mb)).then_ kt (fun i _ e => .inr e))
  clear kt ht6 hm6 c2 s0 HX2
  have y1 : w6.cell? ⟨b, 1, none⟩ = some (.int .i64 N) := by rw [HN.out]; exact HO6.out.cell 1
  have yf := HO6.out.frozen 1
  have s0 : w6.cell? ⟨W.heap.size, 0, none⟩ = some (.int .i64 N) := by rw [HN.out]; exact (HB6.out.cell 0).trans HD0.out
  have HS7 := Lib.hid (show (w6.setCell ⟨b, 1, none⟩ (.int .i64 (N + 1))).cell? ⟨W.heap.size, 0, none⟩ = some (.int .i64 N) by
    have := (HB6.out.far (p := ⟨b, 1, none⟩) (by show W.heap.size ≠ b; omega) (.int .i64 (N + 1))).cell 0
    rw [this, HN.out]; exact HD0.out)
  rw [HVD.out]
  go_upto_region 14 with (fail)
  have s0 := HS7.out
  go_wp2
  rw [HN.out]
  have k7 : Kp (One b) w6 (w6.setCell ⟨b, 1, none⟩ (.int .i64 (c.next + 1))) := (Kp.refl (One b) w6).set (.inl rfl) 1 _
  refine HG.out _ HS.out ⟨?_, ?_⟩ (HK6.out.then_ k7 fun i _ e => .inl e)
  · exact HO6.out.set_ 1 _
  · have e2 : (openC c now x).opn = c.opn ++ [cc] := by rw [← HCC.out]; rfl
    rw [e2]
    exact HM6.out.kp k7 (fun e : mb = b => HNE.out (Eq.symm e))
end Go.Proofs.YtkiaclldjofdoaaGreat
