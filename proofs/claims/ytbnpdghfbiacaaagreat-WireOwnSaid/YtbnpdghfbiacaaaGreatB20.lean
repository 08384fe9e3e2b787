/- Several texts of this claim in one. No condition beyond what each theorem states. -/
import Derived.Test.YtbnpdghfbiacaaaGreatB18
import Derived.Test.YtbnpdghfbiacaaaGreatB19
/- The document's body by contract, by ways. No condition beyond what each theorem states. -/
namespace Go.Proofs.YtbnpdghfbiacaaaGreat
open Go Go.RowKit Go.PlainAid

set_option maxRecDepth 100000 in
set_option maxHeartbeats 4000000 in
theorem rbody_rep0 (x1 : Int) (x2 : Int) (x3 : Int) (x4 : Int) (x5 : Int) (x6 : Int) (x7 : List UInt8) (x8 : Int) (x9 : Int) (x10 : Int) (x11 : Bool) (x13 : List Int) (x14 : Int) (x15 : Int) (A : Option Addr) (c : Nat) (W : World) (hs : ArgInts W (.slice A x13.length c) x13) (hr : Rng (⟨2, x1, x2, x3, x4, x5, x6, x7, x8, x9, x10, x11, 0, x13, x14, x15⟩ : Msg)) (hp : x7.length ≤ 1000) (hst : x13.length ≤ 1000) :
    Calls Tryz.prog 22 #[.agg (mcells (⟨2, x1, x2, x3, x4, x5, x6, x7, x8, x9, x10, x11, 0, x13, x14, x15⟩ : Msg) (.slice A x13.length c)).toArray] W fun e w' => ∃ v, e = .returned v ∧ OwnB w' W.heap.size v (bodyS (⟨2, x1, x2, x3, x4, x5, x6, x7, x8, x9, x10, x11, 0, x13, x14, x15⟩ : Msg)) ∧ Kp No W w' := by
  have HB := Lib.hid (show bodyS (⟨2, x1, x2, x3, x4, x5, x6, x7, x8, x9, x10, x11, 0, x13, x14, x15⟩ : Msg) = (((outI [2, x1, x2] ++ outI [x3, x4, 0]) ++ outI [x10, x9]) ++ cS x13) by simp [bodyS, outI, nS, List.append_assoc])
  have r1 : x1 < 9223372036854775808 := hr.1 x1 (by simp)
  have r2 : x2 < 9223372036854775808 := hr.1 x2 (by simp)
  have r3 : x3 < 9223372036854775808 := hr.1 x3 (by simp)
  have r4 : x4 < 9223372036854775808 := hr.1 x4 (by simp)
  have r5 : x5 < 9223372036854775808 := hr.1 x5 (by simp)
  have r6 : x6 < 9223372036854775808 := hr.1 x6 (by simp)
  have r8 : x8 < 9223372036854775808 := hr.1 x8 (by simp)
  have r9 : x9 < 9223372036854775808 := hr.1 x9 (by simp)
  have r10 : x10 < 9223372036854775808 := hr.1 x10 (by simp)
  have r14 : x14 < 9223372036854775808 := hr.1 x14 (by simp)
  have r15 : x15 < 9223372036854775808 := hr.1 x15 (by simp)
  have HR := Lib.hid hr.2
  have HS := Lib.hid hs
  clear hr hs
  have HB0 := Lib.hid (show Bk (W.alloc (.cells (mcells (⟨2, x1, x2, x3, x4, x5, x6, x7, x8, x9, x10, x11, 0, x13, x14, x15⟩ : Msg) (.slice A x13.length c)).toArray 28)) W.heap.size 28 (mcells (⟨2, x1, x2, x3, x4, x5, x6, x7, x8, x9, x10, x11, 0, x13, x14, x15⟩ : Msg) (.slice A x13.length c)) from Bk.new' rfl rfl)
  have HK0 := Lib.hid ((Kp.refl No W).alloc (.cells (mcells (⟨2, x1, x2, x3, x4, x5, x6, x7, x8, x9, x10, x11, 0, x13, x14, x15⟩ : Msg) (.slice A x13.length c)).toArray 28))
  simp only [mcells] at HB0 HK0 ⊢
  go_enter Tryz.func22, Tryz.ntmps22
  have pn := refNums_any (.slice (some ⟨W.heap.size + 1, 0, none⟩) 3 3) [2, x1, x2] ((W.alloc (.cells (mcells (⟨2, x1, x2, x3, x4, x5, x6, x7, x8, x9, x10, x11, 0, x13, x14, x15⟩ : Msg) (.slice A x13.length c)).toArray 28)).alloc (.cells #[.int .i64 (2), .int .i64 (x1), .int .i64 (x2)] 3)) (bkI (Bk.new' (by simp) rfl) rfl) (by simp) (by intro z hz; simp only [List.mem_cons, List.not_mem_nil, or_false] at hz; rcases hz with rfl | rfl | rfl <;> omega)
  simp only [mcells] at pn
  go_wp2_with fail
  refine pn.mono ?_
  rintro e w1 ⟨v1, rfl, o1, k1⟩
  have B1 := Lib.hid ((HB0.out.alloc (.cells #[.int .i64 (2), .int .i64 (x1), .int .i64 (x2)] 3)).no k1); have K1 := Lib.hid ((HK0.out.alloc (.cells #[.int .i64 (2), .int .i64 (x1), .int .i64 (x2)] 3)).trans k1)
  have O1 := Lib.hid (show OwnB w1 (W.heap.size + 1) v1 (outI [2, x1, x2]) from OwnB.mono o1 (by simp))
  have S1 := Lib.hid (show W.heap.size + 1 ≤ w1.heap.size by have := k1.size; simp at this; omega)
  obtain ⟨A1, c1, rfl, _⟩ := own_len o1
  have z7 := B1.out.cell 7
  have e0 := outI_len [2, x1, x2] (by intro z hz; simp only [List.mem_cons, List.not_mem_nil, or_false] at hz; rcases hz with rfl | rfl | rfl <;> omega)
  simp only [List.getElem?_cons_zero, List.getElem?_cons_succ, List.length_cons, List.length_nil] at z7 e0
  clear k1 o1 HB0 HK0 pn
  obtain ⟨l0, hl0⟩ : ∃ l0, l0 = outI [2, x1, x2] := ⟨_, rfl⟩
  rw [← hl0] at O1 HB e0 ⊢
  clear hl0
  have pt : Calls Tryz.prog 45 #[.string ⟨x7.toArray⟩] w1 fun e w' => ∃ v, e = .returned v ∧ OwnB w' w1.heap.size v (textS x7) ∧ Kp No w1 w' := refText_any ⟨x7.toArray⟩ w1 (by show x7.toArray.size ≤ _; rw [List.size_toArray]; omega)
  go_wp2_with fail
  refine pt.mono ?_
  rintro e w2 ⟨vt, rfl, o2, k2⟩
  have HI := Lib.hid (BI.text (m := (⟨2, x1, x2, x3, x4, x5, x6, x7, x8, x9, x10, x11, 0, x13, x14, x15⟩ : Msg)) (sv := (.slice A x13.length c)) B1.out O1.out K1.out S1.out o2 k2)
  obtain ⟨At, ct, rfl, _⟩ := own_len o2
  have et : (textS x7).length ≤ 1009 := by
    have := numS_len 8 x7.length (by omega)
    unfold textS; rw [List.length_append]; omega
  clear k2 o2 B1 O1 K1 S1 pt z7
  obtain ⟨lt, hlt⟩ : ∃ lt, lt = textS x7 := ⟨_, rfl⟩
  rw [← hlt] at HI et ⊢
  try rw [← hlt] at HB
  clear hlt
  obtain ⟨z0, z1, z2, z3, z4, z5, z6, z7, z8, z9, z10, z11, z12, z13, z14, z15⟩ := cells16 HI.out.box
  dsimp only at z0 z1 z2 z3 z4 z5 z6 z7 z8 z9 z10 z11 z12 z13 z14 z15
  have pn := refNums_any (.slice (some ⟨w2.heap.size, 0, none⟩) 3 3) [x3, x4, 0] (w2.alloc (.cells #[.int .i64 (x3), .int .i64 (x4), .int .i64 (0)] 3)) (bkI (Bk.new' rfl rfl) rfl) (by simp) (by intro z hz; simp only [List.mem_cons, List.not_mem_nil, or_false] at hz; rcases hz with rfl | rfl | rfl <;> omega)
  go_wp2_with fail
  refine pn.mono ?_
  rintro e w3 ⟨u0, rfl, o0, k0⟩
  obtain ⟨D0, g0, rfl, _⟩ := own_len o0
  have HA0 := Lib.hid (own_argB o0)
  have HI := Lib.hid ((HI.out.no ((Kp.refl No _).alloc (.cells #[.int .i64 (x3), .int .i64 (x4), .int .i64 (0)] 3))).no k0)
  have e1 := outI_len [x3, x4, 0] (by intro z hz; simp only [List.mem_cons, List.not_mem_nil, or_false] at hz; rcases hz with rfl | rfl | rfl <;> omega)
  simp only [List.length_cons, List.length_nil] at e1
  clear k0 o0 pn z0 z1 z2 z3 z4 z5 z6 z7 z8 z9 z10 z11 z12 z13 z14 z15
  obtain ⟨q0, hq0⟩ : ∃ q0, q0 = outI [x3, x4, 0] := ⟨_, rfl⟩
  rw [← hq0] at HA0 e1 HB ⊢
  clear hq0
  go_wp2_with (at_builtin; have hsz := HI.out.size; refine (wpList_appV _ rfl _ _ 30 rfl (W.heap.size + 1) 5 _ 1 Tryz.underlying30 Tryz.infoByte rfl _ l0.length (u8s l0) rfl HI.out.own D0 q0.length g0 (u8s q0) rfl (by simp) HA0.out.cs.1 (u8s_one _) (by omega) (by omega) hsz ?_); intro v4 w4 p4 y4 n4; have HI := Lib.hid (HI.out.app p4 y4 n4); clear p4 y4 n4 hsz HA0; obtain ⟨E4, f4, rfl, _⟩ := own_len HI.out.own; have m4 : (l0 ++ q0).length ≤ 54 := (by rw [List.length_append]; omega); obtain ⟨l4, hl4⟩ : ∃ l4, l4 = l0 ++ q0 := ⟨_, rfl⟩; rw [← hl4] at HI m4 ⊢; rw [← hl4] at HB; clear hl4; obtain ⟨z0, z1, z2, z3, z4, z5, z6, z7, z8, z9, z10, z11, z12, z13, z14, z15⟩ := cells16 HI.out.box; dsimp only at z0 z1 z2 z3 z4 z5 z6 z7 z8 z9 z10 z11 z12 z13 z14 z15)
  have pn := refNums_any (.slice (some ⟨w4.heap.size, 0, none⟩) 2 2) [x10, x9] (w4.alloc (.cells #[.int .i64 (x10), .int .i64 (x9)] 3)) (bkI (Bk.new' rfl rfl) rfl) (by simp) (by intro z hz; simp only [List.mem_cons, List.not_mem_nil, or_false] at hz; rcases hz with rfl | rfl <;> omega)
  refine pn.mono ?_
  rintro e w5 ⟨u1, rfl, o1, k1⟩
  obtain ⟨D1, g1, rfl, _⟩ := own_len o1
  have HA1 := Lib.hid (own_argB o1)
  have HI := Lib.hid ((HI.out.no ((Kp.refl No _).alloc (.cells #[.int .i64 (x10), .int .i64 (x9)] 3))).no k1)
  have e2 := outI_len [x10, x9] (by intro z hz; simp only [List.mem_cons, List.not_mem_nil, or_false] at hz; rcases hz with rfl | rfl <;> omega)
  simp only [List.length_cons, List.length_nil] at e2
  clear k1 o1 pn z0 z1 z2 z3 z4 z5 z6 z7 z8 z9 z10 z11 z12 z13 z14 z15
  obtain ⟨q1, hq1⟩ : ∃ q1, q1 = outI [x10, x9] := ⟨_, rfl⟩
  rw [← hq1] at HA1 e2 HB ⊢
  clear hq1
  go_wp2_with (at_builtin; have hsz := HI.out.size; refine (wpList_appV _ rfl _ _ 30 rfl (W.heap.size + 1) 5 _ 1 Tryz.underlying30 Tryz.infoByte rfl _ l4.length (u8s l4) rfl HI.out.own D1 q1.length g1 (u8s q1) rfl (by simp) HA1.out.cs.1 (u8s_one _) (by omega) (by omega) hsz ?_); intro v6 w6 p6 y6 n6; have HI := Lib.hid (HI.out.app p6 y6 n6); clear p6 y6 n6 hsz HA1; obtain ⟨E6, f6, rfl, _⟩ := own_len HI.out.own; have m6 : (l4 ++ q1).length ≤ 72 := (by rw [List.length_append]; omega); obtain ⟨l6, hl6⟩ : ∃ l6, l6 = l4 ++ q1 := ⟨_, rfl⟩; rw [← hl6] at HI m6 ⊢; rw [← hl6] at HB; clear hl6; obtain ⟨z0, z1, z2, z3, z4, z5, z6, z7, z8, z9, z10, z11, z12, z13, z14, z15⟩ := cells16 HI.out.box; dsimp only at z0 z1 z2 z3 z4 z5 z6 z7 z8 z9 z10 z11 z12 z13 z14 z15)
  have pc := refCounters_any _ x13 _ (HS.out.no HI.out.kp) hst HR.out
  refine pc.mono ?_
  rintro e w7 ⟨u2, rfl, o2, k2⟩
  obtain ⟨D2, g2, rfl, _⟩ := own_len o2
  have HA2 := Lib.hid (own_argB o2)
  have HI := Lib.hid (HI.out.no k2)
  have e3 : (cS x13).length ≤ 9009 := by
    have h1 := outI_len x13 HR.out
    have h2 := numS_len 8 x13.length (by omega)
    rw [cS_out, List.length_append]; omega
  clear k2 o2 pc z0 z1 z2 z3 z4 z5 z6 z7 z8 z9 z10 z11 z12 z13 z14 z15
  obtain ⟨q2, hq2⟩ : ∃ q2, q2 = cS x13 := ⟨_, rfl⟩
  rw [← hq2] at HA2 e3 HB ⊢
  clear hq2
  go_wp2_with (at_builtin; have hsz := HI.out.size; refine (wpList_appV _ rfl _ _ 30 rfl (W.heap.size + 1) 5 _ 1 Tryz.underlying30 Tryz.infoByte rfl _ l6.length (u8s l6) rfl HI.out.own D2 q2.length g2 (u8s q2) rfl (by simp) HA2.out.cs.1 (u8s_one _) (by omega) (by omega) hsz ?_); intro v8 w8 p8 y8 n8; have HI := Lib.hid (HI.out.app p8 y8 n8); clear p8 y8 n8 hsz HA2; obtain ⟨E8, f8, rfl, _⟩ := own_len HI.out.own; have m8 : (l6 ++ q2).length ≤ 9081 := (by rw [List.length_append]; omega); obtain ⟨l8, hl8⟩ : ∃ l8, l8 = l6 ++ q2 := ⟨_, rfl⟩; rw [← hl8] at HI m8 ⊢; rw [← hl8] at HB; clear hl8; obtain ⟨z0, z1, z2, z3, z4, z5, z6, z7, z8, z9, z10, z11, z12, z13, z14, z15⟩ := cells16 HI.out.box; dsimp only at z0 z1 z2 z3 z4 z5 z6 z7 z8 z9 z10 z11 z12 z13 z14 z15)
  go_ret
  exact ⟨_, rfl, by rw [HB.out]; exact HI.out.own.mono (by omega), HI.out.kp⟩
end Go.Proofs.YtbnpdghfbiacaaaGreat

/- The document's body by contract, by ways. No condition beyond what each theorem states. -/
namespace Go.Proofs.YtbnpdghfbiacaaaGreat
open Go Go.RowKit Go.PlainAid

set_option maxRecDepth 100000 in
set_option maxHeartbeats 4000000 in
theorem rbody_rep1 (x1 : Int) (x2 : Int) (x3 : Int) (x4 : Int) (x5 : Int) (x6 : Int) (x7 : List UInt8) (x8 : Int) (x9 : Int) (x10 : Int) (x11 : Bool) (x12 : Int) (x13 : List Int) (x14 : Int) (x15 : Int) (h0 : x12 ≠ 0) (A : Option Addr) (c : Nat) (W : World) (hs : ArgInts W (.slice A x13.length c) x13) (hr : Rng (⟨2, x1, x2, x3, x4, x5, x6, x7, x8, x9, x10, x11, x12, x13, x14, x15⟩ : Msg)) (hp : x7.length ≤ 1000) (_hst : x13.length ≤ 1000) :
    Calls Tryz.prog 22 #[.agg (mcells (⟨2, x1, x2, x3, x4, x5, x6, x7, x8, x9, x10, x11, x12, x13, x14, x15⟩ : Msg) (.slice A x13.length c)).toArray] W fun e w' => ∃ v, e = .returned v ∧ OwnB w' W.heap.size v (bodyS (⟨2, x1, x2, x3, x4, x5, x6, x7, x8, x9, x10, x11, x12, x13, x14, x15⟩ : Msg)) ∧ Kp No W w' := by
  have d0 : (x12 == 0) = false := by rw [beq_eq_false_iff_ne]; exact h0
  have HB := Lib.hid (show bodyS (⟨2, x1, x2, x3, x4, x5, x6, x7, x8, x9, x10, x11, x12, x13, x14, x15⟩ : Msg) = (outI [2, x1, x2] ++ outI [x3, x4, x12]) by simp [bodyS, outI, nS, List.append_assoc, h0])
  clear h0
  have r1 : x1 < 9223372036854775808 := hr.1 x1 (by simp)
  have r2 : x2 < 9223372036854775808 := hr.1 x2 (by simp)
  have r3 : x3 < 9223372036854775808 := hr.1 x3 (by simp)
  have r4 : x4 < 9223372036854775808 := hr.1 x4 (by simp)
  have r5 : x5 < 9223372036854775808 := hr.1 x5 (by simp)
  have r6 : x6 < 9223372036854775808 := hr.1 x6 (by simp)
  have r8 : x8 < 9223372036854775808 := hr.1 x8 (by simp)
  have r9 : x9 < 9223372036854775808 := hr.1 x9 (by simp)
  have r10 : x10 < 9223372036854775808 := hr.1 x10 (by simp)
  have r12 : x12 < 9223372036854775808 := hr.1 x12 (by simp)
  have r14 : x14 < 9223372036854775808 := hr.1 x14 (by simp)
  have r15 : x15 < 9223372036854775808 := hr.1 x15 (by simp)
  have HR := Lib.hid hr.2
  have HS := Lib.hid hs
  clear hr hs
  have HB0 := Lib.hid (show Bk (W.alloc (.cells (mcells (⟨2, x1, x2, x3, x4, x5, x6, x7, x8, x9, x10, x11, x12, x13, x14, x15⟩ : Msg) (.slice A x13.length c)).toArray 28)) W.heap.size 28 (mcells (⟨2, x1, x2, x3, x4, x5, x6, x7, x8, x9, x10, x11, x12, x13, x14, x15⟩ : Msg) (.slice A x13.length c)) from Bk.new' rfl rfl)
  have HK0 := Lib.hid ((Kp.refl No W).alloc (.cells (mcells (⟨2, x1, x2, x3, x4, x5, x6, x7, x8, x9, x10, x11, x12, x13, x14, x15⟩ : Msg) (.slice A x13.length c)).toArray 28))
  simp only [mcells] at HB0 HK0 ⊢
  go_enter Tryz.func22, Tryz.ntmps22
  have pn := refNums_any (.slice (some ⟨W.heap.size + 1, 0, none⟩) 3 3) [2, x1, x2] ((W.alloc (.cells (mcells (⟨2, x1, x2, x3, x4, x5, x6, x7, x8, x9, x10, x11, x12, x13, x14, x15⟩ : Msg) (.slice A x13.length c)).toArray 28)).alloc (.cells #[.int .i64 (2), .int .i64 (x1), .int .i64 (x2)] 3)) (bkI (Bk.new' (by simp) rfl) rfl) (by simp) (by intro z hz; simp only [List.mem_cons, List.not_mem_nil, or_false] at hz; rcases hz with rfl | rfl | rfl <;> omega)
  simp only [mcells] at pn
  go_wp2_with fail
  refine pn.mono ?_
  rintro e w1 ⟨v1, rfl, o1, k1⟩
  have B1 := Lib.hid ((HB0.out.alloc (.cells #[.int .i64 (2), .int .i64 (x1), .int .i64 (x2)] 3)).no k1); have K1 := Lib.hid ((HK0.out.alloc (.cells #[.int .i64 (2), .int .i64 (x1), .int .i64 (x2)] 3)).trans k1)
  have O1 := Lib.hid (show OwnB w1 (W.heap.size + 1) v1 (outI [2, x1, x2]) from OwnB.mono o1 (by simp))
  have S1 := Lib.hid (show W.heap.size + 1 ≤ w1.heap.size by have := k1.size; simp at this; omega)
  obtain ⟨A1, c1, rfl, _⟩ := own_len o1
  have z7 := B1.out.cell 7
  have e0 := outI_len [2, x1, x2] (by intro z hz; simp only [List.mem_cons, List.not_mem_nil, or_false] at hz; rcases hz with rfl | rfl | rfl <;> omega)
  simp only [List.getElem?_cons_zero, List.getElem?_cons_succ, List.length_cons, List.length_nil] at z7 e0
  clear k1 o1 HB0 HK0 pn
  obtain ⟨l0, hl0⟩ : ∃ l0, l0 = outI [2, x1, x2] := ⟨_, rfl⟩
  rw [← hl0] at O1 HB e0 ⊢
  clear hl0
  have pt : Calls Tryz.prog 45 #[.string ⟨x7.toArray⟩] w1 fun e w' => ∃ v, e = .returned v ∧ OwnB w' w1.heap.size v (textS x7) ∧ Kp No w1 w' := refText_any ⟨x7.toArray⟩ w1 (by show x7.toArray.size ≤ _; rw [List.size_toArray]; omega)
  go_wp2_with fail
  refine pt.mono ?_
  rintro e w2 ⟨vt, rfl, o2, k2⟩
  have HI := Lib.hid (BI.text (m := (⟨2, x1, x2, x3, x4, x5, x6, x7, x8, x9, x10, x11, x12, x13, x14, x15⟩ : Msg)) (sv := (.slice A x13.length c)) B1.out O1.out K1.out S1.out o2 k2)
  obtain ⟨At, ct, rfl, _⟩ := own_len o2
  have et : (textS x7).length ≤ 1009 := by
    have := numS_len 8 x7.length (by omega)
    unfold textS; rw [List.length_append]; omega
  clear k2 o2 B1 O1 K1 S1 pt z7
  obtain ⟨lt, hlt⟩ : ∃ lt, lt = textS x7 := ⟨_, rfl⟩
  rw [← hlt] at HI et ⊢
  try rw [← hlt] at HB
  clear hlt
  obtain ⟨z0, z1, z2, z3, z4, z5, z6, z7, z8, z9, z10, z11, z12, z13, z14, z15⟩ := cells16 HI.out.box
  dsimp only at z0 z1 z2 z3 z4 z5 z6 z7 z8 z9 z10 z11 z12 z13 z14 z15
  have pn := refNums_any (.slice (some ⟨w2.heap.size, 0, none⟩) 3 3) [x3, x4, x12] (w2.alloc (.cells #[.int .i64 (x3), .int .i64 (x4), .int .i64 (x12)] 3)) (bkI (Bk.new' rfl rfl) rfl) (by simp) (by intro z hz; simp only [List.mem_cons, List.not_mem_nil, or_false] at hz; rcases hz with rfl | rfl | rfl <;> omega)
  go_wp2_with fail
  refine pn.mono ?_
  rintro e w3 ⟨u0, rfl, o0, k0⟩
  obtain ⟨D0, g0, rfl, _⟩ := own_len o0
  have HA0 := Lib.hid (own_argB o0)
  have HI := Lib.hid ((HI.out.no ((Kp.refl No _).alloc (.cells #[.int .i64 (x3), .int .i64 (x4), .int .i64 (x12)] 3))).no k0)
  have e1 := outI_len [x3, x4, x12] (by intro z hz; simp only [List.mem_cons, List.not_mem_nil, or_false] at hz; rcases hz with rfl | rfl | rfl <;> omega)
  simp only [List.length_cons, List.length_nil] at e1
  clear k0 o0 pn z0 z1 z2 z3 z4 z5 z6 z7 z8 z9 z10 z11 z12 z13 z14 z15
  obtain ⟨q0, hq0⟩ : ∃ q0, q0 = outI [x3, x4, x12] := ⟨_, rfl⟩
  rw [← hq0] at HA0 e1 HB ⊢
  clear hq0
  go_wp2_with (at_builtin; have hsz := HI.out.size; refine (wpList_appV _ rfl _ _ 30 rfl (W.heap.size + 1) 5 _ 1 Tryz.underlying30 Tryz.infoByte rfl _ l0.length (u8s l0) rfl HI.out.own D0 q0.length g0 (u8s q0) rfl (by simp) HA0.out.cs.1 (u8s_one _) (by omega) (by omega) hsz ?_); intro v4 w4 p4 y4 n4; have HI := Lib.hid (HI.out.app p4 y4 n4); clear p4 y4 n4 hsz HA0; obtain ⟨E4, f4, rfl, _⟩ := own_len HI.out.own; have m4 : (l0 ++ q0).length ≤ 54 := (by rw [List.length_append]; omega); obtain ⟨l4, hl4⟩ : ∃ l4, l4 = l0 ++ q0 := ⟨_, rfl⟩; rw [← hl4] at HI m4 ⊢; rw [← hl4] at HB; clear hl4; obtain ⟨z0, z1, z2, z3, z4, z5, z6, z7, z8, z9, z10, z11, z12, z13, z14, z15⟩ := cells16 HI.out.box; dsimp only at z0 z1 z2 z3 z4 z5 z6 z7 z8 z9 z10 z11 z12 z13 z14 z15)
  go_ret
  exact ⟨_, rfl, by rw [HB.out]; exact HI.out.own.mono (by omega), HI.out.kp⟩
end Go.Proofs.YtbnpdghfbiacaaaGreat

/- The document's body by contract, by ways. No condition beyond what each theorem states. -/
namespace Go.Proofs.YtbnpdghfbiacaaaGreat
open Go Go.RowKit Go.PlainAid

set_option maxRecDepth 100000 in
set_option maxHeartbeats 4000000 in
theorem rbody_rec (x1 : Int) (x2 : Int) (x3 : Int) (x4 : Int) (x5 : Int) (x6 : Int) (x7 : List UInt8) (x8 : Int) (x9 : Int) (x10 : Int) (x11 : Bool) (x12 : Int) (x13 : List Int) (x14 : Int) (x15 : Int) (A : Option Addr) (c : Nat) (W : World) (hs : ArgInts W (.slice A x13.length c) x13) (hr : Rng (⟨3, x1, x2, x3, x4, x5, x6, x7, x8, x9, x10, x11, x12, x13, x14, x15⟩ : Msg)) (hp : x7.length ≤ 1000) (_hst : x13.length ≤ 1000) :
    Calls Tryz.prog 22 #[.agg (mcells (⟨3, x1, x2, x3, x4, x5, x6, x7, x8, x9, x10, x11, x12, x13, x14, x15⟩ : Msg) (.slice A x13.length c)).toArray] W fun e w' => ∃ v, e = .returned v ∧ OwnB w' W.heap.size v (bodyS (⟨3, x1, x2, x3, x4, x5, x6, x7, x8, x9, x10, x11, x12, x13, x14, x15⟩ : Msg)) ∧ Kp No W w' := by
  have HB := Lib.hid (show bodyS (⟨3, x1, x2, x3, x4, x5, x6, x7, x8, x9, x10, x11, x12, x13, x14, x15⟩ : Msg) = (((outI [3, x1, x2] ++ outI [x10]) ++ textS x7) ++ outI [x14, x15]) by simp [bodyS, outI, nS, List.append_assoc])
  have r1 : x1 < 9223372036854775808 := hr.1 x1 (by simp)
  have r2 : x2 < 9223372036854775808 := hr.1 x2 (by simp)
  have r3 : x3 < 9223372036854775808 := hr.1 x3 (by simp)
  have r4 : x4 < 9223372036854775808 := hr.1 x4 (by simp)
  have r5 : x5 < 9223372036854775808 := hr.1 x5 (by simp)
  have r6 : x6 < 9223372036854775808 := hr.1 x6 (by simp)
  have r8 : x8 < 9223372036854775808 := hr.1 x8 (by simp)
  have r9 : x9 < 9223372036854775808 := hr.1 x9 (by simp)
  have r10 : x10 < 9223372036854775808 := hr.1 x10 (by simp)
  have r12 : x12 < 9223372036854775808 := hr.1 x12 (by simp)
  have r14 : x14 < 9223372036854775808 := hr.1 x14 (by simp)
  have r15 : x15 < 9223372036854775808 := hr.1 x15 (by simp)
  have HR := Lib.hid hr.2
  have HS := Lib.hid hs
  clear hr hs
  have HB0 := Lib.hid (show Bk (W.alloc (.cells (mcells (⟨3, x1, x2, x3, x4, x5, x6, x7, x8, x9, x10, x11, x12, x13, x14, x15⟩ : Msg) (.slice A x13.length c)).toArray 28)) W.heap.size 28 (mcells (⟨3, x1, x2, x3, x4, x5, x6, x7, x8, x9, x10, x11, x12, x13, x14, x15⟩ : Msg) (.slice A x13.length c)) from Bk.new' rfl rfl)
  have HK0 := Lib.hid ((Kp.refl No W).alloc (.cells (mcells (⟨3, x1, x2, x3, x4, x5, x6, x7, x8, x9, x10, x11, x12, x13, x14, x15⟩ : Msg) (.slice A x13.length c)).toArray 28))
  simp only [mcells] at HB0 HK0 ⊢
  go_enter Tryz.func22, Tryz.ntmps22
  have pn := refNums_any (.slice (some ⟨W.heap.size + 1, 0, none⟩) 3 3) [3, x1, x2] ((W.alloc (.cells (mcells (⟨3, x1, x2, x3, x4, x5, x6, x7, x8, x9, x10, x11, x12, x13, x14, x15⟩ : Msg) (.slice A x13.length c)).toArray 28)).alloc (.cells #[.int .i64 (3), .int .i64 (x1), .int .i64 (x2)] 3)) (bkI (Bk.new' (by simp) rfl) rfl) (by simp) (by intro z hz; simp only [List.mem_cons, List.not_mem_nil, or_false] at hz; rcases hz with rfl | rfl | rfl <;> omega)
  simp only [mcells] at pn
  go_wp2_with fail
  refine pn.mono ?_
  rintro e w1 ⟨v1, rfl, o1, k1⟩
  have B1 := Lib.hid ((HB0.out.alloc (.cells #[.int .i64 (3), .int .i64 (x1), .int .i64 (x2)] 3)).no k1); have K1 := Lib.hid ((HK0.out.alloc (.cells #[.int .i64 (3), .int .i64 (x1), .int .i64 (x2)] 3)).trans k1)
  have O1 := Lib.hid (show OwnB w1 (W.heap.size + 1) v1 (outI [3, x1, x2]) from OwnB.mono o1 (by simp))
  have S1 := Lib.hid (show W.heap.size + 1 ≤ w1.heap.size by have := k1.size; simp at this; omega)
  obtain ⟨A1, c1, rfl, _⟩ := own_len o1
  have z7 := B1.out.cell 7
  have e0 := outI_len [3, x1, x2] (by intro z hz; simp only [List.mem_cons, List.not_mem_nil, or_false] at hz; rcases hz with rfl | rfl | rfl <;> omega)
  simp only [List.getElem?_cons_zero, List.getElem?_cons_succ, List.length_cons, List.length_nil] at z7 e0
  clear k1 o1 HB0 HK0 pn
  obtain ⟨l0, hl0⟩ : ∃ l0, l0 = outI [3, x1, x2] := ⟨_, rfl⟩
  rw [← hl0] at O1 HB e0 ⊢
  clear hl0
  have pt : Calls Tryz.prog 45 #[.string ⟨x7.toArray⟩] w1 fun e w' => ∃ v, e = .returned v ∧ OwnB w' w1.heap.size v (textS x7) ∧ Kp No w1 w' := refText_any ⟨x7.toArray⟩ w1 (by show x7.toArray.size ≤ _; rw [List.size_toArray]; omega)
  go_wp2_with fail
  refine pt.mono ?_
  rintro e w2 ⟨vt, rfl, o2, k2⟩
  have HI := Lib.hid (BI.text (m := (⟨3, x1, x2, x3, x4, x5, x6, x7, x8, x9, x10, x11, x12, x13, x14, x15⟩ : Msg)) (sv := (.slice A x13.length c)) B1.out O1.out K1.out S1.out o2 k2)
  obtain ⟨At, ct, rfl, _⟩ := own_len o2
  have et : (textS x7).length ≤ 1009 := by
    have := numS_len 8 x7.length (by omega)
    unfold textS; rw [List.length_append]; omega
  clear k2 o2 B1 O1 K1 S1 pt z7
  obtain ⟨lt, hlt⟩ : ∃ lt, lt = textS x7 := ⟨_, rfl⟩
  rw [← hlt] at HI et ⊢
  try rw [← hlt] at HB
  clear hlt
  obtain ⟨z0, z1, z2, z3, z4, z5, z6, z7, z8, z9, z10, z11, z12, z13, z14, z15⟩ := cells16 HI.out.box
  dsimp only at z0 z1 z2 z3 z4 z5 z6 z7 z8 z9 z10 z11 z12 z13 z14 z15
  have pn := refNums_any (.slice (some ⟨w2.heap.size, 0, none⟩) 1 1) [x10] (w2.alloc (.cells #[.int .i64 (x10)] 3)) (bkI (Bk.new' rfl rfl) rfl) (by simp) (by intro z hz; simp only [List.mem_cons, List.not_mem_nil, or_false] at hz; rcases hz with rfl <;> omega)
  go_wp2_with fail
  refine pn.mono ?_
  rintro e w3 ⟨u0, rfl, o0, k0⟩
  obtain ⟨D0, g0, rfl, _⟩ := own_len o0
  have HA0 := Lib.hid (own_argB o0)
  have HI := Lib.hid ((HI.out.no ((Kp.refl No _).alloc (.cells #[.int .i64 (x10)] 3))).no k0)
  have e1 := outI_len [x10] (by intro z hz; simp only [List.mem_cons, List.not_mem_nil, or_false] at hz; rcases hz with rfl <;> omega)
  simp only [List.length_cons, List.length_nil] at e1
  clear k0 o0 pn z0 z1 z2 z3 z4 z5 z6 z7 z8 z9 z10 z11 z12 z13 z14 z15
  obtain ⟨q0, hq0⟩ : ∃ q0, q0 = outI [x10] := ⟨_, rfl⟩
  rw [← hq0] at HA0 e1 HB ⊢
  clear hq0
  go_wp2_with (first | (at_builtin; have hsz := HI.out.size; refine (wpList_appV _ rfl _ _ 30 rfl (W.heap.size + 1) 5 _ 1 Tryz.underlying30 Tryz.infoByte rfl _ l0.length (u8s l0) rfl HI.out.own D0 q0.length g0 (u8s q0) rfl (by simp) HA0.out.cs.1 (u8s_one _) (by omega) (by omega) hsz ?_); intro v4 w4 p4 y4 n4; have HI := Lib.hid (HI.out.app p4 y4 n4); clear p4 y4 n4 hsz HA0; obtain ⟨E4, f4, rfl, _⟩ := own_len HI.out.own; have m4 : (l0 ++ q0).length ≤ 36 := (by rw [List.length_append]; omega); obtain ⟨l4, hl4⟩ : ∃ l4, l4 = l0 ++ q0 := ⟨_, rfl⟩; rw [← hl4] at HI m4 ⊢; rw [← hl4] at HB; clear hl4; obtain ⟨z0, z1, z2, z3, z4, z5, z6, z7, z8, z9, z10, z11, z12, z13, z14, z15⟩ := cells16 HI.out.box; dsimp only at z0 z1 z2 z3 z4 z5 z6 z7 z8 z9 z10 z11 z12 z13 z14 z15) | (at_builtin; have HA1 := Lib.hid (own_argB HI.out.txt); have hsz := HI.out.size; refine (wpList_appV _ rfl _ _ 30 rfl (W.heap.size + 1) 5 _ 1 Tryz.underlying30 Tryz.infoByte rfl _ l4.length (u8s l4) rfl HI.out.own At lt.length ct (u8s lt) rfl (by simp) HA1.out.cs.1 (u8s_one _) (by omega) (by omega) hsz ?_); intro v5 w5 p5 y5 n5; have HI := Lib.hid (HI.out.app p5 y5 n5); clear p5 y5 n5 hsz HA1 z0 z1 z2 z3 z4 z5 z6 z7 z8 z9 z10 z11 z12 z13 z14 z15; obtain ⟨E5, f5, rfl, _⟩ := own_len HI.out.own; have m5 : (l4 ++ lt).length ≤ 1045 := (by rw [List.length_append]; omega); obtain ⟨l5, hl5⟩ : ∃ l5, l5 = l4 ++ lt := ⟨_, rfl⟩; rw [← hl5] at HI m5 ⊢; rw [← hl5] at HB; clear hl5; obtain ⟨z0, z1, z2, z3, z4, z5, z6, z7, z8, z9, z10, z11, z12, z13, z14, z15⟩ := cells16 HI.out.box; dsimp only at z0 z1 z2 z3 z4 z5 z6 z7 z8 z9 z10 z11 z12 z13 z14 z15))
  have pn := refNums_any (.slice (some ⟨w5.heap.size, 0, none⟩) 2 2) [x14, x15] (w5.alloc (.cells #[.int .i64 (x14), .int .i64 (x15)] 3)) (bkI (Bk.new' rfl rfl) rfl) (by simp) (by intro z hz; simp only [List.mem_cons, List.not_mem_nil, or_false] at hz; rcases hz with rfl | rfl <;> omega)
  refine pn.mono ?_
  rintro e w6 ⟨u2, rfl, o2, k2⟩
  obtain ⟨D2, g2, rfl, _⟩ := own_len o2
  have HA2 := Lib.hid (own_argB o2)
  have HI := Lib.hid ((HI.out.no ((Kp.refl No _).alloc (.cells #[.int .i64 (x14), .int .i64 (x15)] 3))).no k2)
  have e3 := outI_len [x14, x15] (by intro z hz; simp only [List.mem_cons, List.not_mem_nil, or_false] at hz; rcases hz with rfl | rfl <;> omega)
  simp only [List.length_cons, List.length_nil] at e3
  clear k2 o2 pn z0 z1 z2 z3 z4 z5 z6 z7 z8 z9 z10 z11 z12 z13 z14 z15
  obtain ⟨q2, hq2⟩ : ∃ q2, q2 = outI [x14, x15] := ⟨_, rfl⟩
  rw [← hq2] at HA2 e3 HB ⊢
  clear hq2
  go_wp2_with (at_builtin; have hsz := HI.out.size; refine (wpList_appV _ rfl _ _ 30 rfl (W.heap.size + 1) 5 _ 1 Tryz.underlying30 Tryz.infoByte rfl _ l5.length (u8s l5) rfl HI.out.own D2 q2.length g2 (u8s q2) rfl (by simp) HA2.out.cs.1 (u8s_one _) (by omega) (by omega) hsz ?_); intro v7 w7 p7 y7 n7; have HI := Lib.hid (HI.out.app p7 y7 n7); clear p7 y7 n7 hsz HA2; obtain ⟨E7, f7, rfl, _⟩ := own_len HI.out.own; have m7 : (l5 ++ q2).length ≤ 1063 := (by rw [List.length_append]; omega); obtain ⟨l7, hl7⟩ : ∃ l7, l7 = l5 ++ q2 := ⟨_, rfl⟩; rw [← hl7] at HI m7 ⊢; rw [← hl7] at HB; clear hl7; obtain ⟨z0, z1, z2, z3, z4, z5, z6, z7, z8, z9, z10, z11, z12, z13, z14, z15⟩ := cells16 HI.out.box; dsimp only at z0 z1 z2 z3 z4 z5 z6 z7 z8 z9 z10 z11 z12 z13 z14 z15)
  go_ret
  exact ⟨_, rfl, by rw [HB.out]; exact HI.out.own.mono (by omega), HI.out.kp⟩
end Go.Proofs.YtbnpdghfbiacaaaGreat

/- The document's body by contract, by ways. No condition beyond what each theorem states. -/
namespace Go.Proofs.YtbnpdghfbiacaaaGreat
open Go Go.RowKit Go.PlainAid

set_option maxRecDepth 100000 in
set_option maxHeartbeats 4000000 in
theorem rbody_don (x1 : Int) (x2 : Int) (x3 : Int) (x4 : Int) (x5 : Int) (x6 : Int) (x7 : List UInt8) (x8 : Int) (x9 : Int) (x10 : Int) (x11 : Bool) (x12 : Int) (x13 : List Int) (x14 : Int) (x15 : Int) (A : Option Addr) (c : Nat) (W : World) (hs : ArgInts W (.slice A x13.length c) x13) (hr : Rng (⟨4, x1, x2, x3, x4, x5, x6, x7, x8, x9, x10, x11, x12, x13, x14, x15⟩ : Msg)) (hp : x7.length ≤ 1000) (_hst : x13.length ≤ 1000) :
    Calls Tryz.prog 22 #[.agg (mcells (⟨4, x1, x2, x3, x4, x5, x6, x7, x8, x9, x10, x11, x12, x13, x14, x15⟩ : Msg) (.slice A x13.length c)).toArray] W fun e w' => ∃ v, e = .returned v ∧ OwnB w' W.heap.size v (bodyS (⟨4, x1, x2, x3, x4, x5, x6, x7, x8, x9, x10, x11, x12, x13, x14, x15⟩ : Msg)) ∧ Kp No W w' := by
  have HB := Lib.hid (show bodyS (⟨4, x1, x2, x3, x4, x5, x6, x7, x8, x9, x10, x11, x12, x13, x14, x15⟩ : Msg) = (outI [4, x1, x2] ++ outI [x10, x14, x15]) by simp [bodyS, outI, nS, List.append_assoc])
  have r1 : x1 < 9223372036854775808 := hr.1 x1 (by simp)
  have r2 : x2 < 9223372036854775808 := hr.1 x2 (by simp)
  have r3 : x3 < 9223372036854775808 := hr.1 x3 (by simp)
  have r4 : x4 < 9223372036854775808 := hr.1 x4 (by simp)
  have r5 : x5 < 9223372036854775808 := hr.1 x5 (by simp)
  have r6 : x6 < 9223372036854775808 := hr.1 x6 (by simp)
  have r8 : x8 < 9223372036854775808 := hr.1 x8 (by simp)
  have r9 : x9 < 9223372036854775808 := hr.1 x9 (by simp)
  have r10 : x10 < 9223372036854775808 := hr.1 x10 (by simp)
  have r12 : x12 < 9223372036854775808 := hr.1 x12 (by simp)
  have r14 : x14 < 9223372036854775808 := hr.1 x14 (by simp)
  have r15 : x15 < 9223372036854775808 := hr.1 x15 (by simp)
  have HR := Lib.hid hr.2
  have HS := Lib.hid hs
  clear hr hs
  have HB0 := Lib.hid (show Bk (W.alloc (.cells (mcells (⟨4, x1, x2, x3, x4, x5, x6, x7, x8, x9, x10, x11, x12, x13, x14, x15⟩ : Msg) (.slice A x13.length c)).toArray 28)) W.heap.size 28 (mcells (⟨4, x1, x2, x3, x4, x5, x6, x7, x8, x9, x10, x11, x12, x13, x14, x15⟩ : Msg) (.slice A x13.length c)) from Bk.new' rfl rfl)
  have HK0 := Lib.hid ((Kp.refl No W).alloc (.cells (mcells (⟨4, x1, x2, x3, x4, x5, x6, x7, x8, x9, x10, x11, x12, x13, x14, x15⟩ : Msg) (.slice A x13.length c)).toArray 28))
  simp only [mcells] at HB0 HK0 ⊢
  go_enter Tryz.func22, Tryz.ntmps22
  have pn := refNums_any (.slice (some ⟨W.heap.size + 1, 0, none⟩) 3 3) [4, x1, x2] ((W.alloc (.cells (mcells (⟨4, x1, x2, x3, x4, x5, x6, x7, x8, x9, x10, x11, x12, x13, x14, x15⟩ : Msg) (.slice A x13.length c)).toArray 28)).alloc (.cells #[.int .i64 (4), .int .i64 (x1), .int .i64 (x2)] 3)) (bkI (Bk.new' (by simp) rfl) rfl) (by simp) (by intro z hz; simp only [List.mem_cons, List.not_mem_nil, or_false] at hz; rcases hz with rfl | rfl | rfl <;> omega)
  simp only [mcells] at pn
  go_wp2_with fail
  refine pn.mono ?_
  rintro e w1 ⟨v1, rfl, o1, k1⟩
  have B1 := Lib.hid ((HB0.out.alloc (.cells #[.int .i64 (4), .int .i64 (x1), .int .i64 (x2)] 3)).no k1); have K1 := Lib.hid ((HK0.out.alloc (.cells #[.int .i64 (4), .int .i64 (x1), .int .i64 (x2)] 3)).trans k1)
  have O1 := Lib.hid (show OwnB w1 (W.heap.size + 1) v1 (outI [4, x1, x2]) from OwnB.mono o1 (by simp))
  have S1 := Lib.hid (show W.heap.size + 1 ≤ w1.heap.size by have := k1.size; simp at this; omega)
  obtain ⟨A1, c1, rfl, _⟩ := own_len o1
  have z7 := B1.out.cell 7
  have e0 := outI_len [4, x1, x2] (by intro z hz; simp only [List.mem_cons, List.not_mem_nil, or_false] at hz; rcases hz with rfl | rfl | rfl <;> omega)
  simp only [List.getElem?_cons_zero, List.getElem?_cons_succ, List.length_cons, List.length_nil] at z7 e0
  clear k1 o1 HB0 HK0 pn
  obtain ⟨l0, hl0⟩ : ∃ l0, l0 = outI [4, x1, x2] := ⟨_, rfl⟩
  rw [← hl0] at O1 HB e0 ⊢
  clear hl0
  have pt : Calls Tryz.prog 45 #[.string ⟨x7.toArray⟩] w1 fun e w' => ∃ v, e = .returned v ∧ OwnB w' w1.heap.size v (textS x7) ∧ Kp No w1 w' := refText_any ⟨x7.toArray⟩ w1 (by show x7.toArray.size ≤ _; rw [List.size_toArray]; omega)
  go_wp2_with fail
  refine pt.mono ?_
  rintro e w2 ⟨vt, rfl, o2, k2⟩
  have HI := Lib.hid (BI.text (m := (⟨4, x1, x2, x3, x4, x5, x6, x7, x8, x9, x10, x11, x12, x13, x14, x15⟩ : Msg)) (sv := (.slice A x13.length c)) B1.out O1.out K1.out S1.out o2 k2)
  obtain ⟨At, ct, rfl, _⟩ := own_len o2
  have et : (textS x7).length ≤ 1009 := by
    have := numS_len 8 x7.length (by omega)
    unfold textS; rw [List.length_append]; omega
  clear k2 o2 B1 O1 K1 S1 pt z7
  obtain ⟨lt, hlt⟩ : ∃ lt, lt = textS x7 := ⟨_, rfl⟩
  rw [← hlt] at HI et ⊢
  try rw [← hlt] at HB
  clear hlt
  obtain ⟨z0, z1, z2, z3, z4, z5, z6, z7, z8, z9, z10, z11, z12, z13, z14, z15⟩ := cells16 HI.out.box
  dsimp only at z0 z1 z2 z3 z4 z5 z6 z7 z8 z9 z10 z11 z12 z13 z14 z15
  have pn := refNums_any (.slice (some ⟨w2.heap.size, 0, none⟩) 3 3) [x10, x14, x15] (w2.alloc (.cells #[.int .i64 (x10), .int .i64 (x14), .int .i64 (x15)] 3)) (bkI (Bk.new' rfl rfl) rfl) (by simp) (by intro z hz; simp only [List.mem_cons, List.not_mem_nil, or_false] at hz; rcases hz with rfl | rfl | rfl <;> omega)
  go_wp2_with fail
  refine pn.mono ?_
  rintro e w3 ⟨u0, rfl, o0, k0⟩
  obtain ⟨D0, g0, rfl, _⟩ := own_len o0
  have HA0 := Lib.hid (own_argB o0)
  have HI := Lib.hid ((HI.out.no ((Kp.refl No _).alloc (.cells #[.int .i64 (x10), .int .i64 (x14), .int .i64 (x15)] 3))).no k0)
  have e1 := outI_len [x10, x14, x15] (by intro z hz; simp only [List.mem_cons, List.not_mem_nil, or_false] at hz; rcases hz with rfl | rfl | rfl <;> omega)
  simp only [List.length_cons, List.length_nil] at e1
  clear k0 o0 pn z0 z1 z2 z3 z4 z5 z6 z7 z8 z9 z10 z11 z12 z13 z14 z15
  obtain ⟨q0, hq0⟩ : ∃ q0, q0 = outI [x10, x14, x15] := ⟨_, rfl⟩
  rw [← hq0] at HA0 e1 HB ⊢
  clear hq0
  go_wp2_with (at_builtin; have hsz := HI.out.size; refine (wpList_appV _ rfl _ _ 30 rfl (W.heap.size + 1) 5 _ 1 Tryz.underlying30 Tryz.infoByte rfl _ l0.length (u8s l0) rfl HI.out.own D0 q0.length g0 (u8s q0) rfl (by simp) HA0.out.cs.1 (u8s_one _) (by omega) (by omega) hsz ?_); intro v4 w4 p4 y4 n4; have HI := Lib.hid (HI.out.app p4 y4 n4); clear p4 y4 n4 hsz HA0; obtain ⟨E4, f4, rfl, _⟩ := own_len HI.out.own; have m4 : (l0 ++ q0).length ≤ 54 := (by rw [List.length_append]; omega); obtain ⟨l4, hl4⟩ : ∃ l4, l4 = l0 ++ q0 := ⟨_, rfl⟩; rw [← hl4] at HI m4 ⊢; rw [← hl4] at HB; clear hl4; obtain ⟨z0, z1, z2, z3, z4, z5, z6, z7, z8, z9, z10, z11, z12, z13, z14, z15⟩ := cells16 HI.out.box; dsimp only at z0 z1 z2 z3 z4 z5 z6 z7 z8 z9 z10 z11 z12 z13 z14 z15)
  go_ret
  exact ⟨_, rfl, by rw [HB.out]; exact HI.out.own.mono (by omega), HI.out.kp⟩
end Go.Proofs.YtbnpdghfbiacaaaGreat

/- The document's body by contract, by ways. No condition beyond what each theorem states. -/
namespace Go.Proofs.YtbnpdghfbiacaaaGreat
open Go Go.RowKit Go.PlainAid

set_option maxRecDepth 100000 in
set_option maxHeartbeats 4000000 in
theorem rbody_op (x1 : Int) (x2 : Int) (x3 : Int) (x4 : Int) (x5 : Int) (x6 : Int) (x7 : List UInt8) (x8 : Int) (x9 : Int) (x10 : Int) (x11 : Bool) (x12 : Int) (x13 : List Int) (x14 : Int) (x15 : Int) (A : Option Addr) (c : Nat) (W : World) (hs : ArgInts W (.slice A x13.length c) x13) (hr : Rng (⟨5, x1, x2, x3, x4, x5, x6, x7, x8, x9, x10, x11, x12, x13, x14, x15⟩ : Msg)) (hp : x7.length ≤ 1000) (hst : x13.length ≤ 1000) :
    Calls Tryz.prog 22 #[.agg (mcells (⟨5, x1, x2, x3, x4, x5, x6, x7, x8, x9, x10, x11, x12, x13, x14, x15⟩ : Msg) (.slice A x13.length c)).toArray] W fun e w' => ∃ v, e = .returned v ∧ OwnB w' W.heap.size v (bodyS (⟨5, x1, x2, x3, x4, x5, x6, x7, x8, x9, x10, x11, x12, x13, x14, x15⟩ : Msg)) ∧ Kp No W w' := by
  have HB := Lib.hid (show bodyS (⟨5, x1, x2, x3, x4, x5, x6, x7, x8, x9, x10, x11, x12, x13, x14, x15⟩ : Msg) = (((outI [5, x1, x2] ++ textS x7) ++ outI [x8]) ++ cS x13) by simp [bodyS, outI, nS, List.append_assoc])
  have r1 : x1 < 9223372036854775808 := hr.1 x1 (by simp)
  have r2 : x2 < 9223372036854775808 := hr.1 x2 (by simp)
  have r3 : x3 < 9223372036854775808 := hr.1 x3 (by simp)
  have r4 : x4 < 9223372036854775808 := hr.1 x4 (by simp)
  have r5 : x5 < 9223372036854775808 := hr.1 x5 (by simp)
  have r6 : x6 < 9223372036854775808 := hr.1 x6 (by simp)
  have r8 : x8 < 9223372036854775808 := hr.1 x8 (by simp)
  have r9 : x9 < 9223372036854775808 := hr.1 x9 (by simp)
  have r10 : x10 < 9223372036854775808 := hr.1 x10 (by simp)
  have r12 : x12 < 9223372036854775808 := hr.1 x12 (by simp)
  have r14 : x14 < 9223372036854775808 := hr.1 x14 (by simp)
  have r15 : x15 < 9223372036854775808 := hr.1 x15 (by simp)
  have HR := Lib.hid hr.2
  have HS := Lib.hid hs
  clear hr hs
  have HB0 := Lib.hid (show Bk (W.alloc (.cells (mcells (⟨5, x1, x2, x3, x4, x5, x6, x7, x8, x9, x10, x11, x12, x13, x14, x15⟩ : Msg) (.slice A x13.length c)).toArray 28)) W.heap.size 28 (mcells (⟨5, x1, x2, x3, x4, x5, x6, x7, x8, x9, x10, x11, x12, x13, x14, x15⟩ : Msg) (.slice A x13.length c)) from Bk.new' rfl rfl)
  have HK0 := Lib.hid ((Kp.refl No W).alloc (.cells (mcells (⟨5, x1, x2, x3, x4, x5, x6, x7, x8, x9, x10, x11, x12, x13, x14, x15⟩ : Msg) (.slice A x13.length c)).toArray 28))
  simp only [mcells] at HB0 HK0 ⊢
  go_enter Tryz.func22, Tryz.ntmps22
  have pn := refNums_any (.slice (some ⟨W.heap.size + 1, 0, none⟩) 3 3) [5, x1, x2] ((W.alloc (.cells (mcells (⟨5, x1, x2, x3, x4, x5, x6, x7, x8, x9, x10, x11, x12, x13, x14, x15⟩ : Msg) (.slice A x13.length c)).toArray 28)).alloc (.cells #[.int .i64 (5), .int .i64 (x1), .int .i64 (x2)] 3)) (bkI (Bk.new' (by simp) rfl) rfl) (by simp) (by intro z hz; simp only [List.mem_cons, List.not_mem_nil, or_false] at hz; rcases hz with rfl | rfl | rfl <;> omega)
  simp only [mcells] at pn
  go_wp2_with fail
  refine pn.mono ?_
  rintro e w1 ⟨v1, rfl, o1, k1⟩
  have B1 := Lib.hid ((HB0.out.alloc (.cells #[.int .i64 (5), .int .i64 (x1), .int .i64 (x2)] 3)).no k1); have K1 := Lib.hid ((HK0.out.alloc (.cells #[.int .i64 (5), .int .i64 (x1), .int .i64 (x2)] 3)).trans k1)
  have O1 := Lib.hid (show OwnB w1 (W.heap.size + 1) v1 (outI [5, x1, x2]) from OwnB.mono o1 (by simp))
  have S1 := Lib.hid (show W.heap.size + 1 ≤ w1.heap.size by have := k1.size; simp at this; omega)
  obtain ⟨A1, c1, rfl, _⟩ := own_len o1
  have z7 := B1.out.cell 7
  have e0 := outI_len [5, x1, x2] (by intro z hz; simp only [List.mem_cons, List.not_mem_nil, or_false] at hz; rcases hz with rfl | rfl | rfl <;> omega)
  simp only [List.getElem?_cons_zero, List.getElem?_cons_succ, List.length_cons, List.length_nil] at z7 e0
  clear k1 o1 HB0 HK0 pn
  obtain ⟨l0, hl0⟩ : ∃ l0, l0 = outI [5, x1, x2] := ⟨_, rfl⟩
  rw [← hl0] at O1 HB e0 ⊢
  clear hl0
  have pt : Calls Tryz.prog 45 #[.string ⟨x7.toArray⟩] w1 fun e w' => ∃ v, e = .returned v ∧ OwnB w' w1.heap.size v (textS x7) ∧ Kp No w1 w' := refText_any ⟨x7.toArray⟩ w1 (by show x7.toArray.size ≤ _; rw [List.size_toArray]; omega)
  go_wp2_with fail
  refine pt.mono ?_
  rintro e w2 ⟨vt, rfl, o2, k2⟩
  have HI := Lib.hid (BI.text (m := (⟨5, x1, x2, x3, x4, x5, x6, x7, x8, x9, x10, x11, x12, x13, x14, x15⟩ : Msg)) (sv := (.slice A x13.length c)) B1.out O1.out K1.out S1.out o2 k2)
  obtain ⟨At, ct, rfl, _⟩ := own_len o2
  have et : (textS x7).length ≤ 1009 := by
    have := numS_len 8 x7.length (by omega)
    unfold textS; rw [List.length_append]; omega
  clear k2 o2 B1 O1 K1 S1 pt z7
  obtain ⟨lt, hlt⟩ : ∃ lt, lt = textS x7 := ⟨_, rfl⟩
  rw [← hlt] at HI et ⊢
  try rw [← hlt] at HB
  clear hlt
  obtain ⟨z0, z1, z2, z3, z4, z5, z6, z7, z8, z9, z10, z11, z12, z13, z14, z15⟩ := cells16 HI.out.box
  dsimp only at z0 z1 z2 z3 z4 z5 z6 z7 z8 z9 z10 z11 z12 z13 z14 z15
  go_wp2_with (at_builtin; have HA0 := Lib.hid (own_argB HI.out.txt); have hsz := HI.out.size; refine (wpList_appV _ rfl _ _ 30 rfl (W.heap.size + 1) 5 _ 1 Tryz.underlying30 Tryz.infoByte rfl _ l0.length (u8s l0) rfl HI.out.own At lt.length ct (u8s lt) rfl (by simp) HA0.out.cs.1 (u8s_one _) (by omega) (by omega) hsz ?_); intro v3 w3 p3 y3 n3; have HI := Lib.hid (HI.out.app p3 y3 n3); clear p3 y3 n3 hsz HA0 z0 z1 z2 z3 z4 z5 z6 z7 z8 z9 z10 z11 z12 z13 z14 z15; obtain ⟨E3, f3, rfl, _⟩ := own_len HI.out.own; have m3 : (l0 ++ lt).length ≤ 1036 := (by rw [List.length_append]; omega); obtain ⟨l3, hl3⟩ : ∃ l3, l3 = l0 ++ lt := ⟨_, rfl⟩; rw [← hl3] at HI m3 ⊢; rw [← hl3] at HB; clear hl3; obtain ⟨z0, z1, z2, z3, z4, z5, z6, z7, z8, z9, z10, z11, z12, z13, z14, z15⟩ := cells16 HI.out.box; dsimp only at z0 z1 z2 z3 z4 z5 z6 z7 z8 z9 z10 z11 z12 z13 z14 z15)
  have pn := refNums_any (.slice (some ⟨w3.heap.size, 0, none⟩) 1 1) [x8] (w3.alloc (.cells #[.int .i64 (x8)] 3)) (bkI (Bk.new' rfl rfl) rfl) (by simp) (by intro z hz; simp only [List.mem_cons, List.not_mem_nil, or_false] at hz; rcases hz with rfl <;> omega)
  refine pn.mono ?_
  rintro e w4 ⟨u1, rfl, o1, k1⟩
  obtain ⟨D1, g1, rfl, _⟩ := own_len o1
  have HA1 := Lib.hid (own_argB o1)
  have HI := Lib.hid ((HI.out.no ((Kp.refl No _).alloc (.cells #[.int .i64 (x8)] 3))).no k1)
  have e2 := outI_len [x8] (by intro z hz; simp only [List.mem_cons, List.not_mem_nil, or_false] at hz; rcases hz with rfl <;> omega)
  simp only [List.length_cons, List.length_nil] at e2
  clear k1 o1 pn z0 z1 z2 z3 z4 z5 z6 z7 z8 z9 z10 z11 z12 z13 z14 z15
  obtain ⟨q1, hq1⟩ : ∃ q1, q1 = outI [x8] := ⟨_, rfl⟩
  rw [← hq1] at HA1 e2 HB ⊢
  clear hq1
  go_wp2_with (at_builtin; have hsz := HI.out.size; refine (wpList_appV _ rfl _ _ 30 rfl (W.heap.size + 1) 5 _ 1 Tryz.underlying30 Tryz.infoByte rfl _ l3.length (u8s l3) rfl HI.out.own D1 q1.length g1 (u8s q1) rfl (by simp) HA1.out.cs.1 (u8s_one _) (by omega) (by omega) hsz ?_); intro v5 w5 p5 y5 n5; have HI := Lib.hid (HI.out.app p5 y5 n5); clear p5 y5 n5 hsz HA1; obtain ⟨E5, f5, rfl, _⟩ := own_len HI.out.own; have m5 : (l3 ++ q1).length ≤ 1045 := (by rw [List.length_append]; omega); obtain ⟨l5, hl5⟩ : ∃ l5, l5 = l3 ++ q1 := ⟨_, rfl⟩; rw [← hl5] at HI m5 ⊢; rw [← hl5] at HB; clear hl5; obtain ⟨z0, z1, z2, z3, z4, z5, z6, z7, z8, z9, z10, z11, z12, z13, z14, z15⟩ := cells16 HI.out.box; dsimp only at z0 z1 z2 z3 z4 z5 z6 z7 z8 z9 z10 z11 z12 z13 z14 z15)
  have pc := refCounters_any _ x13 _ (HS.out.no HI.out.kp) hst HR.out
  refine pc.mono ?_
  rintro e w6 ⟨u2, rfl, o2, k2⟩
  obtain ⟨D2, g2, rfl, _⟩ := own_len o2
  have HA2 := Lib.hid (own_argB o2)
  have HI := Lib.hid (HI.out.no k2)
  have e3 : (cS x13).length ≤ 9009 := by
    have h1 := outI_len x13 HR.out
    have h2 := numS_len 8 x13.length (by omega)
    rw [cS_out, List.length_append]; omega
  clear k2 o2 pc z0 z1 z2 z3 z4 z5 z6 z7 z8 z9 z10 z11 z12 z13 z14 z15
  obtain ⟨q2, hq2⟩ : ∃ q2, q2 = cS x13 := ⟨_, rfl⟩
  rw [← hq2] at HA2 e3 HB ⊢
  clear hq2
  go_wp2_with (at_builtin; have hsz := HI.out.size; refine (wpList_appV _ rfl _ _ 30 rfl (W.heap.size + 1) 5 _ 1 Tryz.underlying30 Tryz.infoByte rfl _ l5.length (u8s l5) rfl HI.out.own D2 q2.length g2 (u8s q2) rfl (by simp) HA2.out.cs.1 (u8s_one _) (by omega) (by omega) hsz ?_); intro v7 w7 p7 y7 n7; have HI := Lib.hid (HI.out.app p7 y7 n7); clear p7 y7 n7 hsz HA2; obtain ⟨E7, f7, rfl, _⟩ := own_len HI.out.own; have m7 : (l5 ++ q2).length ≤ 10054 := (by rw [List.length_append]; omega); obtain ⟨l7, hl7⟩ : ∃ l7, l7 = l5 ++ q2 := ⟨_, rfl⟩; rw [← hl7] at HI m7 ⊢; rw [← hl7] at HB; clear hl7; obtain ⟨z0, z1, z2, z3, z4, z5, z6, z7, z8, z9, z10, z11, z12, z13, z14, z15⟩ := cells16 HI.out.box; dsimp only at z0 z1 z2 z3 z4 z5 z6 z7 z8 z9 z10 z11 z12 z13 z14 z15)
  go_ret
  exact ⟨_, rfl, by rw [HB.out]; exact HI.out.own.mono (by omega), HI.out.kp⟩
end Go.Proofs.YtbnpdghfbiacaaaGreat

/- The document's body by contract, by ways. No condition beyond what each theorem states. -/
namespace Go.Proofs.YtbnpdghfbiacaaaGreat
open Go Go.RowKit Go.PlainAid

set_option maxRecDepth 100000 in
set_option maxHeartbeats 4000000 in
theorem rbody_oth (x0 : Int) (x1 : Int) (x2 : Int) (x3 : Int) (x4 : Int) (x5 : Int) (x6 : Int) (x7 : List UInt8) (x8 : Int) (x9 : Int) (x10 : Int) (x11 : Bool) (x12 : Int) (x13 : List Int) (x14 : Int) (x15 : Int) (h0 : x0 ≠ 1) (h1 : x0 ≠ 2) (h2 : x0 ≠ 3) (h3 : x0 ≠ 4) (h4 : x0 ≠ 5) (A : Option Addr) (c : Nat) (W : World) (hs : ArgInts W (.slice A x13.length c) x13) (hr : Rng (⟨x0, x1, x2, x3, x4, x5, x6, x7, x8, x9, x10, x11, x12, x13, x14, x15⟩ : Msg)) (hp : x7.length ≤ 1000) (_hst : x13.length ≤ 1000) :
    Calls Tryz.prog 22 #[.agg (mcells (⟨x0, x1, x2, x3, x4, x5, x6, x7, x8, x9, x10, x11, x12, x13, x14, x15⟩ : Msg) (.slice A x13.length c)).toArray] W fun e w' => ∃ v, e = .returned v ∧ OwnB w' W.heap.size v (bodyS (⟨x0, x1, x2, x3, x4, x5, x6, x7, x8, x9, x10, x11, x12, x13, x14, x15⟩ : Msg)) ∧ Kp No W w' := by
  have d0 : (x0 == 1) = false := by rw [beq_eq_false_iff_ne]; exact h0
  have d1 : (x0 == 2) = false := by rw [beq_eq_false_iff_ne]; exact h1
  have d2 : (x0 == 3) = false := by rw [beq_eq_false_iff_ne]; exact h2
  have d3 : (x0 == 4) = false := by rw [beq_eq_false_iff_ne]; exact h3
  have d4 : (x0 == 5) = false := by rw [beq_eq_false_iff_ne]; exact h4
  have HB := Lib.hid (show bodyS (⟨x0, x1, x2, x3, x4, x5, x6, x7, x8, x9, x10, x11, x12, x13, x14, x15⟩ : Msg) = outI [x0, x1, x2] by simp [bodyS, outI, nS, h0, h1, h2, h3, h4])
  clear h0 h1 h2 h3 h4
  have r0 : x0 < 9223372036854775808 := hr.1 x0 (by simp)
  have r1 : x1 < 9223372036854775808 := hr.1 x1 (by simp)
  have r2 : x2 < 9223372036854775808 := hr.1 x2 (by simp)
  have r3 : x3 < 9223372036854775808 := hr.1 x3 (by simp)
  have r4 : x4 < 9223372036854775808 := hr.1 x4 (by simp)
  have r5 : x5 < 9223372036854775808 := hr.1 x5 (by simp)
  have r6 : x6 < 9223372036854775808 := hr.1 x6 (by simp)
  have r8 : x8 < 9223372036854775808 := hr.1 x8 (by simp)
  have r9 : x9 < 9223372036854775808 := hr.1 x9 (by simp)
  have r10 : x10 < 9223372036854775808 := hr.1 x10 (by simp)
  have r12 : x12 < 9223372036854775808 := hr.1 x12 (by simp)
  have r14 : x14 < 9223372036854775808 := hr.1 x14 (by simp)
  have r15 : x15 < 9223372036854775808 := hr.1 x15 (by simp)
  have HR := Lib.hid hr.2
  have HS := Lib.hid hs
  clear hr hs
  have HB0 := Lib.hid (show Bk (W.alloc (.cells (mcells (⟨x0, x1, x2, x3, x4, x5, x6, x7, x8, x9, x10, x11, x12, x13, x14, x15⟩ : Msg) (.slice A x13.length c)).toArray 28)) W.heap.size 28 (mcells (⟨x0, x1, x2, x3, x4, x5, x6, x7, x8, x9, x10, x11, x12, x13, x14, x15⟩ : Msg) (.slice A x13.length c)) from Bk.new' rfl rfl)
  have HK0 := Lib.hid ((Kp.refl No W).alloc (.cells (mcells (⟨x0, x1, x2, x3, x4, x5, x6, x7, x8, x9, x10, x11, x12, x13, x14, x15⟩ : Msg) (.slice A x13.length c)).toArray 28))
  simp only [mcells] at HB0 HK0 ⊢
  go_enter Tryz.func22, Tryz.ntmps22
  have pn := refNums_any (.slice (some ⟨W.heap.size + 1, 0, none⟩) 3 3) [x0, x1, x2] ((W.alloc (.cells (mcells (⟨x0, x1, x2, x3, x4, x5, x6, x7, x8, x9, x10, x11, x12, x13, x14, x15⟩ : Msg) (.slice A x13.length c)).toArray 28)).alloc (.cells #[.int .i64 (x0), .int .i64 (x1), .int .i64 (x2)] 3)) (bkI (Bk.new' (by simp) rfl) rfl) (by simp) (by intro z hz; simp only [List.mem_cons, List.not_mem_nil, or_false] at hz; rcases hz with rfl | rfl | rfl <;> omega)
  simp only [mcells] at pn
  go_wp2_with fail
  refine pn.mono ?_
  rintro e w1 ⟨v1, rfl, o1, k1⟩
  have B1 := Lib.hid ((HB0.out.alloc (.cells #[.int .i64 (x0), .int .i64 (x1), .int .i64 (x2)] 3)).no k1); have K1 := Lib.hid ((HK0.out.alloc (.cells #[.int .i64 (x0), .int .i64 (x1), .int .i64 (x2)] 3)).trans k1)
  have O1 := Lib.hid (show OwnB w1 (W.heap.size + 1) v1 (outI [x0, x1, x2]) from OwnB.mono o1 (by simp))
  have S1 := Lib.hid (show W.heap.size + 1 ≤ w1.heap.size by have := k1.size; simp at this; omega)
  obtain ⟨A1, c1, rfl, _⟩ := own_len o1
  have z7 := B1.out.cell 7
  have e0 := outI_len [x0, x1, x2] (by intro z hz; simp only [List.mem_cons, List.not_mem_nil, or_false] at hz; rcases hz with rfl | rfl | rfl <;> omega)
  simp only [List.getElem?_cons_zero, List.getElem?_cons_succ, List.length_cons, List.length_nil] at z7 e0
  clear k1 o1 HB0 HK0 pn
  obtain ⟨l0, hl0⟩ : ∃ l0, l0 = outI [x0, x1, x2] := ⟨_, rfl⟩
  rw [← hl0] at O1 HB e0 ⊢
  clear hl0
  have pt : Calls Tryz.prog 45 #[.string ⟨x7.toArray⟩] w1 fun e w' => ∃ v, e = .returned v ∧ OwnB w' w1.heap.size v (textS x7) ∧ Kp No w1 w' := refText_any ⟨x7.toArray⟩ w1 (by show x7.toArray.size ≤ _; rw [List.size_toArray]; omega)
  go_wp2_with fail
  refine pt.mono ?_
  rintro e w2 ⟨vt, rfl, o2, k2⟩
  have HI := Lib.hid (BI.text (m := (⟨x0, x1, x2, x3, x4, x5, x6, x7, x8, x9, x10, x11, x12, x13, x14, x15⟩ : Msg)) (sv := (.slice A x13.length c)) B1.out O1.out K1.out S1.out o2 k2)
  obtain ⟨At, ct, rfl, _⟩ := own_len o2
  have et : (textS x7).length ≤ 1009 := by
    have := numS_len 8 x7.length (by omega)
    unfold textS; rw [List.length_append]; omega
  clear k2 o2 B1 O1 K1 S1 pt z7
  obtain ⟨lt, hlt⟩ : ∃ lt, lt = textS x7 := ⟨_, rfl⟩
  rw [← hlt] at HI et ⊢
  try rw [← hlt] at HB
  clear hlt
  obtain ⟨z0, z1, z2, z3, z4, z5, z6, z7, z8, z9, z10, z11, z12, z13, z14, z15⟩ := cells16 HI.out.box
  dsimp only at z0 z1 z2 z3 z4 z5 z6 z7 z8 z9 z10 z11 z12 z13 z14 z15
  go_wp2
  go_ret
  exact ⟨_, rfl, by rw [HB.out]; exact HI.out.own.mono (by omega), HI.out.kp⟩
end Go.Proofs.YtbnpdghfbiacaaaGreat

/- The document's body by contract. No condition beyond what each theorem states. -/
namespace Go.Proofs.YtbnpdghfbiacaaaGreat
open Go Go.RowKit Go.PlainAid

set_option maxRecDepth 100000 in
theorem rbody_any (m : Msg) (A : Option Addr) (c : Nat) (W : World) (hs : ArgInts W (.slice A m.stamp.length c) m.stamp) (hr : Rng m) (hp : m.path.length ≤ 1000) (hst : m.stamp.length ≤ 1000) :
    Calls Tryz.prog 22 #[.agg (mcells m (.slice A m.stamp.length c)).toArray] W fun e w' => ∃ v, e = .returned v ∧ OwnB w' W.heap.size v (bodyS m) ∧ Kp No W w' := by
  obtain ⟨x0, x1, x2, x3, x4, x5, x6, x7, x8, x9, x10, x11, x12, x13, x14, x15⟩ := m
  simp only at hs hp hst
  by_cases k1 : x0 = 1
  · subst k1
    by_cases v1 : x6 = 1
    · subst v1; exact rbody_ask1 x1 x2 x3 x4 x5 x7 x8 x9 x10 x11 x12 x13 x14 x15 A c W hs hr hp hst
    by_cases v2 : x6 = 2
    · subst v2
      cases x11
      · exact rbody_ask2b x1 x2 x3 x4 x5 x7 x8 x9 x10 x12 x13 x14 x15 A c W hs hr hp hst
      · exact rbody_ask2a x1 x2 x3 x4 x5 x7 x8 x9 x10 x12 x13 x14 x15 A c W hs hr hp hst
    by_cases v3 : x6 = 3
    · subst v3; exact rbody_ask3 x1 x2 x3 x4 x5 x7 x8 x9 x10 x11 x12 x13 x14 x15 A c W hs hr hp hst
    · exact rbody_ask4 x1 x2 x3 x4 x5 x6 x7 x8 x9 x10 x11 x12 x13 x14 x15 v1 v2 v3 A c W hs hr hp hst
  by_cases k2 : x0 = 2
  · subst k2
    by_cases c0 : x12 = 0
    · subst c0; exact rbody_rep0 x1 x2 x3 x4 x5 x6 x7 x8 x9 x10 x11 x13 x14 x15 A c W hs hr hp hst
    · exact rbody_rep1 x1 x2 x3 x4 x5 x6 x7 x8 x9 x10 x11 x12 x13 x14 x15 c0 A c W hs hr hp hst
  by_cases k3 : x0 = 3
  · subst k3; exact rbody_rec x1 x2 x3 x4 x5 x6 x7 x8 x9 x10 x11 x12 x13 x14 x15 A c W hs hr hp hst
  by_cases k4 : x0 = 4
  · subst k4; exact rbody_don x1 x2 x3 x4 x5 x6 x7 x8 x9 x10 x11 x12 x13 x14 x15 A c W hs hr hp hst
  by_cases k5 : x0 = 5
  · subst k5; exact rbody_op x1 x2 x3 x4 x5 x6 x7 x8 x9 x10 x11 x12 x13 x14 x15 A c W hs hr hp hst
  · exact rbody_oth x0 x1 x2 x3 x4 x5 x6 x7 x8 x9 x10 x11 x12 x13 x14 x15 k1 k2 k3 k4 k5 A c W hs hr hp hst
end Go.Proofs.YtbnpdghfbiacaaaGreat
