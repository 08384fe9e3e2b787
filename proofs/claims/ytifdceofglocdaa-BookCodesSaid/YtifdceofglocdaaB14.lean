/- Several texts of this claim in one. No condition beyond what each theorem states. -/
import Derived.Test.YtifdceofglocdaaB13
/- A record's bytes: book.Encode by contract (kind 1). No condition beyond what each theorem states. -/
namespace Go.Proofs.Ytifdceofglocdaa
open Go Go.RowKit Go.PlainAid

set_option maxRecDepth 100000 in
set_option maxHeartbeats 8000000 in
theorem encode_1 (r : Rcd) (gv rv : Value) (W : World) (hg : SlI W gv r.grant.stamp) (hs : SlI W rv r.stamp) (hm : mayR r) (hk : r.kind = 1) :
    Calls Try.prog 23 #[.agg (rC r gv rv).toArray] W (EncR W r) := by
  have HE := Lib.hid (enc_some hm)
  have HM := Lib.hid hm
  obtain ⟨kind, ⟨gid, hol, path, mode, st, term⟩, id, stamp, next, boots, longest⟩ := r
  obtain rfl : kind = 1 := hk
  obtain ⟨A, c, rfl, _⟩ : ∃ A c, gv = .slice A st.length c ∧ st.length ≤ c := by obtain ⟨A, c, e, hc, _⟩ := hg; exact ⟨A, c, e, hc⟩
  obtain ⟨A2, c2, rfl, _⟩ : ∃ A c, rv = .slice A stamp.length c ∧ stamp.length ≤ c := by obtain ⟨A, c, e, hc, _⟩ := hs; exact ⟨A, c, e, hc⟩
  have hm := (mayR_1 (r := ⟨1, ⟨gid, hol, path, mode, st, term⟩, id, stamp, next, boots, longest⟩) rfl).1 hm
  replace hg : SlI W (.slice A st.length c) st := hg
  replace hs : SlI W (.slice A2 stamp.length c2) stamp := hs
  obtain ⟨w1, hw1⟩ : ∃ w1, w1 = W.alloc (.cells #[.int .i64 1, .int .i64 gid, .int .i64 hol, .string ⟨path.toArray⟩, .int .i64 mode, .slice A st.length c, .int .i64 term, .int .i64 id, .slice A2 stamp.length c2, .int .i64 next, .int .i64 boots, .int .i64 longest] 32) := ⟨_, rfl⟩
  have HK1 := Lib.hid (show Kp No W w1 by rw [hw1]; exact (Kp.refl No W).alloc _)
  have HB1 := Lib.hid (show Bk w1 W.heap.size 32 [.int .i64 1, .int .i64 gid, .int .i64 hol, .string ⟨path.toArray⟩, .int .i64 mode, .slice A st.length c, .int .i64 term, .int .i64 id, .slice A2 stamp.length c2, .int .i64 next, .int .i64 boots, .int .i64 longest] by rw [hw1]; exact Bk.new' rfl rfl)
  obtain ⟨lgp, lgs, lss⟩ : path.length ≤ 1000 ∧ st.length ≤ 4 ∧ stamp.length ≤ 4 := by
    obtain ⟨_, _, hgr, _, hst⟩ := hm
    injection hgr with e1 e2 e3 e4 e5 e6
    subst e3 e5
    exact ⟨Nat.zero_le _, Nat.zero_le _, by have hst : stamp = [] := hst; rw [hst]; exact Nat.zero_le _⟩
  have pm := mayRec_any ⟨1, ⟨gid, hol, path, mode, st, term⟩, id, stamp, next, boots, longest⟩ (.slice A st.length c) (.slice A2 stamp.length c2) w1 (hg.arg.no HK1.out) (hs.arg.no HK1.out) ⟨Nat.le_trans lgp (by unfold maxLen; omega), Nat.le_trans lgs (by unfold maxLen; omega)⟩ (Nat.le_trans lss (by unfold maxLen; omega))
  rw [decide_eq_true HM.out] at pm
  simp only [rC] at pm ⊢
  have HG := Lib.hid hg; have HS := Lib.hid hs; have HMM := Lib.hid hm; have HW := Lib.hid hw1
  clear hg hs hm hw1
  obtain ⟨Q, hQ⟩ : ∃ Q : Ending → World → Prop, Q = EncR W ⟨1, ⟨gid, hol, path, mode, st, term⟩, id, stamp, next, boots, longest⟩ := ⟨_, rfl⟩
  rw [← hQ]
  have HQ := Lib.hid hQ; clear hQ
  have z0 : w1.cell? ⟨W.heap.size, 0, none⟩ = some (.int .i64 1) := HB1.out.cell 0; have z1 : w1.cell? ⟨W.heap.size, 1, none⟩ = some (.int .i64 gid) := HB1.out.cell 1; have z2 : w1.cell? ⟨W.heap.size, 2, none⟩ = some (.int .i64 hol) := HB1.out.cell 2; have z3 : w1.cell? ⟨W.heap.size, 3, none⟩ = some (.string ⟨path.toArray⟩) := HB1.out.cell 3; have z4 : w1.cell? ⟨W.heap.size, 4, none⟩ = some (.int .i64 mode) := HB1.out.cell 4; have z5 : w1.cell? ⟨W.heap.size, 5, none⟩ = some (.slice A st.length c) := HB1.out.cell 5; have z6 : w1.cell? ⟨W.heap.size, 6, none⟩ = some (.int .i64 term) := HB1.out.cell 6; have z7 : w1.cell? ⟨W.heap.size, 7, none⟩ = some (.int .i64 id) := HB1.out.cell 7; have z8 : w1.cell? ⟨W.heap.size, 8, none⟩ = some (.slice A2 stamp.length c2) := HB1.out.cell 8; have z9 : w1.cell? ⟨W.heap.size, 9, none⟩ = some (.int .i64 next) := HB1.out.cell 9; have z10 : w1.cell? ⟨W.heap.size, 10, none⟩ = some (.int .i64 boots) := HB1.out.cell 10; have z11 : w1.cell? ⟨W.heap.size, 11, none⟩ = some (.int .i64 longest) := HB1.out.cell 11
  go_enter Try.func23, Try.ntmps23
  go_upto_region 1 with (fail)
  rw [← HW.out]
  clear HW
  go_wp2_with fail
  refine pm.mono ?_
  rintro e w2 ⟨rfl, k2⟩
  have HK2 := Lib.hid (HK1.out.trans k2); have HB2 := Lib.hid (HB1.out.no k2)
  clear k2 pm z0 z1 z2 z3 z4 z5 z6 z7 z8 z9 z10 z11
  obtain ⟨w3, hw3⟩ : ∃ w3, w3 = w2.alloc (.cells #[.slice none 0 0] 78) := ⟨_, rfl⟩
  have HN3 := Lib.hid (show Kp No w2 w3 by rw [hw3]; exact (Kp.refl No w2).alloc _)
  have HR3 := Lib.hid (HB2.out.no HN3.out); have HK3 := Lib.hid (HK2.out.trans HN3.out)
  have HWR := Lib.hid (show WrB w3 w2.heap.size W.heap.size (.slice none 0 0) [] by rw [hw3]; exact ⟨Bk.new' rfl rfl, OwnB.nil _ _⟩)
  have HW3 := Lib.hid hw3
  clear hw3
  go_upto_region 4 with (fail)
  rw [← HW3.out]
  clear HW3
  have A3 := Lib.hid (WrAft.start HWR.out)
  have z0 : w3.cell? ⟨W.heap.size, 0, none⟩ = some (.int .i64 1) := HR3.out.cell 0
  have hB3 : W.heap.size ≤ w3.heap.size := HK3.out.size
  go_wp2_with fail
  refine (ws_num hB3 A3.out (by simp) (by omega)).mono ?_
  rintro e w4 ⟨rfl, h4⟩
  have HR4 := Lib.hid (WrAft.bk HWR.out h4 HR3.out (by decide)); have HK4 := Lib.hid (WrAft.far_ HWR.out (by have := HK2.out.size; omega) (Nat.le_refl _) HK3.out h4)
  rw [List.nil_append] at h4
  obtain ⟨v4, hw4, _, _⟩ := h4
  have HW4 := Lib.hid hw4
  clear hw4 z0 hB3 A3
  have z1 : w4.cell? ⟨W.heap.size, 1, none⟩ = some (.int .i64 gid) := HR4.out.cell 1
  have z2 : w4.cell? ⟨W.heap.size, 2, none⟩ = some (.int .i64 hol) := HR4.out.cell 2
  have z3 : w4.cell? ⟨W.heap.size, 3, none⟩ = some (.string ⟨path.toArray⟩) := HR4.out.cell 3
  have z4 : w4.cell? ⟨W.heap.size, 4, none⟩ = some (.int .i64 mode) := HR4.out.cell 4
  have z5 : w4.cell? ⟨W.heap.size, 5, none⟩ = some (.slice A st.length c) := HR4.out.cell 5
  have z6 : w4.cell? ⟨W.heap.size, 6, none⟩ = some (.int .i64 term) := HR4.out.cell 6
  obtain ⟨w5, hw5⟩ : ∃ w5, w5 = w4.alloc (.cells #[.int .i64 gid, .int .i64 hol, .string ⟨path.toArray⟩, .int .i64 mode, .slice A st.length c, .int .i64 term] 30) := ⟨_, rfl⟩
  have HN5 := Lib.hid (show Kp No w4 w5 by rw [hw5]; exact (Kp.refl No w4).alloc _)
  have HL5 := Lib.hid (show Bk w5 w4.heap.size 30 [.int .i64 gid, .int .i64 hol, .string ⟨path.toArray⟩, .int .i64 mode, .slice A st.length c, .int .i64 term] by rw [hw5]; exact Bk.new' rfl rfl)
  have HR5 := Lib.hid (HR4.out.no HN5.out); have HK5 := Lib.hid (HK4.out.trans HN5.out)
  have HW5 := Lib.hid (show WrB w5 w2.heap.size W.heap.size v4 (nS 1) from ⟨HW4.out.1.no HN5.out, HW4.out.2.no HN5.out⟩)
  have HX5 := Lib.hid hw5
  clear hw5
  go_upto_region 6 with (fail)
  rw [← HX5.out]
  clear HX5 z1 z2 z3 z4 z5 z6
  have hB5 : W.heap.size ≤ w5.heap.size := HK5.out.size
  have A5 := Lib.hid (WrAft.start HW5.out)
  have l5 : (nS 1).length ≤ 9 := numS_len 8 _ (by omega)
  have z0 : w5.cell? ⟨W.heap.size, 0, none⟩ = some (.int .i64 1) := HR5.out.cell 0
  obtain ⟨⟨_, h1, _, h2⟩, _⟩ := HMM.out
  have R_next : next < 9223372036854775808 := by omega
  have R_boots : boots < 9223372036854775808 := by omega
  clear h1 h2
  have hr5 := WrAft.bk HW5.out A5.out HR5.out (by decide)
  have y5_9 : w5.cell? ⟨W.heap.size, 9, none⟩ = some (.int .i64 next) := hr5.cell 9
  have y5_10 : w5.cell? ⟨W.heap.size, 10, none⟩ = some (.int .i64 boots) := hr5.cell 10
  have hq5 : ∀ x ∈ ([next, boots] : List Int), x < 9223372036854775808 := (by intro x hx; simp only [List.mem_cons, List.not_mem_nil, or_false] at hx; rcases hx with e | e; (rw [e]; exact R_next); (rw [e]; exact R_boots))
  have ka5 : Kp No w5 (w5.alloc (.cells #[.int .i64 next, .int .i64 boots] 3)) := (Kp.refl No _).alloc _
  have sl5 : SlI (w5.alloc (.cells #[.int .i64 next, .int .i64 boots] 3)) (.slice (some ⟨w5.heap.size, 0, none⟩) 2 2) [next, boots] := sli_new (Bk.new' rfl rfl) rfl (Nat.le_refl _)
  have l6 : (outI [next, boots]).length ≤ 18 := outI_len _ hq5
  go_wp2_with fail
  refine (ws_lay hB5 (A5.out.no ka5) (by omega) sl5 (by simp) hq5).mono ?_
  rintro e w6 ⟨rfl, h6⟩
  have A6 := Lib.hid h6
  clear h6
  clear sl5 ka5
  go_wp2_with fail
  refine (ws_bytes hB5 A6.out (by simp only [List.length_append]; omega)).mono ?_
  rintro e wz ⟨vz, rfl, oz, kz⟩
  have HF := Lib.hid (show Q (.returned (.tuple #[vz, .int .i64 0])) wz by
    rw [HQ.out]
    have kf := WrAft.far_ HW5.out (by have := HK2.out.size; omega) (Nat.le_refl _) HK5.out A6.out
    refine ⟨.inr ⟨vz, _, HE.out, rfl, ?_⟩, kf.trans kz⟩
    rw [show bodyR ⟨1, ⟨gid, hol, path, mode, st, term⟩, id, stamp, next, boots, longest⟩ = nS 1 ++ outI [next, boots] by
      simp [bodyR, outI_2, nS]]
    exact own_mono oz kf.size)
  clear oz kz
  go_wp2
  exact HF.out
end Go.Proofs.Ytifdceofglocdaa

/- A record's bytes: book.Encode by contract (kind 2). No condition beyond what each theorem states. -/
namespace Go.Proofs.Ytifdceofglocdaa
open Go Go.RowKit Go.PlainAid

set_option maxRecDepth 100000 in
set_option maxHeartbeats 8000000 in
theorem encode_2 (r : Rcd) (gv rv : Value) (W : World) (hg : SlI W gv r.grant.stamp) (hs : SlI W rv r.stamp) (hm : mayR r) (hk : r.kind = 2) :
    Calls Try.prog 23 #[.agg (rC r gv rv).toArray] W (EncR W r) := by
  have HE := Lib.hid (enc_some hm)
  have HM := Lib.hid hm
  obtain ⟨kind, ⟨gid, hol, path, mode, st, term⟩, id, stamp, next, boots, longest⟩ := r
  obtain rfl : kind = 2 := hk
  obtain ⟨A, c, rfl, _⟩ : ∃ A c, gv = .slice A st.length c ∧ st.length ≤ c := by obtain ⟨A, c, e, hc, _⟩ := hg; exact ⟨A, c, e, hc⟩
  obtain ⟨A2, c2, rfl, _⟩ : ∃ A c, rv = .slice A stamp.length c ∧ stamp.length ≤ c := by obtain ⟨A, c, e, hc, _⟩ := hs; exact ⟨A, c, e, hc⟩
  have hm := (mayR_2 (r := ⟨2, ⟨gid, hol, path, mode, st, term⟩, id, stamp, next, boots, longest⟩) rfl).1 hm
  replace hg : SlI W (.slice A st.length c) st := hg
  replace hs : SlI W (.slice A2 stamp.length c2) stamp := hs
  obtain ⟨w1, hw1⟩ : ∃ w1, w1 = W.alloc (.cells #[.int .i64 2, .int .i64 gid, .int .i64 hol, .string ⟨path.toArray⟩, .int .i64 mode, .slice A st.length c, .int .i64 term, .int .i64 id, .slice A2 stamp.length c2, .int .i64 next, .int .i64 boots, .int .i64 longest] 32) := ⟨_, rfl⟩
  have HK1 := Lib.hid (show Kp No W w1 by rw [hw1]; exact (Kp.refl No W).alloc _)
  have HB1 := Lib.hid (show Bk w1 W.heap.size 32 [.int .i64 2, .int .i64 gid, .int .i64 hol, .string ⟨path.toArray⟩, .int .i64 mode, .slice A st.length c, .int .i64 term, .int .i64 id, .slice A2 stamp.length c2, .int .i64 next, .int .i64 boots, .int .i64 longest] by rw [hw1]; exact Bk.new' rfl rfl)
  obtain ⟨lgp, lgs, lss⟩ : path.length ≤ 1000 ∧ st.length ≤ 4 ∧ stamp.length ≤ 4 := by
    obtain ⟨_, _, _, hgr, _, hst⟩ := hm
    injection hgr with e1 e2 e3 e4 e5 e6
    subst e3 e5
    exact ⟨Nat.zero_le _, Nat.zero_le _, by have hst : stamp = [] := hst; rw [hst]; exact Nat.zero_le _⟩
  have pm := mayRec_any ⟨2, ⟨gid, hol, path, mode, st, term⟩, id, stamp, next, boots, longest⟩ (.slice A st.length c) (.slice A2 stamp.length c2) w1 (hg.arg.no HK1.out) (hs.arg.no HK1.out) ⟨Nat.le_trans lgp (by unfold maxLen; omega), Nat.le_trans lgs (by unfold maxLen; omega)⟩ (Nat.le_trans lss (by unfold maxLen; omega))
  rw [decide_eq_true HM.out] at pm
  simp only [rC] at pm ⊢
  have HG := Lib.hid hg; have HS := Lib.hid hs; have HMM := Lib.hid hm; have HW := Lib.hid hw1
  clear hg hs hm hw1
  obtain ⟨Q, hQ⟩ : ∃ Q : Ending → World → Prop, Q = EncR W ⟨2, ⟨gid, hol, path, mode, st, term⟩, id, stamp, next, boots, longest⟩ := ⟨_, rfl⟩
  rw [← hQ]
  have HQ := Lib.hid hQ; clear hQ
  have z0 : w1.cell? ⟨W.heap.size, 0, none⟩ = some (.int .i64 2) := HB1.out.cell 0; have z1 : w1.cell? ⟨W.heap.size, 1, none⟩ = some (.int .i64 gid) := HB1.out.cell 1; have z2 : w1.cell? ⟨W.heap.size, 2, none⟩ = some (.int .i64 hol) := HB1.out.cell 2; have z3 : w1.cell? ⟨W.heap.size, 3, none⟩ = some (.string ⟨path.toArray⟩) := HB1.out.cell 3; have z4 : w1.cell? ⟨W.heap.size, 4, none⟩ = some (.int .i64 mode) := HB1.out.cell 4; have z5 : w1.cell? ⟨W.heap.size, 5, none⟩ = some (.slice A st.length c) := HB1.out.cell 5; have z6 : w1.cell? ⟨W.heap.size, 6, none⟩ = some (.int .i64 term) := HB1.out.cell 6; have z7 : w1.cell? ⟨W.heap.size, 7, none⟩ = some (.int .i64 id) := HB1.out.cell 7; have z8 : w1.cell? ⟨W.heap.size, 8, none⟩ = some (.slice A2 stamp.length c2) := HB1.out.cell 8; have z9 : w1.cell? ⟨W.heap.size, 9, none⟩ = some (.int .i64 next) := HB1.out.cell 9; have z10 : w1.cell? ⟨W.heap.size, 10, none⟩ = some (.int .i64 boots) := HB1.out.cell 10; have z11 : w1.cell? ⟨W.heap.size, 11, none⟩ = some (.int .i64 longest) := HB1.out.cell 11
  go_enter Try.func23, Try.ntmps23
  go_upto_region 1 with (fail)
  rw [← HW.out]
  clear HW
  go_wp2_with fail
  refine pm.mono ?_
  rintro e w2 ⟨rfl, k2⟩
  have HK2 := Lib.hid (HK1.out.trans k2); have HB2 := Lib.hid (HB1.out.no k2)
  clear k2 pm z0 z1 z2 z3 z4 z5 z6 z7 z8 z9 z10 z11
  obtain ⟨w3, hw3⟩ : ∃ w3, w3 = w2.alloc (.cells #[.slice none 0 0] 78) := ⟨_, rfl⟩
  have HN3 := Lib.hid (show Kp No w2 w3 by rw [hw3]; exact (Kp.refl No w2).alloc _)
  have HR3 := Lib.hid (HB2.out.no HN3.out); have HK3 := Lib.hid (HK2.out.trans HN3.out)
  have HWR := Lib.hid (show WrB w3 w2.heap.size W.heap.size (.slice none 0 0) [] by rw [hw3]; exact ⟨Bk.new' rfl rfl, OwnB.nil _ _⟩)
  have HW3 := Lib.hid hw3
  clear hw3
  go_upto_region 4 with (fail)
  rw [← HW3.out]
  clear HW3
  have A3 := Lib.hid (WrAft.start HWR.out)
  have z0 : w3.cell? ⟨W.heap.size, 0, none⟩ = some (.int .i64 2) := HR3.out.cell 0
  have hB3 : W.heap.size ≤ w3.heap.size := HK3.out.size
  go_wp2_with fail
  refine (ws_num hB3 A3.out (by simp) (by omega)).mono ?_
  rintro e w4 ⟨rfl, h4⟩
  have HR4 := Lib.hid (WrAft.bk HWR.out h4 HR3.out (by decide)); have HK4 := Lib.hid (WrAft.far_ HWR.out (by have := HK2.out.size; omega) (Nat.le_refl _) HK3.out h4)
  rw [List.nil_append] at h4
  obtain ⟨v4, hw4, _, _⟩ := h4
  have HW4 := Lib.hid hw4
  clear hw4 z0 hB3 A3
  have z1 : w4.cell? ⟨W.heap.size, 1, none⟩ = some (.int .i64 gid) := HR4.out.cell 1
  have z2 : w4.cell? ⟨W.heap.size, 2, none⟩ = some (.int .i64 hol) := HR4.out.cell 2
  have z3 : w4.cell? ⟨W.heap.size, 3, none⟩ = some (.string ⟨path.toArray⟩) := HR4.out.cell 3
  have z4 : w4.cell? ⟨W.heap.size, 4, none⟩ = some (.int .i64 mode) := HR4.out.cell 4
  have z5 : w4.cell? ⟨W.heap.size, 5, none⟩ = some (.slice A st.length c) := HR4.out.cell 5
  have z6 : w4.cell? ⟨W.heap.size, 6, none⟩ = some (.int .i64 term) := HR4.out.cell 6
  obtain ⟨w5, hw5⟩ : ∃ w5, w5 = w4.alloc (.cells #[.int .i64 gid, .int .i64 hol, .string ⟨path.toArray⟩, .int .i64 mode, .slice A st.length c, .int .i64 term] 30) := ⟨_, rfl⟩
  have HN5 := Lib.hid (show Kp No w4 w5 by rw [hw5]; exact (Kp.refl No w4).alloc _)
  have HL5 := Lib.hid (show Bk w5 w4.heap.size 30 [.int .i64 gid, .int .i64 hol, .string ⟨path.toArray⟩, .int .i64 mode, .slice A st.length c, .int .i64 term] by rw [hw5]; exact Bk.new' rfl rfl)
  have HR5 := Lib.hid (HR4.out.no HN5.out); have HK5 := Lib.hid (HK4.out.trans HN5.out)
  have HW5 := Lib.hid (show WrB w5 w2.heap.size W.heap.size v4 (nS 2) from ⟨HW4.out.1.no HN5.out, HW4.out.2.no HN5.out⟩)
  have HX5 := Lib.hid hw5
  clear hw5
  go_upto_region 6 with (fail)
  rw [← HX5.out]
  clear HX5 z1 z2 z3 z4 z5 z6
  have hB5 : W.heap.size ≤ w5.heap.size := HK5.out.size
  have A5 := Lib.hid (WrAft.start HW5.out)
  have l5 : (nS 2).length ≤ 9 := numS_len 8 _ (by omega)
  have z0 : w5.cell? ⟨W.heap.size, 0, none⟩ = some (.int .i64 2) := HR5.out.cell 0
  have R_longest : longest < 9223372036854775808 := by have h := HMM.out.1; unfold termI at h; omega
  have hr5 := WrAft.bk HW5.out A5.out HR5.out (by decide)
  have y5_11 : w5.cell? ⟨W.heap.size, 11, none⟩ = some (.int .i64 longest) := hr5.cell 11
  have l6 : (nS longest).length ≤ 9 := numS_len 8 _ (by have := R_longest; omega)
  go_wp2_with fail
  refine (ws_num hB5 A5.out (by omega) (R_longest)).mono ?_
  rintro e w6 ⟨rfl, h6⟩
  have A6 := Lib.hid h6
  clear h6
  go_wp2_with fail
  refine (ws_bytes hB5 A6.out (by simp only [List.length_append]; omega)).mono ?_
  rintro e wz ⟨vz, rfl, oz, kz⟩
  have HF := Lib.hid (show Q (.returned (.tuple #[vz, .int .i64 0])) wz by
    rw [HQ.out]
    have kf := WrAft.far_ HW5.out (by have := HK2.out.size; omega) (Nat.le_refl _) HK5.out A6.out
    refine ⟨.inr ⟨vz, _, HE.out, rfl, ?_⟩, kf.trans kz⟩
    rw [show bodyR ⟨2, ⟨gid, hol, path, mode, st, term⟩, id, stamp, next, boots, longest⟩ = nS 2 ++ nS longest by
      simp [bodyR, nS]]
    exact own_mono oz kf.size)
  clear oz kz
  go_wp2
  exact HF.out
end Go.Proofs.Ytifdceofglocdaa

/- A record's bytes: book.Encode by contract (kind 3). No condition beyond what each theorem states. -/
namespace Go.Proofs.Ytifdceofglocdaa
open Go Go.RowKit Go.PlainAid

set_option maxRecDepth 100000 in
set_option maxHeartbeats 8000000 in
theorem encode_3 (r : Rcd) (gv rv : Value) (W : World) (hg : SlI W gv r.grant.stamp) (hs : SlI W rv r.stamp) (hm : mayR r) (hk : r.kind = 3) :
    Calls Try.prog 23 #[.agg (rC r gv rv).toArray] W (EncR W r) := by
  have HE := Lib.hid (enc_some hm)
  have HM := Lib.hid hm
  obtain ⟨kind, ⟨gid, hol, path, mode, st, term⟩, id, stamp, next, boots, longest⟩ := r
  obtain rfl : kind = 3 := hk
  obtain ⟨A, c, rfl, _⟩ : ∃ A c, gv = .slice A st.length c ∧ st.length ≤ c := by obtain ⟨A, c, e, hc, _⟩ := hg; exact ⟨A, c, e, hc⟩
  obtain ⟨A2, c2, rfl, _⟩ : ∃ A c, rv = .slice A stamp.length c ∧ stamp.length ≤ c := by obtain ⟨A, c, e, hc, _⟩ := hs; exact ⟨A, c, e, hc⟩
  have hm := (mayR_3 (r := ⟨3, ⟨gid, hol, path, mode, st, term⟩, id, stamp, next, boots, longest⟩) rfl).1 hm
  replace hg : SlI W (.slice A st.length c) st := hg
  replace hs : SlI W (.slice A2 stamp.length c2) stamp := hs
  obtain ⟨w1, hw1⟩ : ∃ w1, w1 = W.alloc (.cells #[.int .i64 3, .int .i64 gid, .int .i64 hol, .string ⟨path.toArray⟩, .int .i64 mode, .slice A st.length c, .int .i64 term, .int .i64 id, .slice A2 stamp.length c2, .int .i64 next, .int .i64 boots, .int .i64 longest] 32) := ⟨_, rfl⟩
  have HK1 := Lib.hid (show Kp No W w1 by rw [hw1]; exact (Kp.refl No W).alloc _)
  have HB1 := Lib.hid (show Bk w1 W.heap.size 32 [.int .i64 3, .int .i64 gid, .int .i64 hol, .string ⟨path.toArray⟩, .int .i64 mode, .slice A st.length c, .int .i64 term, .int .i64 id, .slice A2 stamp.length c2, .int .i64 next, .int .i64 boots, .int .i64 longest] by rw [hw1]; exact Bk.new' rfl rfl)
  obtain ⟨lgp, lgs, lss⟩ : path.length ≤ 1000 ∧ st.length ≤ 4 ∧ stamp.length ≤ 4 := by
    have h := mayG_sh hm.1
    exact ⟨by have h := h.1; show path.length ≤ 1000; have h : path.length ≤ 27 := h; omega, h.2.1, by have hst : stamp = [] := hm.2.2.2; rw [hst]; exact Nat.zero_le _⟩
  have pm := mayRec_any ⟨3, ⟨gid, hol, path, mode, st, term⟩, id, stamp, next, boots, longest⟩ (.slice A st.length c) (.slice A2 stamp.length c2) w1 (hg.arg.no HK1.out) (hs.arg.no HK1.out) ⟨Nat.le_trans lgp (by unfold maxLen; omega), Nat.le_trans lgs (by unfold maxLen; omega)⟩ (Nat.le_trans lss (by unfold maxLen; omega))
  rw [decide_eq_true HM.out] at pm
  simp only [rC] at pm ⊢
  have HG := Lib.hid hg; have HS := Lib.hid hs; have HMM := Lib.hid hm; have HW := Lib.hid hw1
  clear hg hs hm hw1
  obtain ⟨Q, hQ⟩ : ∃ Q : Ending → World → Prop, Q = EncR W ⟨3, ⟨gid, hol, path, mode, st, term⟩, id, stamp, next, boots, longest⟩ := ⟨_, rfl⟩
  rw [← hQ]
  have HQ := Lib.hid hQ; clear hQ
  have z0 : w1.cell? ⟨W.heap.size, 0, none⟩ = some (.int .i64 3) := HB1.out.cell 0; have z1 : w1.cell? ⟨W.heap.size, 1, none⟩ = some (.int .i64 gid) := HB1.out.cell 1; have z2 : w1.cell? ⟨W.heap.size, 2, none⟩ = some (.int .i64 hol) := HB1.out.cell 2; have z3 : w1.cell? ⟨W.heap.size, 3, none⟩ = some (.string ⟨path.toArray⟩) := HB1.out.cell 3; have z4 : w1.cell? ⟨W.heap.size, 4, none⟩ = some (.int .i64 mode) := HB1.out.cell 4; have z5 : w1.cell? ⟨W.heap.size, 5, none⟩ = some (.slice A st.length c) := HB1.out.cell 5; have z6 : w1.cell? ⟨W.heap.size, 6, none⟩ = some (.int .i64 term) := HB1.out.cell 6; have z7 : w1.cell? ⟨W.heap.size, 7, none⟩ = some (.int .i64 id) := HB1.out.cell 7; have z8 : w1.cell? ⟨W.heap.size, 8, none⟩ = some (.slice A2 stamp.length c2) := HB1.out.cell 8; have z9 : w1.cell? ⟨W.heap.size, 9, none⟩ = some (.int .i64 next) := HB1.out.cell 9; have z10 : w1.cell? ⟨W.heap.size, 10, none⟩ = some (.int .i64 boots) := HB1.out.cell 10; have z11 : w1.cell? ⟨W.heap.size, 11, none⟩ = some (.int .i64 longest) := HB1.out.cell 11
  go_enter Try.func23, Try.ntmps23
  go_upto_region 1 with (fail)
  rw [← HW.out]
  clear HW
  go_wp2_with fail
  refine pm.mono ?_
  rintro e w2 ⟨rfl, k2⟩
  have HK2 := Lib.hid (HK1.out.trans k2); have HB2 := Lib.hid (HB1.out.no k2)
  clear k2 pm z0 z1 z2 z3 z4 z5 z6 z7 z8 z9 z10 z11
  obtain ⟨w3, hw3⟩ : ∃ w3, w3 = w2.alloc (.cells #[.slice none 0 0] 78) := ⟨_, rfl⟩
  have HN3 := Lib.hid (show Kp No w2 w3 by rw [hw3]; exact (Kp.refl No w2).alloc _)
  have HR3 := Lib.hid (HB2.out.no HN3.out); have HK3 := Lib.hid (HK2.out.trans HN3.out)
  have HWR := Lib.hid (show WrB w3 w2.heap.size W.heap.size (.slice none 0 0) [] by rw [hw3]; exact ⟨Bk.new' rfl rfl, OwnB.nil _ _⟩)
  have HW3 := Lib.hid hw3
  clear hw3
  go_upto_region 4 with (fail)
  rw [← HW3.out]
  clear HW3
  have A3 := Lib.hid (WrAft.start HWR.out)
  have z0 : w3.cell? ⟨W.heap.size, 0, none⟩ = some (.int .i64 3) := HR3.out.cell 0
  have hB3 : W.heap.size ≤ w3.heap.size := HK3.out.size
  go_wp2_with fail
  refine (ws_num hB3 A3.out (by simp) (by omega)).mono ?_
  rintro e w4 ⟨rfl, h4⟩
  have HR4 := Lib.hid (WrAft.bk HWR.out h4 HR3.out (by decide)); have HK4 := Lib.hid (WrAft.far_ HWR.out (by have := HK2.out.size; omega) (Nat.le_refl _) HK3.out h4)
  rw [List.nil_append] at h4
  obtain ⟨v4, hw4, _, _⟩ := h4
  have HW4 := Lib.hid hw4
  clear hw4 z0 hB3 A3
  have z1 : w4.cell? ⟨W.heap.size, 1, none⟩ = some (.int .i64 gid) := HR4.out.cell 1
  have z2 : w4.cell? ⟨W.heap.size, 2, none⟩ = some (.int .i64 hol) := HR4.out.cell 2
  have z3 : w4.cell? ⟨W.heap.size, 3, none⟩ = some (.string ⟨path.toArray⟩) := HR4.out.cell 3
  have z4 : w4.cell? ⟨W.heap.size, 4, none⟩ = some (.int .i64 mode) := HR4.out.cell 4
  have z5 : w4.cell? ⟨W.heap.size, 5, none⟩ = some (.slice A st.length c) := HR4.out.cell 5
  have z6 : w4.cell? ⟨W.heap.size, 6, none⟩ = some (.int .i64 term) := HR4.out.cell 6
  obtain ⟨w5, hw5⟩ : ∃ w5, w5 = w4.alloc (.cells #[.int .i64 gid, .int .i64 hol, .string ⟨path.toArray⟩, .int .i64 mode, .slice A st.length c, .int .i64 term] 30) := ⟨_, rfl⟩
  have HN5 := Lib.hid (show Kp No w4 w5 by rw [hw5]; exact (Kp.refl No w4).alloc _)
  have HL5 := Lib.hid (show Bk w5 w4.heap.size 30 [.int .i64 gid, .int .i64 hol, .string ⟨path.toArray⟩, .int .i64 mode, .slice A st.length c, .int .i64 term] by rw [hw5]; exact Bk.new' rfl rfl)
  have HR5 := Lib.hid (HR4.out.no HN5.out); have HK5 := Lib.hid (HK4.out.trans HN5.out)
  have HW5 := Lib.hid (show WrB w5 w2.heap.size W.heap.size v4 (nS 3) from ⟨HW4.out.1.no HN5.out, HW4.out.2.no HN5.out⟩)
  have HX5 := Lib.hid hw5
  clear hw5
  go_upto_region 6 with (fail)
  rw [← HX5.out]
  clear HX5 z1 z2 z3 z4 z5 z6
  have hB5 : W.heap.size ≤ w5.heap.size := HK5.out.size
  have A5 := Lib.hid (WrAft.start HW5.out)
  have l5 : (nS 3).length ≤ 9 := numS_len 8 _ (by omega)
  have z0 : w5.cell? ⟨W.heap.size, 0, none⟩ = some (.int .i64 3) := HR5.out.cell 0
  obtain ⟨hm1, hm2, hm3, hm4, hm5, _, _, hm8⟩ := (show mayG ⟨gid, hol, path, mode, st, term⟩ from HMM.out.1)
  have R_gid : gid < 9223372036854775808 := by have h : cntI gid := hm1; unfold cntI at h; omega
  have R_hol : hol < 9223372036854775808 := by have h : nodeI hol := hm2; unfold nodeI at h; omega
  have R_mode : mode < 9223372036854775808 := by have h : modeI mode := hm4; unfold modeI at h; omega
  have R_term : term < 9223372036854775808 := by have h : termI term := hm8; unfold termI at h; omega
  have R_st : ∀ x ∈ st, x < 9223372036854775808 := fun x hx => by have h := (cnt_of_valid (show validS st = true from hm5)).2 x hx; unfold cntI at h; omega
  have hp27 : path.length ≤ 27 := path_len hm3
  clear hm1 hm2 hm3 hm4 hm5 hm8
  have hr5 := WrAft.bk HW5.out A5.out HL5.out (by decide)
  have y5_0 : w5.cell? ⟨w4.heap.size, 0, none⟩ = some (.int .i64 gid) := hr5.cell 0
  have y5_1 : w5.cell? ⟨w4.heap.size, 1, none⟩ = some (.int .i64 hol) := hr5.cell 1
  have hq5 : ∀ x ∈ ([gid, hol] : List Int), x < 9223372036854775808 := (by intro x hx; simp only [List.mem_cons, List.not_mem_nil, or_false] at hx; rcases hx with e | e; (rw [e]; exact R_gid); (rw [e]; exact R_hol))
  have ka5 : Kp No w5 (w5.alloc (.cells #[.int .i64 gid, .int .i64 hol] 3)) := (Kp.refl No _).alloc _
  have sl5 : SlI (w5.alloc (.cells #[.int .i64 gid, .int .i64 hol] 3)) (.slice (some ⟨w5.heap.size, 0, none⟩) 2 2) [gid, hol] := sli_new (Bk.new' rfl rfl) rfl (Nat.le_refl _)
  have l6 : (outI [gid, hol]).length ≤ 18 := outI_len _ hq5
  go_wp2_with fail
  refine (ws_lay hB5 (A5.out.no ka5) (by omega) sl5 (by simp) hq5).mono ?_
  rintro e w6 ⟨rfl, h6⟩
  have A6 := Lib.hid h6
  clear h6
  clear sl5 ka5
  have hr6 := WrAft.bk HW5.out A6.out HL5.out (by decide)
  have y6_2 : w6.cell? ⟨w4.heap.size, 2, none⟩ = some (.string ⟨path.toArray⟩) := hr6.cell 2
  have l7 : (textS path).length ≤ 36 := by
    have := numS_len 8 path.length (by omega)
    unfold textS; rw [List.length_append]; omega
  go_wp2_with fail
  refine (ws_text hB5 A6.out (by simp only [List.length_append]; omega) (by omega)).mono ?_
  rintro e w7 ⟨rfl, h7⟩
  have A7 := Lib.hid h7
  clear h7
  have hr7 := WrAft.bk HW5.out A7.out HL5.out (by decide)
  have y7_3 : w7.cell? ⟨w4.heap.size, 3, none⟩ = some (.int .i64 mode) := hr7.cell 3
  have y7_5 : w7.cell? ⟨w4.heap.size, 5, none⟩ = some (.int .i64 term) := hr7.cell 5
  have y7_4 : w7.cell? ⟨w4.heap.size, 4, none⟩ = some (.slice A st.length c) := hr7.cell 4
  have hq7 : ∀ x ∈ ([mode, term, (st.length : Int)] : List Int), x < 9223372036854775808 := (by intro x hx; simp only [List.mem_cons, List.not_mem_nil, or_false] at hx; rcases hx with e | e | e; (rw [e]; exact R_mode); (rw [e]; exact R_term); (rw [e]; omega))
  have ka7 : Kp No w7 (w7.alloc (.cells #[.int .i64 mode, .int .i64 term, .int .i64 (st.length : Int)] 3)) := (Kp.refl No _).alloc _
  have sl7 : SlI (w7.alloc (.cells #[.int .i64 mode, .int .i64 term, .int .i64 (st.length : Int)] 3)) (.slice (some ⟨w7.heap.size, 0, none⟩) 3 3) [mode, term, (st.length : Int)] := sli_new (Bk.new' rfl rfl) rfl (Nat.le_refl _)
  have l8 : (outI [mode, term, (st.length : Int)]).length ≤ 27 := outI_len _ hq7
  go_wp2_with fail
  refine (ws_lay hB5 (A7.out.no ka7) (by simp only [List.length_append]; omega) sl7 (by simp) hq7).mono ?_
  rintro e w8 ⟨rfl, h8⟩
  have A8 := Lib.hid h8
  clear h8
  clear sl7 ka7
  have hr8 := WrAft.bk HW5.out A8.out HL5.out (by decide)
  have y8_4 : w8.cell? ⟨w4.heap.size, 4, none⟩ = some (.slice A st.length c) := hr8.cell 4
  have sl8 := WrAft.sl HW5.out A8.out (HG.out.no HK5.out)
  have l9 : (outI st).length ≤ 36 := Nat.le_trans (outI_len _ R_st) (by omega)
  go_wp2_with fail
  refine (ws_lay hB5 A8.out (by simp only [List.length_append]; omega) sl8 (by omega) R_st).mono ?_
  rintro e w9 ⟨rfl, h9⟩
  have A9 := Lib.hid h9
  clear h9
  clear sl8
  go_wp2_with fail
  refine (ws_bytes hB5 A9.out (by simp only [List.length_append]; omega)).mono ?_
  rintro e wz ⟨vz, rfl, oz, kz⟩
  have HF := Lib.hid (show Q (.returned (.tuple #[vz, .int .i64 0])) wz by
    rw [HQ.out]
    have kf := WrAft.far_ HW5.out (by have := HK2.out.size; omega) (Nat.le_refl _) HK5.out A9.out
    refine ⟨.inr ⟨vz, _, HE.out, rfl, ?_⟩, kf.trans kz⟩
    rw [show bodyR ⟨3, ⟨gid, hol, path, mode, st, term⟩, id, stamp, next, boots, longest⟩ = nS 3 ++ outI [gid, hol] ++ textS path ++ outI [mode, term, (st.length : Int)] ++ outI st by
      simp [bodyR, outI_2, outI_3, cS_out, nS, textS]]
    exact own_mono oz kf.size)
  clear oz kz
  go_wp2
  exact HF.out
end Go.Proofs.Ytifdceofglocdaa
