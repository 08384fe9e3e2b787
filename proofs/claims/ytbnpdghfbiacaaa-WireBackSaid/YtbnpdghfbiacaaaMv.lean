/- The fields of a message by contract (wire). No condition beyond what each theorem states. -/
import Derived.Test.YtbnpdghfbiacaaaMu
namespace Go.Proofs.Ytbnpdghfbiacaaa
open Go Go.RowKit Go.PlainAid

theorem FsAt.mono {w : World} {B B' : Nat} {v : Value} {L : List Fld} (h : FsAt w B v L) (hb : B' ≤ B) : FsAt w B' v L := by
  obtain ⟨vs, h1, h2, h3⟩ := h
  exact ⟨vs, own_mono h1 hb, h2, h3⟩
theorem kp_fs {W w w' : World} {v : Value} {L : List Fld} (h : FsAt w W.heap.size v L) (k : Kp No W w) (k2 : Kp (fun k => v.ownBlock = some k) w w') : Kp No W w' := by
  obtain ⟨vs, h1, _⟩ := h
  exact kp_own h1 k k2
def FieldsR (W : World) (m : Msg) (e : Ending) (w' : World) : Prop := ∃ sv, e = .returned sv ∧ FsAt w' W.heap.size sv (fieldsF vpP m) ∧ Kp No W w'
set_option maxRecDepth 100000 in
set_option maxHeartbeats 2000000 in
theorem fields3_any (g : Nat) (m : Msg) (sv : Value) (W : World) (hm : MsgB W g m sv) (hk : m.kind = 3) : Calls Try.prog 18 #[.pointer (some ⟨g, 0, none⟩)] W (FieldsR W m) := by
  have z0 : W.cell? ⟨g, 0, none⟩ = some (.int .i64 m.kind) := hm.1.cell 0
  have HE := Lib.hid (show fieldsF vpP m = [fId, fPath vpP, fOrigin, fNumber] by unfold fieldsF; simp [hk])
  rw [hk] at z0
  clear hm hk
  go_enter Try.func18, Try.ntmps18
  go_wp2_with fail
  refine (mkId _).mono ?_
  rintro e w1 ⟨v1, rfl, f1, k1⟩
  have F1 := Lib.hid f1; have K1 := Lib.hid k1; clear f1 k1
  go_wp2_with fail
  refine (path_any _).mono ?_
  rintro e w2 ⟨v2, rfl, f2, k2⟩
  have F2 := Lib.hid f2; have K2 := Lib.hid k2; clear f2 k2
  go_wp2_with fail
  refine (mkOrigin4 _).mono ?_
  rintro e w3 ⟨v3, rfl, f3, k3⟩
  have F3 := Lib.hid f3; have K3 := Lib.hid k3; clear f3 k3
  go_wp2_with fail
  refine (mkNumber _).mono ?_
  rintro e w4 ⟨v4, rfl, f4, k4⟩
  have F4 := Lib.hid f4; have K4 := Lib.hid k4; clear f4 k4
  simp only [FV.cells]
  go_wp2
  go_ret
  have q := fs_built (W := W) (w := w4) (vs := [v1, v2, v3, v4]) (L := [fId, fPath vpP, fOrigin, fNumber]) (n := 4) (C := #[.func (.func v1.wn) #[] v1.wc, .func (.func v1.rn) #[] v1.rc, .func (.func v1.fn) #[] v1.fc, .func (.func v2.wn) #[] v2.wc, .func (.func v2.rn) #[] v2.rc, .func (.func v2.fn) #[] v2.fc, .func (.func v3.wn) #[] v3.wc, .func (.func v3.rn) #[] v3.rc, .func (.func v3.fn) #[] v3.fc, .func (.func v4.wn) #[] v4.wc, .func (.func v4.rn) #[] v4.rc, .func (.func v4.fn) #[] v4.fc]) rfl (((K1.out.trans K2.out).trans K3.out).trans K4.out) rfl rfl (by simp) (by
    intro p hp
    simp only [List.zip_cons_cons, List.zip_nil_right, List.mem_cons, List.not_mem_nil, or_false] at hp
    rcases hp with rfl | rfl | rfl | rfl
    · exact F1.out.stay (Stay.no ((K2.out.trans K3.out).trans K4.out))
    · exact F2.out.stay (Stay.no (K3.out.trans K4.out))
    · exact F3.out.stay (Stay.no K4.out)
    · exact F4.out)
  obtain ⟨q1, q2⟩ := q
  exact ⟨_, rfl, by rw [HE.out]; exact q1, q2⟩
set_option maxRecDepth 100000 in
set_option maxHeartbeats 2000000 in
theorem fields4_any (g : Nat) (m : Msg) (sv : Value) (W : World) (hm : MsgB W g m sv) (hk : m.kind = 4) : Calls Try.prog 18 #[.pointer (some ⟨g, 0, none⟩)] W (FieldsR W m) := by
  have z0 : W.cell? ⟨g, 0, none⟩ = some (.int .i64 m.kind) := hm.1.cell 0
  have HE := Lib.hid (show fieldsF vpP m = [fId, fOrigin, fNumber] by unfold fieldsF; simp [hk])
  rw [hk] at z0
  clear hm hk
  go_enter Try.func18, Try.ntmps18
  go_wp2_with fail
  refine (mkId _).mono ?_
  rintro e w1 ⟨v1, rfl, f1, k1⟩
  have F1 := Lib.hid f1; have K1 := Lib.hid k1; clear f1 k1
  go_wp2_with fail
  refine (mkOrigin5 _).mono ?_
  rintro e w2 ⟨v2, rfl, f2, k2⟩
  have F2 := Lib.hid f2; have K2 := Lib.hid k2; clear f2 k2
  go_wp2_with fail
  refine (mkNumber _).mono ?_
  rintro e w3 ⟨v3, rfl, f3, k3⟩
  have F3 := Lib.hid f3; have K3 := Lib.hid k3; clear f3 k3
  simp only [FV.cells]
  go_wp2
  go_ret
  have q := fs_built (W := W) (w := w3) (vs := [v1, v2, v3]) (L := [fId, fOrigin, fNumber]) (n := 3) (C := #[.func (.func v1.wn) #[] v1.wc, .func (.func v1.rn) #[] v1.rc, .func (.func v1.fn) #[] v1.fc, .func (.func v2.wn) #[] v2.wc, .func (.func v2.rn) #[] v2.rc, .func (.func v2.fn) #[] v2.fc, .func (.func v3.wn) #[] v3.wc, .func (.func v3.rn) #[] v3.rc, .func (.func v3.fn) #[] v3.fc]) rfl ((K1.out.trans K2.out).trans K3.out) rfl rfl (by simp) (by
    intro p hp
    simp only [List.zip_cons_cons, List.zip_nil_right, List.mem_cons, List.not_mem_nil, or_false] at hp
    rcases hp with rfl | rfl | rfl
    · exact F1.out.stay (Stay.no (K2.out.trans K3.out))
    · exact F2.out.stay (Stay.no K3.out)
    · exact F3.out)
  obtain ⟨q1, q2⟩ := q
  exact ⟨_, rfl, by rw [HE.out]; exact q1, q2⟩
set_option maxRecDepth 100000 in
set_option maxHeartbeats 2000000 in
theorem fields5_any (g : Nat) (m : Msg) (sv : Value) (W : World) (hm : MsgB W g m sv) (hk : m.kind = 5) : Calls Try.prog 18 #[.pointer (some ⟨g, 0, none⟩)] W (FieldsR W m) := by
  have z0 : W.cell? ⟨g, 0, none⟩ = some (.int .i64 m.kind) := hm.1.cell 0
  have HE := Lib.hid (show fieldsF vpP m = [fPath vpP, fMode, fStamp] by unfold fieldsF; simp [hk])
  rw [hk] at z0
  clear hm hk
  go_enter Try.func18, Try.ntmps18
  go_wp2_with fail
  refine (path_any _).mono ?_
  rintro e w1 ⟨v1, rfl, f1, k1⟩
  have F1 := Lib.hid f1; have K1 := Lib.hid k1; clear f1 k1
  go_wp2_with fail
  refine (mkMode _).mono ?_
  rintro e w2 ⟨v2, rfl, f2, k2⟩
  have F2 := Lib.hid f2; have K2 := Lib.hid k2; clear f2 k2
  go_wp2_with fail
  refine (stampF_any _).mono ?_
  rintro e w3 ⟨v3, rfl, f3, k3⟩
  have F3 := Lib.hid f3; have K3 := Lib.hid k3; clear f3 k3
  simp only [FV.cells]
  go_wp2
  go_ret
  have q := fs_built (W := W) (w := w3) (vs := [v1, v2, v3]) (L := [fPath vpP, fMode, fStamp]) (n := 3) (C := #[.func (.func v1.wn) #[] v1.wc, .func (.func v1.rn) #[] v1.rc, .func (.func v1.fn) #[] v1.fc, .func (.func v2.wn) #[] v2.wc, .func (.func v2.rn) #[] v2.rc, .func (.func v2.fn) #[] v2.fc, .func (.func v3.wn) #[] v3.wc, .func (.func v3.rn) #[] v3.rc, .func (.func v3.fn) #[] v3.fc]) rfl ((K1.out.trans K2.out).trans K3.out) rfl rfl (by simp) (by
    intro p hp
    simp only [List.zip_cons_cons, List.zip_nil_right, List.mem_cons, List.not_mem_nil, or_false] at hp
    rcases hp with rfl | rfl | rfl
    · exact F1.out.stay (Stay.no (K2.out.trans K3.out))
    · exact F2.out.stay (Stay.no K3.out)
    · exact F3.out)
  obtain ⟨q1, q2⟩ := q
  exact ⟨_, rfl, by rw [HE.out]; exact q1, q2⟩
set_option maxRecDepth 100000 in
set_option maxHeartbeats 2000000 in
theorem fields1_any (g : Nat) (m : Msg) (sv : Value) (W : World) (hm : MsgB W g m sv) (hk : m.kind = 1) : Calls Try.prog 18 #[.pointer (some ⟨g, 0, none⟩)] W (FieldsR W m) := by
  have z0 : W.cell? ⟨g, 0, none⟩ = some (.int .i64 m.kind) := hm.1.cell 0
  have HE := Lib.hid (show fieldsF vpP m = [fBoot, fSeq, fLow, fVerb] ++ askedF vpP m.verb by unfold fieldsF; rw [if_pos hk])
  have HM := Lib.hid hm.1
  rw [hk] at z0
  clear hm hk
  go_enter Try.func18, Try.ntmps18
  go_wp2_with fail
  refine (mkBoot _).mono ?_
  rintro e w1 ⟨v1, rfl, f1, k1⟩
  have F1 := Lib.hid f1; have K1 := Lib.hid k1; clear f1 k1
  go_wp2_with fail
  refine (mkSeq _).mono ?_
  rintro e w2 ⟨v2, rfl, f2, k2⟩
  have F2 := Lib.hid f2; have K2 := Lib.hid k2; clear f2 k2
  go_wp2_with fail
  refine (mkLow _).mono ?_
  rintro e w3 ⟨v3, rfl, f3, k3⟩
  have F3 := Lib.hid f3; have K3 := Lib.hid k3; clear f3 k3
  go_wp2_with fail
  refine (mkVerb _).mono ?_
  rintro e w4 ⟨v4, rfl, f4, k4⟩
  have F4 := Lib.hid f4; have K4 := Lib.hid k4; clear f4 k4
  simp only [FV.cells]
  have q := fs_built (W := W) (w := w4) (vs := [v1, v2, v3, v4]) (L := [fBoot, fSeq, fLow, fVerb]) (n := 4) (C := #[.func (.func v1.wn) #[] v1.wc, .func (.func v1.rn) #[] v1.rc, .func (.func v1.fn) #[] v1.fc, .func (.func v2.wn) #[] v2.wc, .func (.func v2.rn) #[] v2.rc, .func (.func v2.fn) #[] v2.fc, .func (.func v3.wn) #[] v3.wc, .func (.func v3.rn) #[] v3.rc, .func (.func v3.fn) #[] v3.fc, .func (.func v4.wn) #[] v4.wc, .func (.func v4.rn) #[] v4.rc, .func (.func v4.fn) #[] v4.fc]) rfl (((K1.out.trans K2.out).trans K3.out).trans K4.out) rfl rfl (by simp) (by
    intro p hp
    simp only [List.zip_cons_cons, List.zip_nil_right, List.mem_cons, List.not_mem_nil, or_false] at hp
    rcases hp with rfl | rfl | rfl | rfl
    · exact F1.out.stay (Stay.no ((K2.out.trans K3.out).trans K4.out))
    · exact F2.out.stay (Stay.no (K3.out.trans K4.out))
    · exact F3.out.stay (Stay.no K4.out)
    · exact F4.out)
  obtain ⟨q1, q2⟩ := q
  have z6 : (w4.alloc (.cells #[.func (.func v1.wn) #[] v1.wc, .func (.func v1.rn) #[] v1.rc, .func (.func v1.fn) #[] v1.fc, .func (.func v2.wn) #[] v2.wc, .func (.func v2.rn) #[] v2.rc, .func (.func v2.fn) #[] v2.fc, .func (.func v3.wn) #[] v3.wc, .func (.func v3.rn) #[] v3.rc, .func (.func v3.fn) #[] v3.fc, .func (.func v4.wn) #[] v4.wc, .func (.func v4.rn) #[] v4.rc, .func (.func v4.fn) #[] v4.fc] 55)).cell? ⟨g, 6, none⟩ = some (.int .i64 m.verb) := (HM.out.no q2).cell 6
  have Q1 := Lib.hid q1; have Q2 := Lib.hid q2
  clear q1 q2
  go_wp2_with fail
  refine (asked_any m.verb _).mono ?_
  rintro e w5 ⟨u5, rfl, f5, k5⟩
  have hl5 : 0 < (askedF vpP m.verb).length ∧ (askedF vpP m.verb).length ≤ 3 := by unfold askedF; repeat' split
                                                                                   all_goals simp
  have Q3 := Lib.hid (Q1.out.no k5); have Q4 := Lib.hid (Q2.out.trans k5)
  have Q5 := Lib.hid (f5.mono Q2.out.size)
  have hsz : W.heap.size ≤ w5.heap.size := Q4.out.size
  have H5 := Lib.hid hl5
  clear f5 k5 hl5 z6
  go_wp2_with (at_builtin; refine wpList_appF _ rfl _ _ rfl W.heap.size hsz _ _ _ _ rfl rfl Q3.out Q5.out (by have := H5.out; simp; omega) H5.out.1 ?_; intro v6 w6 f6 k6; have F6 := Lib.hid f6; have K6 := Lib.hid k6; clear f6 k6)
  go_ret
  exact ⟨_, rfl, by rw [HE.out]; exact F6.out, kp_fs Q3.out Q4.out K6.out⟩
set_option maxRecDepth 100000 in
set_option maxHeartbeats 2000000 in
theorem fields2_any (g : Nat) (m : Msg) (sv : Value) (W : World) (hm : MsgB W g m sv) (hk : m.kind = 2) : Calls Try.prog 18 #[.pointer (some ⟨g, 0, none⟩)] W (FieldsR W m) := by
  have z0 : W.cell? ⟨g, 0, none⟩ = some (.int .i64 m.kind) := hm.1.cell 0
  have HE := Lib.hid (show fieldsF vpP m = [fBoot, fSeq, fCode] ++ (if m.code = 0 then [fId, fGrant, fStamp] else []) by unfold fieldsF; rw [if_neg (by omega), if_pos hk])
  have HM := Lib.hid hm.1
  rw [hk] at z0
  clear hm hk
  go_enter Try.func18, Try.ntmps18
  go_wp2_with fail
  refine (mkBoot _).mono ?_
  rintro e w1 ⟨v1, rfl, f1, k1⟩
  have F1 := Lib.hid f1; have K1 := Lib.hid k1; clear f1 k1
  go_wp2_with fail
  refine (mkSeq _).mono ?_
  rintro e w2 ⟨v2, rfl, f2, k2⟩
  have F2 := Lib.hid f2; have K2 := Lib.hid k2; clear f2 k2
  go_wp2_with fail
  refine (mkCode _).mono ?_
  rintro e w3 ⟨v3, rfl, f3, k3⟩
  have F3 := Lib.hid f3; have K3 := Lib.hid k3; clear f3 k3
  simp only [FV.cells]
  have q := fs_built (W := W) (w := w3) (vs := [v1, v2, v3]) (L := [fBoot, fSeq, fCode]) (n := 3) (C := #[.func (.func v1.wn) #[] v1.wc, .func (.func v1.rn) #[] v1.rc, .func (.func v1.fn) #[] v1.fc, .func (.func v2.wn) #[] v2.wc, .func (.func v2.rn) #[] v2.rc, .func (.func v2.fn) #[] v2.fc, .func (.func v3.wn) #[] v3.wc, .func (.func v3.rn) #[] v3.rc, .func (.func v3.fn) #[] v3.fc]) rfl ((K1.out.trans K2.out).trans K3.out) rfl rfl (by simp) (by
    intro p hp
    simp only [List.zip_cons_cons, List.zip_nil_right, List.mem_cons, List.not_mem_nil, or_false] at hp
    rcases hp with rfl | rfl | rfl
    · exact F1.out.stay (Stay.no (K2.out.trans K3.out))
    · exact F2.out.stay (Stay.no K3.out)
    · exact F3.out)
  obtain ⟨q1, q2⟩ := q
  have z12 : (w3.alloc (.cells #[.func (.func v1.wn) #[] v1.wc, .func (.func v1.rn) #[] v1.rc, .func (.func v1.fn) #[] v1.fc, .func (.func v2.wn) #[] v2.wc, .func (.func v2.rn) #[] v2.rc, .func (.func v2.fn) #[] v2.fc, .func (.func v3.wn) #[] v3.wc, .func (.func v3.rn) #[] v3.rc, .func (.func v3.fn) #[] v3.fc] 55)).cell? ⟨g, 12, none⟩ = some (.int .i64 m.code) := (HM.out.no q2).cell 12
  have Q1 := Lib.hid q1; have Q2 := Lib.hid q2
  clear q1 q2
  by_cases hc : m.code = 0
  · rw [hc] at z12
    have HC := Lib.hid hc; clear hc
    go_wp2_with fail
    refine (mkId _).mono ?_
    rintro e w4 ⟨v4, rfl, f4, k4⟩
    have F4 := Lib.hid f4; have K4 := Lib.hid k4; clear f4 k4
    go_wp2_with fail
    refine (mkGrant _).mono ?_
    rintro e w5 ⟨v5, rfl, f5, k5⟩
    have F5 := Lib.hid f5; have K5 := Lib.hid k5; clear f5 k5
    go_wp2_with fail
    refine (stampF_any _).mono ?_
    rintro e w6 ⟨v6, rfl, f6, k6⟩
    have F6 := Lib.hid f6; have K6 := Lib.hid k6; clear f6 k6
    simp only [FV.cells]
    have q := fs_built (W := W) (w := w6) (vs := [v4, v5, v6]) (L := [fId, fGrant, fStamp]) (n := 3) (C := #[.func (.func v4.wn) #[] v4.wc, .func (.func v4.rn) #[] v4.rc, .func (.func v4.fn) #[] v4.fc, .func (.func v5.wn) #[] v5.wc, .func (.func v5.rn) #[] v5.rc, .func (.func v5.fn) #[] v5.fc, .func (.func v6.wn) #[] v6.wc, .func (.func v6.rn) #[] v6.rc, .func (.func v6.fn) #[] v6.fc]) rfl (((Q2.out.trans K4.out).trans K5.out).trans K6.out) rfl rfl (by simp) (by
      intro p hp
      simp only [List.zip_cons_cons, List.zip_nil_right, List.mem_cons, List.not_mem_nil, or_false] at hp
      rcases hp with rfl | rfl | rfl
      · exact F4.out.stay (Stay.no (K5.out.trans K6.out))
      · exact F5.out.stay (Stay.no K6.out)
      · exact F6.out)
    obtain ⟨q3, q4⟩ := q
    have Q3 := Lib.hid (Q1.out.no ((((K4.out.trans K5.out).trans K6.out)).alloc (.cells #[.func (.func v4.wn) #[] v4.wc, .func (.func v4.rn) #[] v4.rc, .func (.func v4.fn) #[] v4.fc, .func (.func v5.wn) #[] v5.wc, .func (.func v5.rn) #[] v5.rc, .func (.func v5.fn) #[] v5.fc, .func (.func v6.wn) #[] v6.wc, .func (.func v6.rn) #[] v6.rc, .func (.func v6.fn) #[] v6.fc] 55)))
    have Q4 := Lib.hid q4; have Q5 := Lib.hid q3
    have hsz : W.heap.size ≤ (w6.alloc (.cells #[.func (.func v4.wn) #[] v4.wc, .func (.func v4.rn) #[] v4.rc, .func (.func v4.fn) #[] v4.fc, .func (.func v5.wn) #[] v5.wc, .func (.func v5.rn) #[] v5.rc, .func (.func v5.fn) #[] v5.fc, .func (.func v6.wn) #[] v6.wc, .func (.func v6.rn) #[] v6.rc, .func (.func v6.fn) #[] v6.fc] 55)).heap.size := q4.size
    clear q3 q4
    go_wp2_with (at_builtin; refine wpList_appF _ rfl _ _ rfl W.heap.size hsz _ _ _ _ rfl rfl Q3.out Q5.out (by simp) (by simp) ?_; intro v7 w7 f7 k7; have F7 := Lib.hid f7; have K7 := Lib.hid k7; clear f7 k7)
    go_ret
    exact ⟨_, rfl, by rw [HE.out, if_pos HC.out]; exact F7.out, kp_fs Q3.out Q4.out K7.out⟩
  · have d1 : (m.code != 0) = true := by rw [bne_iff_ne]; exact hc
    have HC := Lib.hid hc; clear hc
    go_wp2
    go_ret
    exact ⟨_, rfl, by rw [HE.out, if_neg HC.out]; exact Q1.out, Q2.out⟩
set_option maxRecDepth 100000 in
set_option maxHeartbeats 2000000 in
theorem fields0_any (g : Nat) (m : Msg) (sv : Value) (W : World) (hm : MsgB W g m sv) (h1 : m.kind ≠ 1) (h2 : m.kind ≠ 2) (h3 : m.kind ≠ 3) (h4 : m.kind ≠ 4) (h5 : m.kind ≠ 5) : Calls Try.prog 18 #[.pointer (some ⟨g, 0, none⟩)] W (FieldsR W m) := by
  have z0 : W.cell? ⟨g, 0, none⟩ = some (.int .i64 m.kind) := hm.1.cell 0
  have HE := Lib.hid (show fieldsF vpP m = [] by unfold fieldsF; rw [if_neg h1, if_neg h2, if_neg h3, if_neg h4, if_neg h5])
  have d1 : (m.kind == 1) = false := by rw [beq_eq_false_iff_ne]; exact h1
  have d2 : (m.kind == 2) = false := by rw [beq_eq_false_iff_ne]; exact h2
  have d3 : (m.kind == 3) = false := by rw [beq_eq_false_iff_ne]; exact h3
  have d4 : (m.kind == 4) = false := by rw [beq_eq_false_iff_ne]; exact h4
  have d5 : (m.kind == 5) = false := by rw [beq_eq_false_iff_ne]; exact h5
  clear hm h1 h2 h3 h4 h5
  go_enter Try.func18, Try.ntmps18
  go_wp2
  go_ret
  exact ⟨_, rfl, by rw [HE.out]; exact ⟨[], nil_own _ _ _ _, rfl, by simp⟩, Kp.refl _ _⟩
theorem fields_any (g : Nat) (m : Msg) (sv : Value) (W : World) (hm : MsgB W g m sv) : Calls Try.prog 18 #[.pointer (some ⟨g, 0, none⟩)] W (FieldsR W m) := by
  by_cases h1 : m.kind = 1
  · exact fields1_any g m sv W hm h1
  by_cases h2 : m.kind = 2
  · exact fields2_any g m sv W hm h2
  by_cases h3 : m.kind = 3
  · exact fields3_any g m sv W hm h3
  by_cases h4 : m.kind = 4
  · exact fields4_any g m sv W hm h4
  by_cases h5 : m.kind = 5
  · exact fields5_any g m sv W hm h5
  exact fields0_any g m sv W hm h1 h2 h3 h4 h5
end Go.Proofs.Ytbnpdghfbiacaaa
