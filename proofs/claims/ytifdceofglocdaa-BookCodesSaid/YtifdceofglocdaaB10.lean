/- May it be a record: book.mayRec by contract. No condition beyond what each theorem states. -/
import Derived.Test.YtifdceofglocdaaB09
namespace Go.Proofs.Ytifdceofglocdaa
open Go Go.RowKit Go.PlainAid

/-- a record's cells, with the values of its two stamps -/
def rC (r : Rcd) (gv sv : Value) : List Value := [.int .i64 r.kind, .int .i64 r.grant.id, .int .i64 r.grant.holder, .string ⟨r.grant.path.toArray⟩, .int .i64 r.grant.mode, gv, .int .i64 r.grant.term, .int .i64 r.id, sv, .int .i64 r.next, .int .i64 r.boots, .int .i64 r.longest]
theorem rcd_eq (r s : Rcd) : r = s ↔ r.kind = s.kind ∧ r.grant = s.grant ∧ r.id = s.id ∧ r.stamp = s.stamp ∧ r.next = s.next ∧ r.boots = s.boots ∧ r.longest = s.longest := by
  cases r; cases s
  constructor
  · intro h; injection h with h1 h2 h3 h4 h5 h6 h7; exact ⟨h1, h2, h3, h4, h5, h6, h7⟩
  · rintro ⟨h1, h2, h3, h4, h5, h6, h7⟩; cases h1; cases h2; cases h3; cases h4; cases h5; cases h6; cases h7; rfl
theorem mayR_1 {r : Rcd} (h : r.kind = 1) : mayR r ↔ headsB r.next r.boots ∧ r.longest = 0 ∧ r.grant = {} ∧ (r.id = 0 ∧ r.stamp = []) := by
  unfold mayR
  rw [if_pos h, rcd_eq]
  exact ⟨fun ⟨h0, _, h2, h3, h4, _, _, h7⟩ => ⟨h0, h7, h2, h3, h4⟩, fun ⟨h0, h7, h2, h3, h4⟩ => ⟨h0, h, h2, h3, h4, rfl, rfl, h7⟩⟩
theorem mayR_2 {r : Rcd} (h : r.kind = 2) : mayR r ↔ termI r.longest ∧ r.next = 0 ∧ r.boots = 0 ∧ r.grant = {} ∧ (r.id = 0 ∧ r.stamp = []) := by
  unfold mayR
  rw [if_neg (by omega), if_pos h, rcd_eq]
  exact ⟨fun ⟨h0, _, h2, h3, h4, h5, h6, _⟩ => ⟨h0, h5, h6, h2, h3, h4⟩, fun ⟨h0, h5, h6, h2, h3, h4⟩ => ⟨h0, h, h2, h3, h4, h5, h6, rfl⟩⟩
theorem mayR_3 {r : Rcd} (h : r.kind = 3) : mayR r ↔ mayG r.grant ∧ (r.next = 0 ∧ r.boots = 0 ∧ r.longest = 0) ∧ (r.id = 0 ∧ r.stamp = []) := by
  unfold mayR
  rw [if_neg (by omega), if_neg (by omega), if_pos h, rcd_eq]
  exact ⟨fun ⟨h0, _, _, h3, h4, h5, h6, h7⟩ => ⟨h0, ⟨h5, h6, h7⟩, h3, h4⟩, fun ⟨h0, ⟨h5, h6, h7⟩, h3, h4⟩ => ⟨h0, h, rfl, h3, h4, h5, h6, h7⟩⟩
theorem mayR_4 {r : Rcd} (h : r.kind = 4) : mayR r ↔ newestS r.grant.stamp = r.grant.id ∧ mayG r.grant ∧ (r.next = 0 ∧ r.boots = 0 ∧ r.longest = 0) ∧ (r.id = 0 ∧ r.stamp = []) := by
  unfold mayR
  rw [if_neg (by omega), if_neg (by omega), if_neg (by omega), if_pos h, rcd_eq]
  exact ⟨fun ⟨h0, h1, _, _, h3, h4, h5, h6, h7⟩ => ⟨h1, h0, ⟨h5, h6, h7⟩, h3, h4⟩, fun ⟨h1, h0, ⟨h5, h6, h7⟩, h3, h4⟩ => ⟨h0, h1, h, rfl, h3, h4, h5, h6, h7⟩⟩
theorem mayR_5 {r : Rcd} (h : r.kind = 5) : mayR r ↔ cntI r.id ∧ (validS r.stamp = true ∧ r.stamp ≠ []) ∧ (r.next = 0 ∧ r.boots = 0 ∧ r.longest = 0) ∧ r.grant = {} := by
  unfold mayR
  rw [if_neg (by omega), if_neg (by omega), if_neg (by omega), if_neg (by omega), if_pos h, rcd_eq]
  exact ⟨fun ⟨h0, h1, h8, _, h2, _, _, h5, h6, h7⟩ => ⟨h0, ⟨h1, h8⟩, ⟨h5, h6, h7⟩, h2⟩, fun ⟨h0, ⟨h1, h8⟩, ⟨h5, h6, h7⟩, h2⟩ => ⟨h0, h1, h8, h, h2, rfl, rfl, h5, h6, h7⟩⟩
theorem mayR_6 {r : Rcd} (h : r.kind = 6) : mayR r ↔ cntI r.id ∧ r.stamp = [] ∧ (r.next = 0 ∧ r.boots = 0 ∧ r.longest = 0) ∧ r.grant = {} := by
  unfold mayR
  rw [if_neg (by omega), if_neg (by omega), if_neg (by omega), if_neg (by omega), if_neg (by omega), if_pos h, rcd_eq]
  exact ⟨fun ⟨h0, _, h2, _, h4, h5, h6, h7⟩ => ⟨h0, h4, ⟨h5, h6, h7⟩, h2⟩, fun ⟨h0, h4, ⟨h5, h6, h7⟩, h2⟩ => ⟨h0, h, h2, rfl, h4, h5, h6, h7⟩⟩
theorem mayR_7 {r : Rcd} (h : r.kind = 7) : mayR r ↔ (r.next = 0 ∧ r.boots = 0 ∧ r.longest = 0) ∧ r.grant = {} ∧ (r.id = 0 ∧ r.stamp = []) := by
  unfold mayR
  rw [if_neg (by omega), if_neg (by omega), if_neg (by omega), if_neg (by omega), if_neg (by omega), if_neg (by omega), if_pos h, rcd_eq]
  exact ⟨fun ⟨_, h2, h3, h4, h5, h6, h7⟩ => ⟨⟨h5, h6, h7⟩, h2, h3, h4⟩, fun ⟨⟨h5, h6, h7⟩, h2, h3, h4⟩ => ⟨h, h2, h3, h4, h5, h6, h7⟩⟩
theorem mayR_0 {r : Rcd} (h : ¬ (r.kind = 1 ∨ r.kind = 2 ∨ r.kind = 3 ∨ r.kind = 4 ∨ r.kind = 5 ∨ r.kind = 6 ∨ r.kind = 7)) : ¬ mayR r := by
  unfold mayR
  rw [if_neg (by omega), if_neg (by omega), if_neg (by omega), if_neg (by omega), if_neg (by omega), if_neg (by omega), if_neg (by omega)]
  exact fun h => h

set_option maxRecDepth 100000 in
set_option maxHeartbeats 8000000 in
theorem mayRec_any (r : Rcd) (gv sv : Value) (W : World) (hg : ArgInts W gv r.grant.stamp) (hs : ArgInts W sv r.stamp) (lg : ShG maxLen r.grant) (ls : r.stamp.length ≤ maxLen) :
    Calls Try.prog 32 #[.agg (rC r gv sv).toArray] W fun e w' => e = .returned (.bool (decide (mayR r))) ∧ Kp No W w' := by
  obtain ⟨R, hR⟩ : ∃ R, R = decide (mayR r) := ⟨_, rfl⟩
  rw [← hR]
  have HR := Lib.hid hR; clear hR
  have HM0 := Lib.hid (mayR_0 (r := r)); have HM1 := Lib.hid (mayR_1 (r := r)); have HM2 := Lib.hid (mayR_2 (r := r)); have HM3 := Lib.hid (mayR_3 (r := r))
  have HM4 := Lib.hid (mayR_4 (r := r)); have HM5 := Lib.hid (mayR_5 (r := r)); have HM6 := Lib.hid (mayR_6 (r := r)); have HM7 := Lib.hid (mayR_7 (r := r))
  obtain ⟨kind, ⟨gid, hol, path, mode, st, term⟩, id, stamp, next, boots, longest⟩ := r
  obtain ⟨A, c, rfl, _⟩ : ∃ A c, gv = .slice A st.length c ∧ st.length ≤ c := by obtain ⟨A, c, e, hc, _⟩ := hg; exact ⟨A, c, e, hc⟩
  obtain ⟨A2, c2, rfl, _⟩ : ∃ A c, sv = .slice A stamp.length c ∧ stamp.length ≤ c := by obtain ⟨A, c, e, hc, _⟩ := hs; exact ⟨A, c, e, hc⟩
  have hg : ArgInts W (.slice A st.length c) st := hg
  have hs : ArgInts W (.slice A2 stamp.length c2) stamp := hs
  have lg : ShG maxLen ⟨gid, hol, path, mode, st, term⟩ := lg
  have ls : stamp.length ≤ maxLen := ls
  obtain ⟨w1, hw1⟩ : ∃ w1, w1 = W.alloc (.cells #[.int .i64 kind, .int .i64 gid, .int .i64 hol, .string ⟨path.toArray⟩, .int .i64 mode, .slice A st.length c, .int .i64 term, .int .i64 id, .slice A2 stamp.length c2, .int .i64 next, .int .i64 boots, .int .i64 longest] 32) := ⟨_, rfl⟩
  have HB := Lib.hid (show Bk w1 W.heap.size 32 [.int .i64 kind, .int .i64 gid, .int .i64 hol, .string ⟨path.toArray⟩, .int .i64 mode, .slice A st.length c, .int .i64 term, .int .i64 id, .slice A2 stamp.length c2, .int .i64 next, .int .i64 boots, .int .i64 longest] by rw [hw1]; exact Bk.new' rfl rfl)
  have HK1 := Lib.hid (show Kp No W w1 by rw [hw1]; exact (Kp.refl No W).alloc _)
  have HW1 := Lib.hid hw1; clear hw1
  have ps : ∀ W2, Kp No W W2 → Calls Try.prog 52 #[.agg #[.int .i64 gid, .int .i64 hol, .string ⟨path.toArray⟩, .int .i64 mode, .slice A st.length c, .int .i64 term], .agg #[.int .i64 0, .int .i64 0, .string ⟨#[]⟩, .int .i64 0, .slice none 0 0, .int .i64 0]] W2 fun e w' => e = .returned (.bool (decide ((⟨gid, hol, path, mode, st, term⟩ : Grt) = {}))) ∧ Kp No W2 w' := fun W2 k =>
    sameG_any (⟨gid, hol, path, mode, st, term⟩, .slice A st.length c) ({}, .slice none 0 0) W2 (hg.no k) (ArgInts.nil _ _ _) lg.2 (Nat.zero_le _)
  have pm : ∀ W2, Kp No W W2 → Calls Try.prog 46 #[.agg #[.int .i64 gid, .int .i64 hol, .string ⟨path.toArray⟩, .int .i64 mode, .slice A st.length c, .int .i64 term]] W2 fun e w' => e = .returned (.bool (decide (mayG ⟨gid, hol, path, mode, st, term⟩))) ∧ Kp No W2 w' := fun W2 k =>
    mayGrant_any (⟨gid, hol, path, mode, st, term⟩, .slice A st.length c) W2 (hg.no k) lg
  have pn := fun W2 (k : Kp No W W2) => newest_any (.slice A st.length c) st W2 (hg.no k) lg.2
  have pst := fun W2 (k : Kp No W W2) => stamped_any (.slice A2 stamp.length c2) stamp W2 (hs.no k) ls
  clear hg hs lg ls
  have HS0 := Lib.hid (show stamp = [] ↔ stamp.length = 0 from ⟨fun h => by rw [h]; rfl, List.eq_nil_of_length_eq_zero⟩)
  simp only [rC]
  go_enter Try.func32, Try.ntmps32
  go_upto_region 1 with (fail)
  rw [← HW1.out]
  clear HW1
  obtain ⟨b3, h3⟩ : ∃ b, b = decide (next = 0 ∧ boots = 0 ∧ longest = 0) := ⟨_, rfl⟩
  have H3 := Lib.hid h3; clear h3
  obtain ⟨b5, h5⟩ : ∃ b, b = decide (id = 0 ∧ stamp = []) := ⟨_, rfl⟩
  have H5 := Lib.hid h5; clear h5
  have z0 : w1.cell? ⟨W.heap.size, 9, none⟩ = some (.int .i64 next) := HB.out.cell 9
  have z1 : w1.cell? ⟨W.heap.size, 10, none⟩ = some (.int .i64 boots) := HB.out.cell 10
  have z2 : w1.cell? ⟨W.heap.size, 11, none⟩ = some (.int .i64 longest) := HB.out.cell 11
  go_cut [3] (fun s wx => s = .bool b3 ∧ w1 = wx)
  case first =>
    clear ps pm pn pst
    by_cases c0 : next = 0
    · by_cases c1 : boots = 0
      · by_cases c2 : longest = 0
        · have HX := Lib.hid (show b3 = true by rw [H3.out, decide_eq_true_iff]; exact ⟨c0, c1, c2⟩)
          subst c0 c1 c2
          go_wp2
          go_meet
          exact ⟨by rw [HX.out], rfl⟩
        · have HX := Lib.hid (show b3 = false by rw [H3.out, decide_eq_false_iff_not]; exact fun h => c2 h.2.2)
          have d : (longest == 0) = false := by rw [beq_eq_false_iff_ne]; exact c2
          subst c0 c1; clear c2
          go_wp2
          go_meet
          exact ⟨by rw [HX.out], rfl⟩
      · have HX := Lib.hid (show b3 = false by rw [H3.out, decide_eq_false_iff_not]; exact fun h => c1 h.2.1)
        have d : (boots == 0) = false := by rw [beq_eq_false_iff_ne]; exact c1
        subst c0; clear c1
        go_wp2
        go_meet
        exact ⟨by rw [HX.out], rfl⟩
    · have HX := Lib.hid (show b3 = false by rw [H3.out, decide_eq_false_iff_not]; exact fun h => c0 h.1)
      have d : (next == 0) = false := by rw [beq_eq_false_iff_ne]; exact c0
      clear c0
      go_wp2
      go_meet
      exact ⟨by rw [HX.out], rfl⟩
  case rest =>
    obtain ⟨rfl, rfl⟩ := hcut
    clear z0 z1 z2
    have z1 : w1.cell? ⟨W.heap.size, 1, none⟩ = some (.int .i64 gid) := HB.out.cell 1
    have z2 : w1.cell? ⟨W.heap.size, 2, none⟩ = some (.int .i64 hol) := HB.out.cell 2
    have z3 : w1.cell? ⟨W.heap.size, 3, none⟩ = some (.string ⟨path.toArray⟩) := HB.out.cell 3
    have z4 : w1.cell? ⟨W.heap.size, 4, none⟩ = some (.int .i64 mode) := HB.out.cell 4
    have z5 : w1.cell? ⟨W.heap.size, 5, none⟩ = some (.slice A st.length c) := HB.out.cell 5
    have z6 : w1.cell? ⟨W.heap.size, 6, none⟩ = some (.int .i64 term) := HB.out.cell 6
    go_wp2_with fail
    refine (ps _ HK1.out).mono ?_
    rintro e w2 ⟨rfl, k2⟩
    have HK2 := Lib.hid (HK1.out.trans k2)
    have HB2 := Lib.hid (HB.out.no k2)
    clear z1 z2 z3 z4 z5 z6 ps HB HK1 k2
    obtain ⟨b4, h4⟩ : ∃ b, b = decide ((⟨gid, hol, path, mode, st, term⟩ : Grt) = {}) := ⟨_, rfl⟩
    rw [← h4]
    have H4 := Lib.hid h4; clear h4
    have z7 : w2.cell? ⟨W.heap.size, 7, none⟩ = some (.int .i64 id) := HB2.out.cell 7
    have z8 : w2.cell? ⟨W.heap.size, 8, none⟩ = some (.slice A2 stamp.length c2) := HB2.out.cell 8
    go_upto_region 3 with (fail)
    go_cut [5] (fun s wx => s = .bool b5 ∧ w2 = wx)
    case first =>
      clear pm pn pst
      by_cases c0 : id = 0
      · by_cases c1 : stamp.length = 0
        · have HX := Lib.hid (show b5 = true by rw [H5.out, decide_eq_true_iff]; exact ⟨c0, HS0.out.2 c1⟩)
          have d : ((stamp.length : Int) == 0) = true := by rw [beq_iff_eq]; omega
          subst c0; clear c1
          go_wp2
          go_meet
          exact ⟨by rw [HX.out], rfl⟩
        · have HX := Lib.hid (show b5 = false by rw [H5.out, decide_eq_false_iff_not]; exact fun h => c1 (HS0.out.1 h.2))
          have d : ((stamp.length : Int) == 0) = false := by rw [beq_eq_false_iff_ne]; omega
          subst c0; clear c1
          go_wp2
          go_meet
          exact ⟨by rw [HX.out], rfl⟩
      · have HX := Lib.hid (show b5 = false by rw [H5.out, decide_eq_false_iff_not]; exact fun h => c0 h.1)
        have d : (id == 0) = false := by rw [beq_eq_false_iff_ne]; exact c0
        clear c0
        go_wp2
        go_meet
        exact ⟨by rw [HX.out], rfl⟩
    case rest =>
      obtain ⟨rfl, rfl⟩ := hcut
      have z0 : w2.cell? ⟨W.heap.size, 0, none⟩ = some (.int .i64 kind) := HB2.out.cell 0
      have z1 : w2.cell? ⟨W.heap.size, 1, none⟩ = some (.int .i64 gid) := HB2.out.cell 1
      have z2 : w2.cell? ⟨W.heap.size, 2, none⟩ = some (.int .i64 hol) := HB2.out.cell 2
      have z3 : w2.cell? ⟨W.heap.size, 3, none⟩ = some (.string ⟨path.toArray⟩) := HB2.out.cell 3
      have z4 : w2.cell? ⟨W.heap.size, 4, none⟩ = some (.int .i64 mode) := HB2.out.cell 4
      have z5 : w2.cell? ⟨W.heap.size, 5, none⟩ = some (.slice A st.length c) := HB2.out.cell 5
      have z6 : w2.cell? ⟨W.heap.size, 6, none⟩ = some (.int .i64 term) := HB2.out.cell 6
      have z9 : w2.cell? ⟨W.heap.size, 9, none⟩ = some (.int .i64 next) := HB2.out.cell 9
      have z10 : w2.cell? ⟨W.heap.size, 10, none⟩ = some (.int .i64 boots) := HB2.out.cell 10
      have z11 : w2.cell? ⟨W.heap.size, 11, none⟩ = some (.int .i64 longest) := HB2.out.cell 11
      have pm := fun W2 (k : Kp No w2 W2) => pm W2 (HK2.out.trans k); have pn := fun W2 (k : Kp No w2 W2) => pn W2 (HK2.out.trans k); have pst := pst _ HK2.out
      by_cases e1 : kind = 1
      case pos =>
        subst e1
        clear HM0 HM2 HM3 HM4 HM5 HM6 HM7
        by_cases c0 : headsB next boots
        · have P0 := Lib.hid c0; have D0 := Lib.hid (decide_eq_true c0); clear c0
          by_cases c1 : longest = 0
          · have P1 := Lib.hid c1; have d1 : (longest == 0) = true := by rw [beq_iff_eq]; exact c1
            clear c1
            cases b4 with
            | true =>
              have P2 := Lib.hid (show (⟨gid, hol, path, mode, st, term⟩ : Grt) = {} from of_decide_eq_true H4.out.symm)
              cases b5 with
              | true =>
                have P3 := Lib.hid (show id = 0 ∧ stamp = [] from of_decide_eq_true H5.out.symm)
                have HX := Lib.hid (show R = true by rw [HR.out, decide_eq_true_iff, HM1.out rfl]; exact ⟨P0.out, P1.out, P2.out, P3.out⟩)
                go_wp2_with (first | (go_at_call 44; refine (heads_any _ _ _).mono ?_; rintro e w3 ⟨rfl, rfl⟩; rw [D0.out]) | fail)
                go_ret
                exact ⟨ret_bool rfl (by rw [HX.out]), HK2.out⟩
              | false =>
                have N3 := Lib.hid (show ¬ (id = 0 ∧ stamp = []) from of_decide_eq_false H5.out.symm)
                have HX := Lib.hid (show R = false by rw [HR.out, decide_eq_false_iff_not, HM1.out rfl]; rintro ⟨q0, q1, q2, q3⟩; exact N3.out q3)
                go_wp2_with (first | (go_at_call 44; refine (heads_any _ _ _).mono ?_; rintro e w3 ⟨rfl, rfl⟩; rw [D0.out]) | fail)
                go_ret
                exact ⟨ret_bool rfl (by rw [HX.out]), HK2.out⟩
            | false =>
              have N2 := Lib.hid (show ¬ ((⟨gid, hol, path, mode, st, term⟩ : Grt) = {}) from of_decide_eq_false H4.out.symm)
              have HX := Lib.hid (show R = false by rw [HR.out, decide_eq_false_iff_not, HM1.out rfl]; rintro ⟨q0, q1, q2, q3⟩; exact N2.out q2)
              go_wp2_with (first | (go_at_call 44; refine (heads_any _ _ _).mono ?_; rintro e w3 ⟨rfl, rfl⟩; rw [D0.out]) | fail)
              go_ret
              exact ⟨ret_bool rfl (by rw [HX.out]), HK2.out⟩
          · have N1 := Lib.hid c1; have d1 : (longest == 0) = false := by rw [beq_eq_false_iff_ne]; exact c1
            clear c1
            have HX := Lib.hid (show R = false by rw [HR.out, decide_eq_false_iff_not, HM1.out rfl]; rintro ⟨q0, q1, q2, q3⟩; exact N1.out q1)
            go_wp2_with (first | (go_at_call 44; refine (heads_any _ _ _).mono ?_; rintro e w3 ⟨rfl, rfl⟩; rw [D0.out]) | fail)
            go_ret
            exact ⟨ret_bool rfl (by rw [HX.out]), HK2.out⟩
        · have N0 := Lib.hid c0; have D0 := Lib.hid (decide_eq_false c0); clear c0
          have HX := Lib.hid (show R = false by rw [HR.out, decide_eq_false_iff_not, HM1.out rfl]; rintro ⟨q0, q1, q2, q3⟩; exact N0.out q0)
          go_wp2_with (first | (go_at_call 44; refine (heads_any _ _ _).mono ?_; rintro e w3 ⟨rfl, rfl⟩; rw [D0.out]) | fail)
          go_ret
          exact ⟨ret_bool rfl (by rw [HX.out]), HK2.out⟩
      by_cases e2 : kind = 2
      case pos =>
        subst e2
        clear HM0 HM1 HM3 HM4 HM5 HM6 HM7
        by_cases c0 : termI longest
        · have P0 := Lib.hid c0; have D0 := Lib.hid (decide_eq_true c0); clear c0
          by_cases c1 : next = 0
          · have P1 := Lib.hid c1; have d1 : (next == 0) = true := by rw [beq_iff_eq]; exact c1
            clear c1
            by_cases c2 : boots = 0
            · have P2 := Lib.hid c2; have d2 : (boots == 0) = true := by rw [beq_iff_eq]; exact c2
              clear c2
              cases b4 with
              | true =>
                have P3 := Lib.hid (show (⟨gid, hol, path, mode, st, term⟩ : Grt) = {} from of_decide_eq_true H4.out.symm)
                cases b5 with
                | true =>
                  have P4 := Lib.hid (show id = 0 ∧ stamp = [] from of_decide_eq_true H5.out.symm)
                  have HX := Lib.hid (show R = true by rw [HR.out, decide_eq_true_iff, HM2.out rfl]; exact ⟨P0.out, P1.out, P2.out, P3.out, P4.out⟩)
                  go_wp2_with (first | (go_at_call 45; refine (tlegal_any _ _).mono ?_; rintro e w3 ⟨rfl, rfl⟩; rw [D0.out]) | fail)
                  go_ret
                  exact ⟨ret_bool rfl (by rw [HX.out]), HK2.out⟩
                | false =>
                  have N4 := Lib.hid (show ¬ (id = 0 ∧ stamp = []) from of_decide_eq_false H5.out.symm)
                  have HX := Lib.hid (show R = false by rw [HR.out, decide_eq_false_iff_not, HM2.out rfl]; rintro ⟨q0, q1, q2, q3, q4⟩; exact N4.out q4)
                  go_wp2_with (first | (go_at_call 45; refine (tlegal_any _ _).mono ?_; rintro e w3 ⟨rfl, rfl⟩; rw [D0.out]) | fail)
                  go_ret
                  exact ⟨ret_bool rfl (by rw [HX.out]), HK2.out⟩
              | false =>
                have N3 := Lib.hid (show ¬ ((⟨gid, hol, path, mode, st, term⟩ : Grt) = {}) from of_decide_eq_false H4.out.symm)
                have HX := Lib.hid (show R = false by rw [HR.out, decide_eq_false_iff_not, HM2.out rfl]; rintro ⟨q0, q1, q2, q3, q4⟩; exact N3.out q3)
                go_wp2_with (first | (go_at_call 45; refine (tlegal_any _ _).mono ?_; rintro e w3 ⟨rfl, rfl⟩; rw [D0.out]) | fail)
                go_ret
                exact ⟨ret_bool rfl (by rw [HX.out]), HK2.out⟩
            · have N2 := Lib.hid c2; have d2 : (boots == 0) = false := by rw [beq_eq_false_iff_ne]; exact c2
              clear c2
              have HX := Lib.hid (show R = false by rw [HR.out, decide_eq_false_iff_not, HM2.out rfl]; rintro ⟨q0, q1, q2, q3, q4⟩; exact N2.out q2)
              go_wp2_with (first | (go_at_call 45; refine (tlegal_any _ _).mono ?_; rintro e w3 ⟨rfl, rfl⟩; rw [D0.out]) | fail)
              go_ret
              exact ⟨ret_bool rfl (by rw [HX.out]), HK2.out⟩
          · have N1 := Lib.hid c1; have d1 : (next == 0) = false := by rw [beq_eq_false_iff_ne]; exact c1
            clear c1
            have HX := Lib.hid (show R = false by rw [HR.out, decide_eq_false_iff_not, HM2.out rfl]; rintro ⟨q0, q1, q2, q3, q4⟩; exact N1.out q1)
            go_wp2_with (first | (go_at_call 45; refine (tlegal_any _ _).mono ?_; rintro e w3 ⟨rfl, rfl⟩; rw [D0.out]) | fail)
            go_ret
            exact ⟨ret_bool rfl (by rw [HX.out]), HK2.out⟩
        · have N0 := Lib.hid c0; have D0 := Lib.hid (decide_eq_false c0); clear c0
          have HX := Lib.hid (show R = false by rw [HR.out, decide_eq_false_iff_not, HM2.out rfl]; rintro ⟨q0, q1, q2, q3, q4⟩; exact N0.out q0)
          go_wp2_with (first | (go_at_call 45; refine (tlegal_any _ _).mono ?_; rintro e w3 ⟨rfl, rfl⟩; rw [D0.out]) | fail)
          go_ret
          exact ⟨ret_bool rfl (by rw [HX.out]), HK2.out⟩
      by_cases e3 : kind = 3
      case pos =>
        subst e3
        clear HM0 HM1 HM2 HM4 HM5 HM6 HM7
        by_cases c0 : mayG ⟨gid, hol, path, mode, st, term⟩
        · have P0 := Lib.hid c0; have D0 := Lib.hid (decide_eq_true c0); clear c0
          cases b3 with
          | true =>
            have P1 := Lib.hid (show next = 0 ∧ boots = 0 ∧ longest = 0 from of_decide_eq_true H3.out.symm)
            cases b5 with
            | true =>
              have P2 := Lib.hid (show id = 0 ∧ stamp = [] from of_decide_eq_true H5.out.symm)
              have HX := Lib.hid (show R = true by rw [HR.out, decide_eq_true_iff, HM3.out rfl]; exact ⟨P0.out, P1.out, P2.out⟩)
              go_wp2_with (first | (go_at_call 46; refine (pm _ (by with_reducible repeat (first | assumption | exact Kp.refl _ _ | refine Kp.drew ?_ | refine Kp.drewN ?_ _))).mono ?_; rintro e w3 ⟨rfl, k3⟩; rw [D0.out]) | fail)
              go_ret
              exact ⟨ret_bool rfl (by rw [HX.out]), (HK2.out.trans k3)⟩
            | false =>
              have N2 := Lib.hid (show ¬ (id = 0 ∧ stamp = []) from of_decide_eq_false H5.out.symm)
              have HX := Lib.hid (show R = false by rw [HR.out, decide_eq_false_iff_not, HM3.out rfl]; rintro ⟨q0, q1, q2⟩; exact N2.out q2)
              go_wp2_with (first | (go_at_call 46; refine (pm _ (by with_reducible repeat (first | assumption | exact Kp.refl _ _ | refine Kp.drew ?_ | refine Kp.drewN ?_ _))).mono ?_; rintro e w3 ⟨rfl, k3⟩; rw [D0.out]) | fail)
              go_ret
              exact ⟨ret_bool rfl (by rw [HX.out]), (HK2.out.trans k3)⟩
          | false =>
            have N1 := Lib.hid (show ¬ (next = 0 ∧ boots = 0 ∧ longest = 0) from of_decide_eq_false H3.out.symm)
            have HX := Lib.hid (show R = false by rw [HR.out, decide_eq_false_iff_not, HM3.out rfl]; rintro ⟨q0, q1, q2⟩; exact N1.out q1)
            go_wp2_with (first | (go_at_call 46; refine (pm _ (by with_reducible repeat (first | assumption | exact Kp.refl _ _ | refine Kp.drew ?_ | refine Kp.drewN ?_ _))).mono ?_; rintro e w3 ⟨rfl, k3⟩; rw [D0.out]) | fail)
            go_ret
            exact ⟨ret_bool rfl (by rw [HX.out]), (HK2.out.trans k3)⟩
        · have N0 := Lib.hid c0; have D0 := Lib.hid (decide_eq_false c0); clear c0
          have HX := Lib.hid (show R = false by rw [HR.out, decide_eq_false_iff_not, HM3.out rfl]; rintro ⟨q0, q1, q2⟩; exact N0.out q0)
          go_wp2_with (first | (go_at_call 46; refine (pm _ (by with_reducible repeat (first | assumption | exact Kp.refl _ _ | refine Kp.drew ?_ | refine Kp.drewN ?_ _))).mono ?_; rintro e w3 ⟨rfl, k3⟩; rw [D0.out]) | fail)
          go_ret
          exact ⟨ret_bool rfl (by rw [HX.out]), (HK2.out.trans k3)⟩
      by_cases e4 : kind = 4
      case pos =>
        subst e4
        clear HM0 HM1 HM2 HM3 HM5 HM6 HM7
        by_cases c0 : newestS st = gid
        · have P0 := Lib.hid c0; have d0 : (newestS st != gid) = false := by rw [bne_eq_false_iff_eq]; exact c0
          clear c0; generalize newestS st = nw at *
          by_cases c1 : mayG ⟨gid, hol, path, mode, st, term⟩
          · have P1 := Lib.hid c1; have D1 := Lib.hid (decide_eq_true c1); clear c1
            cases b3 with
            | true =>
              have P2 := Lib.hid (show next = 0 ∧ boots = 0 ∧ longest = 0 from of_decide_eq_true H3.out.symm)
              cases b5 with
              | true =>
                have P3 := Lib.hid (show id = 0 ∧ stamp = [] from of_decide_eq_true H5.out.symm)
                have HX := Lib.hid (show R = true by rw [HR.out, decide_eq_true_iff, HM4.out rfl]; exact ⟨P0.out, P1.out, P2.out, P3.out⟩)
                go_upto_region 14 with (fail)
                go_quiet (first | (go_at_call 47; exact Calls.quiet_of_same ((pn _ (by with_reducible repeat (first | assumption | exact Kp.refl _ _ | refine Kp.drew ?_ | refine Kp.drewN ?_ _))).mono fun _ _ ⟨h1, h2⟩ => ⟨h1, h2.symm⟩)) | fail)
                go_wp2_with (first | (go_at_call 46; refine (pm _ (by with_reducible repeat (first | assumption | exact Kp.refl _ _ | refine Kp.drew ?_ | refine Kp.drewN ?_ _))).mono ?_; rintro e w3 ⟨rfl, k3⟩; rw [D1.out]) | fail)
                go_ret
                exact ⟨ret_bool rfl (by rw [HX.out]), ((HK2.out.drewN _).trans k3)⟩
              | false =>
                have N3 := Lib.hid (show ¬ (id = 0 ∧ stamp = []) from of_decide_eq_false H5.out.symm)
                have HX := Lib.hid (show R = false by rw [HR.out, decide_eq_false_iff_not, HM4.out rfl]; rintro ⟨q0, q1, q2, q3⟩; exact N3.out q3)
                go_upto_region 14 with (fail)
                go_quiet (first | (go_at_call 47; exact Calls.quiet_of_same ((pn _ (by with_reducible repeat (first | assumption | exact Kp.refl _ _ | refine Kp.drew ?_ | refine Kp.drewN ?_ _))).mono fun _ _ ⟨h1, h2⟩ => ⟨h1, h2.symm⟩)) | fail)
                go_wp2_with (first | (go_at_call 46; refine (pm _ (by with_reducible repeat (first | assumption | exact Kp.refl _ _ | refine Kp.drew ?_ | refine Kp.drewN ?_ _))).mono ?_; rintro e w3 ⟨rfl, k3⟩; rw [D1.out]) | fail)
                go_ret
                exact ⟨ret_bool rfl (by rw [HX.out]), ((HK2.out.drewN _).trans k3)⟩
            | false =>
              have N2 := Lib.hid (show ¬ (next = 0 ∧ boots = 0 ∧ longest = 0) from of_decide_eq_false H3.out.symm)
              have HX := Lib.hid (show R = false by rw [HR.out, decide_eq_false_iff_not, HM4.out rfl]; rintro ⟨q0, q1, q2, q3⟩; exact N2.out q2)
              go_upto_region 14 with (fail)
              go_quiet (first | (go_at_call 47; exact Calls.quiet_of_same ((pn _ (by with_reducible repeat (first | assumption | exact Kp.refl _ _ | refine Kp.drew ?_ | refine Kp.drewN ?_ _))).mono fun _ _ ⟨h1, h2⟩ => ⟨h1, h2.symm⟩)) | fail)
              go_wp2_with (first | (go_at_call 46; refine (pm _ (by with_reducible repeat (first | assumption | exact Kp.refl _ _ | refine Kp.drew ?_ | refine Kp.drewN ?_ _))).mono ?_; rintro e w3 ⟨rfl, k3⟩; rw [D1.out]) | fail)
              go_ret
              exact ⟨ret_bool rfl (by rw [HX.out]), ((HK2.out.drewN _).trans k3)⟩
          · have N1 := Lib.hid c1; have D1 := Lib.hid (decide_eq_false c1); clear c1
            have HX := Lib.hid (show R = false by rw [HR.out, decide_eq_false_iff_not, HM4.out rfl]; rintro ⟨q0, q1, q2, q3⟩; exact N1.out q1)
            go_upto_region 14 with (fail)
            go_quiet (first | (go_at_call 47; exact Calls.quiet_of_same ((pn _ (by with_reducible repeat (first | assumption | exact Kp.refl _ _ | refine Kp.drew ?_ | refine Kp.drewN ?_ _))).mono fun _ _ ⟨h1, h2⟩ => ⟨h1, h2.symm⟩)) | fail)
            go_wp2_with (first | (go_at_call 46; refine (pm _ (by with_reducible repeat (first | assumption | exact Kp.refl _ _ | refine Kp.drew ?_ | refine Kp.drewN ?_ _))).mono ?_; rintro e w3 ⟨rfl, k3⟩; rw [D1.out]) | fail)
            go_ret
            exact ⟨ret_bool rfl (by rw [HX.out]), ((HK2.out.drewN _).trans k3)⟩
        · have N0 := Lib.hid c0; have d0 : (newestS st != gid) = true := by rw [bne_iff_ne]; exact c0
          clear c0; generalize newestS st = nw at *
          have HX := Lib.hid (show R = false by rw [HR.out, decide_eq_false_iff_not, HM4.out rfl]; rintro ⟨q0, q1, q2, q3⟩; exact N0.out q0)
          go_upto_region 14 with (fail)
          go_quiet (first | (go_at_call 47; exact Calls.quiet_of_same ((pn _ (by with_reducible repeat (first | assumption | exact Kp.refl _ _ | refine Kp.drew ?_ | refine Kp.drewN ?_ _))).mono fun _ _ ⟨h1, h2⟩ => ⟨h1, h2.symm⟩)) | fail)
          go_wp2
          go_ret
          exact ⟨ret_bool rfl (by rw [HX.out]), (HK2.out.drewN _)⟩
      by_cases e5 : kind = 5
      case pos =>
        subst e5
        clear HM0 HM1 HM2 HM3 HM4 HM6 HM7
        by_cases c0 : cntI id
        · have P0 := Lib.hid c0; have D0 := Lib.hid (decide_eq_true c0); clear c0
          by_cases c1 : validS stamp = true ∧ stamp ≠ []
          · have P1 := Lib.hid c1; have D1 := Lib.hid (decide_eq_true c1); clear c1
            cases b3 with
            | true =>
              have P2 := Lib.hid (show next = 0 ∧ boots = 0 ∧ longest = 0 from of_decide_eq_true H3.out.symm)
              cases b4 with
              | true =>
                have P3 := Lib.hid (show (⟨gid, hol, path, mode, st, term⟩ : Grt) = {} from of_decide_eq_true H4.out.symm)
                have HX := Lib.hid (show R = true by rw [HR.out, decide_eq_true_iff, HM5.out rfl]; exact ⟨P0.out, P1.out, P2.out, P3.out⟩)
                go_wp2_with (first | (go_at_call 69; refine (bcounter_any _ _).mono ?_; rintro e w3 ⟨rfl, rfl⟩; rw [D0.out]) | (go_at_call 70; refine (pst).mono ?_; rintro e w3 ⟨rfl, rfl⟩; rw [D1.out]) | fail)
                go_ret
                exact ⟨ret_bool rfl (by rw [HX.out]), HK2.out⟩
              | false =>
                have N3 := Lib.hid (show ¬ ((⟨gid, hol, path, mode, st, term⟩ : Grt) = {}) from of_decide_eq_false H4.out.symm)
                have HX := Lib.hid (show R = false by rw [HR.out, decide_eq_false_iff_not, HM5.out rfl]; rintro ⟨q0, q1, q2, q3⟩; exact N3.out q3)
                go_wp2_with (first | (go_at_call 69; refine (bcounter_any _ _).mono ?_; rintro e w3 ⟨rfl, rfl⟩; rw [D0.out]) | (go_at_call 70; refine (pst).mono ?_; rintro e w3 ⟨rfl, rfl⟩; rw [D1.out]) | fail)
                go_ret
                exact ⟨ret_bool rfl (by rw [HX.out]), HK2.out⟩
            | false =>
              have N2 := Lib.hid (show ¬ (next = 0 ∧ boots = 0 ∧ longest = 0) from of_decide_eq_false H3.out.symm)
              have HX := Lib.hid (show R = false by rw [HR.out, decide_eq_false_iff_not, HM5.out rfl]; rintro ⟨q0, q1, q2, q3⟩; exact N2.out q2)
              go_wp2_with (first | (go_at_call 69; refine (bcounter_any _ _).mono ?_; rintro e w3 ⟨rfl, rfl⟩; rw [D0.out]) | (go_at_call 70; refine (pst).mono ?_; rintro e w3 ⟨rfl, rfl⟩; rw [D1.out]) | fail)
              go_ret
              exact ⟨ret_bool rfl (by rw [HX.out]), HK2.out⟩
          · have N1 := Lib.hid c1; have D1 := Lib.hid (decide_eq_false c1); clear c1
            have HX := Lib.hid (show R = false by rw [HR.out, decide_eq_false_iff_not, HM5.out rfl]; rintro ⟨q0, q1, q2, q3⟩; exact N1.out q1)
            go_wp2_with (first | (go_at_call 69; refine (bcounter_any _ _).mono ?_; rintro e w3 ⟨rfl, rfl⟩; rw [D0.out]) | (go_at_call 70; refine (pst).mono ?_; rintro e w3 ⟨rfl, rfl⟩; rw [D1.out]) | fail)
            go_ret
            exact ⟨ret_bool rfl (by rw [HX.out]), HK2.out⟩
        · have N0 := Lib.hid c0; have D0 := Lib.hid (decide_eq_false c0); clear c0
          have HX := Lib.hid (show R = false by rw [HR.out, decide_eq_false_iff_not, HM5.out rfl]; rintro ⟨q0, q1, q2, q3⟩; exact N0.out q0)
          go_wp2_with (first | (go_at_call 69; refine (bcounter_any _ _).mono ?_; rintro e w3 ⟨rfl, rfl⟩; rw [D0.out]) | fail)
          go_ret
          exact ⟨ret_bool rfl (by rw [HX.out]), HK2.out⟩
      by_cases e6 : kind = 6
      case pos =>
        subst e6
        clear HM0 HM1 HM2 HM3 HM4 HM5 HM7
        by_cases c0 : cntI id
        · have P0 := Lib.hid c0; have D0 := Lib.hid (decide_eq_true c0); clear c0
          by_cases c1 : stamp.length = 0
          · have P1 := Lib.hid (HS0.out.2 c1); have d1 : ((stamp.length : Int) == 0) = true := by rw [beq_iff_eq]; omega
            clear c1
            cases b3 with
            | true =>
              have P2 := Lib.hid (show next = 0 ∧ boots = 0 ∧ longest = 0 from of_decide_eq_true H3.out.symm)
              cases b4 with
              | true =>
                have P3 := Lib.hid (show (⟨gid, hol, path, mode, st, term⟩ : Grt) = {} from of_decide_eq_true H4.out.symm)
                have HX := Lib.hid (show R = true by rw [HR.out, decide_eq_true_iff, HM6.out rfl]; exact ⟨P0.out, P1.out, P2.out, P3.out⟩)
                go_wp2_with (first | (go_at_call 69; refine (bcounter_any _ _).mono ?_; rintro e w3 ⟨rfl, rfl⟩; rw [D0.out]) | fail)
                go_ret
                exact ⟨ret_bool rfl (by rw [HX.out]), HK2.out⟩
              | false =>
                have N3 := Lib.hid (show ¬ ((⟨gid, hol, path, mode, st, term⟩ : Grt) = {}) from of_decide_eq_false H4.out.symm)
                have HX := Lib.hid (show R = false by rw [HR.out, decide_eq_false_iff_not, HM6.out rfl]; rintro ⟨q0, q1, q2, q3⟩; exact N3.out q3)
                go_wp2_with (first | (go_at_call 69; refine (bcounter_any _ _).mono ?_; rintro e w3 ⟨rfl, rfl⟩; rw [D0.out]) | fail)
                go_ret
                exact ⟨ret_bool rfl (by rw [HX.out]), HK2.out⟩
            | false =>
              have N2 := Lib.hid (show ¬ (next = 0 ∧ boots = 0 ∧ longest = 0) from of_decide_eq_false H3.out.symm)
              have HX := Lib.hid (show R = false by rw [HR.out, decide_eq_false_iff_not, HM6.out rfl]; rintro ⟨q0, q1, q2, q3⟩; exact N2.out q2)
              go_wp2_with (first | (go_at_call 69; refine (bcounter_any _ _).mono ?_; rintro e w3 ⟨rfl, rfl⟩; rw [D0.out]) | fail)
              go_ret
              exact ⟨ret_bool rfl (by rw [HX.out]), HK2.out⟩
          · have N1 := Lib.hid c1; have d1 : ((stamp.length : Int) == 0) = false := by rw [beq_eq_false_iff_ne]; omega
            clear c1
            have HX := Lib.hid (show R = false by rw [HR.out, decide_eq_false_iff_not, HM6.out rfl]; rintro ⟨q0, q1, q2, q3⟩; exact N1.out (HS0.out.1 q1))
            go_wp2_with (first | (go_at_call 69; refine (bcounter_any _ _).mono ?_; rintro e w3 ⟨rfl, rfl⟩; rw [D0.out]) | fail)
            go_ret
            exact ⟨ret_bool rfl (by rw [HX.out]), HK2.out⟩
        · have N0 := Lib.hid c0; have D0 := Lib.hid (decide_eq_false c0); clear c0
          have HX := Lib.hid (show R = false by rw [HR.out, decide_eq_false_iff_not, HM6.out rfl]; rintro ⟨q0, q1, q2, q3⟩; exact N0.out q0)
          go_wp2_with (first | (go_at_call 69; refine (bcounter_any _ _).mono ?_; rintro e w3 ⟨rfl, rfl⟩; rw [D0.out]) | fail)
          go_ret
          exact ⟨ret_bool rfl (by rw [HX.out]), HK2.out⟩
      by_cases e7 : kind = 7
      case pos =>
        subst e7
        clear HM0 HM1 HM2 HM3 HM4 HM5 HM6
        cases b3 with
        | true =>
          have P0 := Lib.hid (show next = 0 ∧ boots = 0 ∧ longest = 0 from of_decide_eq_true H3.out.symm)
          cases b4 with
          | true =>
            have P1 := Lib.hid (show (⟨gid, hol, path, mode, st, term⟩ : Grt) = {} from of_decide_eq_true H4.out.symm)
            cases b5 with
            | true =>
              have P2 := Lib.hid (show id = 0 ∧ stamp = [] from of_decide_eq_true H5.out.symm)
              have HX := Lib.hid (show R = true by rw [HR.out, decide_eq_true_iff, HM7.out rfl]; exact ⟨P0.out, P1.out, P2.out⟩)
              go_wp2
              go_ret
              exact ⟨ret_bool rfl (by rw [HX.out]), HK2.out⟩
            | false =>
              have N2 := Lib.hid (show ¬ (id = 0 ∧ stamp = []) from of_decide_eq_false H5.out.symm)
              have HX := Lib.hid (show R = false by rw [HR.out, decide_eq_false_iff_not, HM7.out rfl]; rintro ⟨q0, q1, q2⟩; exact N2.out q2)
              go_wp2
              go_ret
              exact ⟨ret_bool rfl (by rw [HX.out]), HK2.out⟩
          | false =>
            have N1 := Lib.hid (show ¬ ((⟨gid, hol, path, mode, st, term⟩ : Grt) = {}) from of_decide_eq_false H4.out.symm)
            have HX := Lib.hid (show R = false by rw [HR.out, decide_eq_false_iff_not, HM7.out rfl]; rintro ⟨q0, q1, q2⟩; exact N1.out q1)
            go_wp2
            go_ret
            exact ⟨ret_bool rfl (by rw [HX.out]), HK2.out⟩
        | false =>
          have N0 := Lib.hid (show ¬ (next = 0 ∧ boots = 0 ∧ longest = 0) from of_decide_eq_false H3.out.symm)
          have HX := Lib.hid (show R = false by rw [HR.out, decide_eq_false_iff_not, HM7.out rfl]; rintro ⟨q0, q1, q2⟩; exact N0.out q0)
          go_wp2
          go_ret
          exact ⟨ret_bool rfl (by rw [HX.out]), HK2.out⟩
      have HX := Lib.hid (show R = false by rw [HR.out, decide_eq_false_iff_not]; exact HM0.out (by show ¬ (kind = 1 ∨ kind = 2 ∨ kind = 3 ∨ kind = 4 ∨ kind = 5 ∨ kind = 6 ∨ kind = 7); omega))
      have f1 : (kind == 1) = false := by rw [beq_eq_false_iff_ne]; exact e1
      have f2 : (kind == 2) = false := by rw [beq_eq_false_iff_ne]; exact e2
      have f3 : (kind == 3) = false := by rw [beq_eq_false_iff_ne]; exact e3
      have f4 : (kind == 4) = false := by rw [beq_eq_false_iff_ne]; exact e4
      have f5 : (kind == 5) = false := by rw [beq_eq_false_iff_ne]; exact e5
      have f6 : (kind == 6) = false := by rw [beq_eq_false_iff_ne]; exact e6
      have f7 : (kind == 7) = false := by rw [beq_eq_false_iff_ne]; exact e7
      clear e1 e2 e3 e4 e5 e6 e7 HM0 HM1 HM2 HM3 HM4 HM5 HM6 HM7
      go_wp2
      go_ret
      exact ⟨ret_bool rfl (by rw [HX.out]), HK2.out⟩
end Go.Proofs.Ytifdceofglocdaa
