/- The document's replies by contract. No condition beyond what each theorem states. -/
import Derived.Test.YtaipbikbapjmjaaGreatE5
namespace Go.Proofs.YtaipbikbapjmjaaGreat
open Go Go.RowKit Go.PlainAid

set_option maxRecDepth 100000 in
set_option maxHeartbeats 8000000 in
theorem rreplies_any (m : Msg) (A : Option Addr) (c : Nat) (W : World) (hs : ArgInts W (.slice A m.stamp.length c) m.stamp) (hl : m.stamp.length ≤ maxLen) :
    Calls Tryz.prog 43 #[.agg (mcells m (.slice A m.stamp.length c)).toArray] W fun e w' => e = .returned (.bool (decide (repP m))) ∧ Kp No W w' := by
  have HK0 := Lib.hid (show Kp No W (W.alloc (.cells (mcells m (.slice A m.stamp.length c)).toArray 32)) from (Kp.refl No W).alloc _)
  have HS := Lib.hid (rstamp_any _ m.stamp _ (hs.no HK0.out) hl)
  have HD := Lib.hid (show repP m ↔ (cntI m.boot ∧ cntI m.seq ∧ 0 ≤ m.code ∧ m.code ≤ 99 ∧ (m.code = 0 → cntI m.id ∧ stampI m.stamp ∧ (m.term = 0 ∧ m.stamp = [] ∨ termI m.term ∧ m.stamp ≠ []))) from Iff.rfl)
  clear hs hl
  unfold mcells at HS ⊢
  go_enter Tryz.func43, Tryz.ntmps43
  have HE1 : Hid (cntI m.boot ∨ ¬ cntI m.boot) := Lib.hid (Decidable.em _)
  rcases HE1.out with h1 | h1
  rotate_left
  · have d1 : decide (cntI m.boot) = false := by simpa using h1
    have H1 := Lib.hid h1; clear h1
    have HX := Lib.hid (show decide (repP m) = false by rw [decide_eq_false_iff_not, HD.out]; exact fun h => H1.out h.1)
    go_wp2_with ((first | (go_at_call 44; refine (rcounter_any _ _).mono ?_; rintro e w' ⟨rfl, rfl⟩)); first | rw [d1] | skip)
    go_ret
    exact ⟨ret_bool rfl (by first | exact HX.out.symm | (rw [HX.out]; exact dgn)), HK0.out⟩
  have d1 : decide (cntI m.boot) = true := by simpa using h1
  have H1 := Lib.hid h1; clear h1
  have HE2 : Hid (cntI m.seq ∨ ¬ cntI m.seq) := Lib.hid (Decidable.em _)
  rcases HE2.out with h2 | h2
  rotate_left
  · have d2 : decide (cntI m.seq) = false := by simpa using h2
    have H2 := Lib.hid h2; clear h2
    have HX := Lib.hid (show decide (repP m) = false by rw [decide_eq_false_iff_not, HD.out]; exact fun h => H2.out h.2.1)
    go_wp2_with ((first | (go_at_call 44; refine (rcounter_any _ _).mono ?_; rintro e w' ⟨rfl, rfl⟩)); first | rw [d1] | rw [d2] | skip)
    go_ret
    exact ⟨ret_bool rfl (by first | exact HX.out.symm | (rw [HX.out]; exact dgn)), HK0.out⟩
  have d2 : decide (cntI m.seq) = true := by simpa using h2
  have H2 := Lib.hid h2; clear h2
  by_cases h3 : m.code < 0
  · have d3 : decide (m.code < 0) = true := by simpa using h3
    have HX := Lib.hid (show decide (repP m) = false by rw [decide_eq_false_iff_not, HD.out]; intro h; omega)
    go_wp2_with ((first | (go_at_call 44; refine (rcounter_any _ _).mono ?_; rintro e w' ⟨rfl, rfl⟩)); first | rw [d1] | rw [d2] | skip)
    go_ret
    exact ⟨ret_bool rfl (by first | exact HX.out.symm | (rw [HX.out]; exact dgn)), HK0.out⟩
  have d3 : decide (m.code < 0) = false := by simpa using h3
  by_cases h4 : 99 < m.code
  · have d4 : decide (99 < m.code) = true := by simpa using h4
    have HX := Lib.hid (show decide (repP m) = false by rw [decide_eq_false_iff_not, HD.out]; intro h; omega)
    go_wp2_with ((first | (go_at_call 44; refine (rcounter_any _ _).mono ?_; rintro e w' ⟨rfl, rfl⟩)); first | rw [d1] | rw [d2] | skip)
    go_ret
    exact ⟨ret_bool rfl (by first | exact HX.out.symm | (rw [HX.out]; exact dgn)), HK0.out⟩
  have d4 : decide (99 < m.code) = false := by simpa using h4
  have HL := Lib.hid (show 0 ≤ m.code ∧ m.code ≤ 99 by omega)
  by_cases c0 : m.code = 0
  rotate_left
  · have dc : (m.code != 0) = true := by rw [bne_iff_ne]; exact c0
    have HC := Lib.hid c0; clear c0
    have HX := Lib.hid (show decide (repP m) = true by rw [decide_eq_true_iff, HD.out]; exact ⟨H1.out, H2.out, HL.out.1, HL.out.2, fun h => absurd h HC.out⟩)
    go_wp2_with ((first | (go_at_call 44; refine (rcounter_any _ _).mono ?_; rintro e w' ⟨rfl, rfl⟩)); first | rw [d1] | rw [d2] | skip)
    go_ret
    exact ⟨ret_bool rfl (by first | exact HX.out.symm | (rw [HX.out]; exact dgn)), HK0.out⟩
  have dc : (m.code != 0) = false := by simpa using c0
  have HC := Lib.hid c0; clear c0
  have HT : Hid ((m.term = 0 ∧ ¬ termI m.term) ∨ (m.term ≠ 0 ∧ termI m.term) ∨ (m.term ≠ 0 ∧ ¬ termI m.term)) := Lib.hid (by
    by_cases t0 : m.term = 0
    · exact .inl ⟨t0, by unfold termI; omega⟩
    · by_cases t1 : termI m.term
      · exact .inr (.inl ⟨t0, t1⟩)
      · exact .inr (.inr ⟨t0, t1⟩))
  have HE : Hid (m.stamp = [] ∨ m.stamp ≠ []) := Lib.hid (Decidable.em _)
  have HI : Hid (cntI m.id ∨ ¬ cntI m.id) := Lib.hid (Decidable.em _)
  have HV : Hid (stampI m.stamp ∨ ¬ stampI m.stamp) := Lib.hid (Decidable.em _)
  rcases HT.out with ⟨t0, t1⟩ | ⟨t0, t1⟩ | ⟨t0, t1⟩
  · have dz : (m.term == 0) = true := by simpa using t0
    have dl : decide (termI m.term) = false := by simpa using t1
    have T0 := Lib.hid t0; have T1 := Lib.hid t1; clear t0 t1
    rcases HE.out with e0 | e0
    · have e1 : m.stamp.length = 0 := by rw [e0]; rfl
      have de : ((m.stamp.length : Int) == 0) = true := by rw [e1]; rfl
      have dg : decide ((0 : Int) < (m.stamp.length : Int)) = false := by rw [decide_eq_false_iff_not]; omega
      have dgn : decide (0 < m.stamp.length) = false := by rw [decide_eq_false_iff_not]; omega
      have E0 := Lib.hid e0; clear e0 e1
      rcases HI.out with i0 | i0
      rotate_left
      · have di : decide (cntI m.id) = false := by simpa using i0
        have I0 := Lib.hid i0; clear i0
        have HX := Lib.hid (show decide (repP m) = false by rw [decide_eq_false_iff_not, HD.out]; exact fun h => I0.out (h.2.2.2.2 HC.out).1)
        go_wp2_with ((first | (go_at_call 44; refine (rcounter_any _ _).mono ?_; rintro e w' ⟨rfl, rfl⟩) | (go_at_call 78; refine (rlegal_any _ _).mono ?_; rintro e w' ⟨rfl, rfl⟩) | (go_at_call 41; refine HS.out.mono ?_; rintro e w' ⟨rfl, rfl⟩)); first | rw [d1] | rw [d2] | rw [di] | rw [dl] | skip)
        go_ret
        exact ⟨ret_bool rfl (by first | exact HX.out.symm | (rw [HX.out]; exact dgn)), HK0.out⟩
      have di : decide (cntI m.id) = true := by simpa using i0
      have I0 := Lib.hid i0; clear i0
      rcases HV.out with s0 | s0
      rotate_left
      · have ds : decide (stampI m.stamp) = false := by simpa using s0
        have S0 := Lib.hid s0; clear s0
        have HX := Lib.hid (show decide (repP m) = false by rw [decide_eq_false_iff_not, HD.out]; exact fun h => S0.out (h.2.2.2.2 HC.out).2.1)
        go_wp2_with ((first | (go_at_call 44; refine (rcounter_any _ _).mono ?_; rintro e w' ⟨rfl, rfl⟩) | (go_at_call 78; refine (rlegal_any _ _).mono ?_; rintro e w' ⟨rfl, rfl⟩) | (go_at_call 41; refine HS.out.mono ?_; rintro e w' ⟨rfl, rfl⟩)); first | rw [d1] | rw [d2] | rw [di] | rw [ds] | rw [dl] | skip)
        go_ret
        exact ⟨ret_bool rfl (by first | exact HX.out.symm | (rw [HX.out]; exact dgn)), HK0.out⟩
      have ds : decide (stampI m.stamp) = true := by simpa using s0
      have S0 := Lib.hid s0; clear s0
      have HX := Lib.hid (show decide (repP m) = true by rw [decide_eq_true_iff, HD.out]; exact ⟨H1.out, H2.out, HL.out.1, HL.out.2, fun _ => ⟨I0.out, S0.out, .inl ⟨T0.out, E0.out⟩⟩⟩)
      go_wp2_with ((first | (go_at_call 44; refine (rcounter_any _ _).mono ?_; rintro e w' ⟨rfl, rfl⟩) | (go_at_call 78; refine (rlegal_any _ _).mono ?_; rintro e w' ⟨rfl, rfl⟩) | (go_at_call 41; refine HS.out.mono ?_; rintro e w' ⟨rfl, rfl⟩)); first | rw [d1] | rw [d2] | rw [di] | rw [ds] | rw [dl] | skip)
      go_ret
      exact ⟨ret_bool rfl (by first | exact HX.out.symm | (rw [HX.out]; exact dgn)), HK0.out⟩
    · have e1 : m.stamp.length ≠ 0 := fun h => e0 (List.eq_nil_of_length_eq_zero h)
      have de : ((m.stamp.length : Int) == 0) = false := by rw [beq_eq_false_iff_ne]; omega
      have dg : decide ((0 : Int) < (m.stamp.length : Int)) = true := by rw [decide_eq_true_iff]; omega
      have dgn : decide (0 < m.stamp.length) = true := by rw [decide_eq_true_iff]; omega
      have E0 := Lib.hid e0; clear e0 e1
      rcases HI.out with i0 | i0
      rotate_left
      · have di : decide (cntI m.id) = false := by simpa using i0
        have I0 := Lib.hid i0; clear i0
        have HX := Lib.hid (show decide (repP m) = false by rw [decide_eq_false_iff_not, HD.out]; exact fun h => I0.out (h.2.2.2.2 HC.out).1)
        go_wp2_with ((first | (go_at_call 44; refine (rcounter_any _ _).mono ?_; rintro e w' ⟨rfl, rfl⟩) | (go_at_call 78; refine (rlegal_any _ _).mono ?_; rintro e w' ⟨rfl, rfl⟩) | (go_at_call 41; refine HS.out.mono ?_; rintro e w' ⟨rfl, rfl⟩)); first | rw [d1] | rw [d2] | rw [di] | rw [dl] | skip)
        go_ret
        exact ⟨ret_bool rfl (by first | exact HX.out.symm | (rw [HX.out]; exact dgn)), HK0.out⟩
      have di : decide (cntI m.id) = true := by simpa using i0
      have I0 := Lib.hid i0; clear i0
      rcases HV.out with s0 | s0
      rotate_left
      · have ds : decide (stampI m.stamp) = false := by simpa using s0
        have S0 := Lib.hid s0; clear s0
        have HX := Lib.hid (show decide (repP m) = false by rw [decide_eq_false_iff_not, HD.out]; exact fun h => S0.out (h.2.2.2.2 HC.out).2.1)
        go_wp2_with ((first | (go_at_call 44; refine (rcounter_any _ _).mono ?_; rintro e w' ⟨rfl, rfl⟩) | (go_at_call 78; refine (rlegal_any _ _).mono ?_; rintro e w' ⟨rfl, rfl⟩) | (go_at_call 41; refine HS.out.mono ?_; rintro e w' ⟨rfl, rfl⟩)); first | rw [d1] | rw [d2] | rw [di] | rw [ds] | rw [dl] | skip)
        go_ret
        exact ⟨ret_bool rfl (by first | exact HX.out.symm | (rw [HX.out]; exact dgn)), HK0.out⟩
      have ds : decide (stampI m.stamp) = true := by simpa using s0
      have S0 := Lib.hid s0; clear s0
      have HX := Lib.hid (show decide (repP m) = false by rw [decide_eq_false_iff_not, HD.out]; intro h; rcases (h.2.2.2.2 HC.out).2.2 with ⟨_, q⟩ | ⟨q, _⟩; exact E0.out q; exact T1.out q)
      go_wp2_with ((first | (go_at_call 44; refine (rcounter_any _ _).mono ?_; rintro e w' ⟨rfl, rfl⟩) | (go_at_call 78; refine (rlegal_any _ _).mono ?_; rintro e w' ⟨rfl, rfl⟩) | (go_at_call 41; refine HS.out.mono ?_; rintro e w' ⟨rfl, rfl⟩)); first | rw [d1] | rw [d2] | rw [di] | rw [ds] | rw [dl] | skip)
      go_ret
      exact ⟨ret_bool rfl (by first | exact HX.out.symm | (rw [HX.out]; exact dgn)), HK0.out⟩
  · have dz : (m.term == 0) = false := by rw [beq_eq_false_iff_ne]; exact t0
    have dl : decide (termI m.term) = true := by simpa using t1
    have T0 := Lib.hid t0; have T1 := Lib.hid t1; clear t0 t1
    rcases HE.out with e0 | e0
    · have e1 : m.stamp.length = 0 := by rw [e0]; rfl
      have de : ((m.stamp.length : Int) == 0) = true := by rw [e1]; rfl
      have dg : decide ((0 : Int) < (m.stamp.length : Int)) = false := by rw [decide_eq_false_iff_not]; omega
      have dgn : decide (0 < m.stamp.length) = false := by rw [decide_eq_false_iff_not]; omega
      have E0 := Lib.hid e0; clear e0 e1
      rcases HI.out with i0 | i0
      rotate_left
      · have di : decide (cntI m.id) = false := by simpa using i0
        have I0 := Lib.hid i0; clear i0
        have HX := Lib.hid (show decide (repP m) = false by rw [decide_eq_false_iff_not, HD.out]; exact fun h => I0.out (h.2.2.2.2 HC.out).1)
        go_wp2_with ((first | (go_at_call 44; refine (rcounter_any _ _).mono ?_; rintro e w' ⟨rfl, rfl⟩) | (go_at_call 78; refine (rlegal_any _ _).mono ?_; rintro e w' ⟨rfl, rfl⟩) | (go_at_call 41; refine HS.out.mono ?_; rintro e w' ⟨rfl, rfl⟩)); first | rw [d1] | rw [d2] | rw [di] | rw [dl] | skip)
        go_ret
        exact ⟨ret_bool rfl (by first | exact HX.out.symm | (rw [HX.out]; exact dgn)), HK0.out⟩
      have di : decide (cntI m.id) = true := by simpa using i0
      have I0 := Lib.hid i0; clear i0
      rcases HV.out with s0 | s0
      rotate_left
      · have ds : decide (stampI m.stamp) = false := by simpa using s0
        have S0 := Lib.hid s0; clear s0
        have HX := Lib.hid (show decide (repP m) = false by rw [decide_eq_false_iff_not, HD.out]; exact fun h => S0.out (h.2.2.2.2 HC.out).2.1)
        go_wp2_with ((first | (go_at_call 44; refine (rcounter_any _ _).mono ?_; rintro e w' ⟨rfl, rfl⟩) | (go_at_call 78; refine (rlegal_any _ _).mono ?_; rintro e w' ⟨rfl, rfl⟩) | (go_at_call 41; refine HS.out.mono ?_; rintro e w' ⟨rfl, rfl⟩)); first | rw [d1] | rw [d2] | rw [di] | rw [ds] | rw [dl] | skip)
        go_ret
        exact ⟨ret_bool rfl (by first | exact HX.out.symm | (rw [HX.out]; exact dgn)), HK0.out⟩
      have ds : decide (stampI m.stamp) = true := by simpa using s0
      have S0 := Lib.hid s0; clear s0
      have HX := Lib.hid (show decide (repP m) = false by rw [decide_eq_false_iff_not, HD.out]; intro h; rcases (h.2.2.2.2 HC.out).2.2 with ⟨q, _⟩ | ⟨_, q⟩; exact T0.out q; exact q E0.out)
      go_wp2_with ((first | (go_at_call 44; refine (rcounter_any _ _).mono ?_; rintro e w' ⟨rfl, rfl⟩) | (go_at_call 78; refine (rlegal_any _ _).mono ?_; rintro e w' ⟨rfl, rfl⟩) | (go_at_call 41; refine HS.out.mono ?_; rintro e w' ⟨rfl, rfl⟩)); first | rw [d1] | rw [d2] | rw [di] | rw [ds] | rw [dl] | skip)
      go_ret
      exact ⟨ret_bool rfl (by first | exact HX.out.symm | (rw [HX.out]; exact dgn)), HK0.out⟩
    · have e1 : m.stamp.length ≠ 0 := fun h => e0 (List.eq_nil_of_length_eq_zero h)
      have de : ((m.stamp.length : Int) == 0) = false := by rw [beq_eq_false_iff_ne]; omega
      have dg : decide ((0 : Int) < (m.stamp.length : Int)) = true := by rw [decide_eq_true_iff]; omega
      have dgn : decide (0 < m.stamp.length) = true := by rw [decide_eq_true_iff]; omega
      have E0 := Lib.hid e0; clear e0 e1
      rcases HI.out with i0 | i0
      rotate_left
      · have di : decide (cntI m.id) = false := by simpa using i0
        have I0 := Lib.hid i0; clear i0
        have HX := Lib.hid (show decide (repP m) = false by rw [decide_eq_false_iff_not, HD.out]; exact fun h => I0.out (h.2.2.2.2 HC.out).1)
        go_wp2_with ((first | (go_at_call 44; refine (rcounter_any _ _).mono ?_; rintro e w' ⟨rfl, rfl⟩) | (go_at_call 78; refine (rlegal_any _ _).mono ?_; rintro e w' ⟨rfl, rfl⟩) | (go_at_call 41; refine HS.out.mono ?_; rintro e w' ⟨rfl, rfl⟩)); first | rw [d1] | rw [d2] | rw [di] | rw [dl] | skip)
        go_ret
        exact ⟨ret_bool rfl (by first | exact HX.out.symm | (rw [HX.out]; exact dgn)), HK0.out⟩
      have di : decide (cntI m.id) = true := by simpa using i0
      have I0 := Lib.hid i0; clear i0
      rcases HV.out with s0 | s0
      rotate_left
      · have ds : decide (stampI m.stamp) = false := by simpa using s0
        have S0 := Lib.hid s0; clear s0
        have HX := Lib.hid (show decide (repP m) = false by rw [decide_eq_false_iff_not, HD.out]; exact fun h => S0.out (h.2.2.2.2 HC.out).2.1)
        go_wp2_with ((first | (go_at_call 44; refine (rcounter_any _ _).mono ?_; rintro e w' ⟨rfl, rfl⟩) | (go_at_call 78; refine (rlegal_any _ _).mono ?_; rintro e w' ⟨rfl, rfl⟩) | (go_at_call 41; refine HS.out.mono ?_; rintro e w' ⟨rfl, rfl⟩)); first | rw [d1] | rw [d2] | rw [di] | rw [ds] | rw [dl] | skip)
        go_ret
        exact ⟨ret_bool rfl (by first | exact HX.out.symm | (rw [HX.out]; exact dgn)), HK0.out⟩
      have ds : decide (stampI m.stamp) = true := by simpa using s0
      have S0 := Lib.hid s0; clear s0
      have HX := Lib.hid (show decide (repP m) = true by rw [decide_eq_true_iff, HD.out]; exact ⟨H1.out, H2.out, HL.out.1, HL.out.2, fun _ => ⟨I0.out, S0.out, .inr ⟨T1.out, E0.out⟩⟩⟩)
      go_wp2_with ((first | (go_at_call 44; refine (rcounter_any _ _).mono ?_; rintro e w' ⟨rfl, rfl⟩) | (go_at_call 78; refine (rlegal_any _ _).mono ?_; rintro e w' ⟨rfl, rfl⟩) | (go_at_call 41; refine HS.out.mono ?_; rintro e w' ⟨rfl, rfl⟩)); first | rw [d1] | rw [d2] | rw [di] | rw [ds] | rw [dl] | skip)
      go_ret
      exact ⟨ret_bool rfl (by first | exact HX.out.symm | (rw [HX.out]; exact dgn)), HK0.out⟩
  · have dz : (m.term == 0) = false := by rw [beq_eq_false_iff_ne]; exact t0
    have dl : decide (termI m.term) = false := by simpa using t1
    have T0 := Lib.hid t0; have T1 := Lib.hid t1; clear t0 t1
    rcases HE.out with e0 | e0
    · have e1 : m.stamp.length = 0 := by rw [e0]; rfl
      have de : ((m.stamp.length : Int) == 0) = true := by rw [e1]; rfl
      have dg : decide ((0 : Int) < (m.stamp.length : Int)) = false := by rw [decide_eq_false_iff_not]; omega
      have dgn : decide (0 < m.stamp.length) = false := by rw [decide_eq_false_iff_not]; omega
      have E0 := Lib.hid e0; clear e0 e1
      rcases HI.out with i0 | i0
      rotate_left
      · have di : decide (cntI m.id) = false := by simpa using i0
        have I0 := Lib.hid i0; clear i0
        have HX := Lib.hid (show decide (repP m) = false by rw [decide_eq_false_iff_not, HD.out]; exact fun h => I0.out (h.2.2.2.2 HC.out).1)
        go_wp2_with ((first | (go_at_call 44; refine (rcounter_any _ _).mono ?_; rintro e w' ⟨rfl, rfl⟩) | (go_at_call 78; refine (rlegal_any _ _).mono ?_; rintro e w' ⟨rfl, rfl⟩) | (go_at_call 41; refine HS.out.mono ?_; rintro e w' ⟨rfl, rfl⟩)); first | rw [d1] | rw [d2] | rw [di] | rw [dl] | skip)
        go_ret
        exact ⟨ret_bool rfl (by first | exact HX.out.symm | (rw [HX.out]; exact dgn)), HK0.out⟩
      have di : decide (cntI m.id) = true := by simpa using i0
      have I0 := Lib.hid i0; clear i0
      rcases HV.out with s0 | s0
      rotate_left
      · have ds : decide (stampI m.stamp) = false := by simpa using s0
        have S0 := Lib.hid s0; clear s0
        have HX := Lib.hid (show decide (repP m) = false by rw [decide_eq_false_iff_not, HD.out]; exact fun h => S0.out (h.2.2.2.2 HC.out).2.1)
        go_wp2_with ((first | (go_at_call 44; refine (rcounter_any _ _).mono ?_; rintro e w' ⟨rfl, rfl⟩) | (go_at_call 78; refine (rlegal_any _ _).mono ?_; rintro e w' ⟨rfl, rfl⟩) | (go_at_call 41; refine HS.out.mono ?_; rintro e w' ⟨rfl, rfl⟩)); first | rw [d1] | rw [d2] | rw [di] | rw [ds] | rw [dl] | skip)
        go_ret
        exact ⟨ret_bool rfl (by first | exact HX.out.symm | (rw [HX.out]; exact dgn)), HK0.out⟩
      have ds : decide (stampI m.stamp) = true := by simpa using s0
      have S0 := Lib.hid s0; clear s0
      have HX := Lib.hid (show decide (repP m) = false by rw [decide_eq_false_iff_not, HD.out]; intro h; rcases (h.2.2.2.2 HC.out).2.2 with ⟨q, _⟩ | ⟨q, _⟩; exact T0.out q; exact T1.out q)
      go_wp2_with ((first | (go_at_call 44; refine (rcounter_any _ _).mono ?_; rintro e w' ⟨rfl, rfl⟩) | (go_at_call 78; refine (rlegal_any _ _).mono ?_; rintro e w' ⟨rfl, rfl⟩) | (go_at_call 41; refine HS.out.mono ?_; rintro e w' ⟨rfl, rfl⟩)); first | rw [d1] | rw [d2] | rw [di] | rw [ds] | rw [dl] | skip)
      go_ret
      exact ⟨ret_bool rfl (by first | exact HX.out.symm | (rw [HX.out]; exact dgn)), HK0.out⟩
    · have e1 : m.stamp.length ≠ 0 := fun h => e0 (List.eq_nil_of_length_eq_zero h)
      have de : ((m.stamp.length : Int) == 0) = false := by rw [beq_eq_false_iff_ne]; omega
      have dg : decide ((0 : Int) < (m.stamp.length : Int)) = true := by rw [decide_eq_true_iff]; omega
      have dgn : decide (0 < m.stamp.length) = true := by rw [decide_eq_true_iff]; omega
      have E0 := Lib.hid e0; clear e0 e1
      rcases HI.out with i0 | i0
      rotate_left
      · have di : decide (cntI m.id) = false := by simpa using i0
        have I0 := Lib.hid i0; clear i0
        have HX := Lib.hid (show decide (repP m) = false by rw [decide_eq_false_iff_not, HD.out]; exact fun h => I0.out (h.2.2.2.2 HC.out).1)
        go_wp2_with ((first | (go_at_call 44; refine (rcounter_any _ _).mono ?_; rintro e w' ⟨rfl, rfl⟩) | (go_at_call 78; refine (rlegal_any _ _).mono ?_; rintro e w' ⟨rfl, rfl⟩) | (go_at_call 41; refine HS.out.mono ?_; rintro e w' ⟨rfl, rfl⟩)); first | rw [d1] | rw [d2] | rw [di] | rw [dl] | skip)
        go_ret
        exact ⟨ret_bool rfl (by first | exact HX.out.symm | (rw [HX.out]; exact dgn)), HK0.out⟩
      have di : decide (cntI m.id) = true := by simpa using i0
      have I0 := Lib.hid i0; clear i0
      rcases HV.out with s0 | s0
      rotate_left
      · have ds : decide (stampI m.stamp) = false := by simpa using s0
        have S0 := Lib.hid s0; clear s0
        have HX := Lib.hid (show decide (repP m) = false by rw [decide_eq_false_iff_not, HD.out]; exact fun h => S0.out (h.2.2.2.2 HC.out).2.1)
        go_wp2_with ((first | (go_at_call 44; refine (rcounter_any _ _).mono ?_; rintro e w' ⟨rfl, rfl⟩) | (go_at_call 78; refine (rlegal_any _ _).mono ?_; rintro e w' ⟨rfl, rfl⟩) | (go_at_call 41; refine HS.out.mono ?_; rintro e w' ⟨rfl, rfl⟩)); first | rw [d1] | rw [d2] | rw [di] | rw [ds] | rw [dl] | skip)
        go_ret
        exact ⟨ret_bool rfl (by first | exact HX.out.symm | (rw [HX.out]; exact dgn)), HK0.out⟩
      have ds : decide (stampI m.stamp) = true := by simpa using s0
      have S0 := Lib.hid s0; clear s0
      have HX := Lib.hid (show decide (repP m) = false by rw [decide_eq_false_iff_not, HD.out]; intro h; rcases (h.2.2.2.2 HC.out).2.2 with ⟨q, _⟩ | ⟨q, _⟩; exact T0.out q; exact T1.out q)
      go_wp2_with ((first | (go_at_call 44; refine (rcounter_any _ _).mono ?_; rintro e w' ⟨rfl, rfl⟩) | (go_at_call 78; refine (rlegal_any _ _).mono ?_; rintro e w' ⟨rfl, rfl⟩) | (go_at_call 41; refine HS.out.mono ?_; rintro e w' ⟨rfl, rfl⟩)); first | rw [d1] | rw [d2] | rw [di] | rw [ds] | rw [dl] | skip)
      go_ret
      exact ⟨ret_bool rfl (by first | exact HX.out.symm | (rw [HX.out]; exact dgn)), HK0.out⟩
end Go.Proofs.YtaipbikbapjmjaaGreat
