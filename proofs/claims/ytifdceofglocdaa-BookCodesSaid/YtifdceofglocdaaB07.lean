/- What may be a grant: book.mayGrant by contract. No condition beyond what each theorem states. -/
import Derived.Test.YtifdceofglocdaaB06
namespace Go.Proofs.Ytifdceofglocdaa
open Go Go.RowKit Go.PlainAid

set_option maxRecDepth 100000 in
set_option maxHeartbeats 4000000 in
theorem mayGrant_any (p : GP) (W : World) (hs : ArgInts W p.2 p.1.stamp) (hsh : ShG maxLen p.1) :
    Calls Try.prog 46 #[.agg (pC p).toArray] W fun e w' => e = .returned (.bool (decide (mayG p.1))) ∧ Kp No W w' := by
  obtain ⟨⟨gid, hol, path, mode, st, term⟩, sv⟩ := p
  obtain ⟨A, c, rfl, _⟩ : ∃ A c, sv = .slice A st.length c ∧ st.length ≤ c := by obtain ⟨A, c, e, hc, _⟩ := hs; exact ⟨A, c, e, hc⟩
  have hs : ArgInts W (.slice A st.length c) st := hs
  have hl : st.length ≤ maxLen := hsh.2
  have hp : path.length ≤ maxLen := hsh.1
  clear hsh
  have pv := fun w => valid_any ⟨path.toArray⟩ w (by simpa [ByteArray.size] using hp)
  have sv := fun W2 (k : Kp No W W2) => stamped_any _ st W2 (hs.no k) hl
  have nv := fun W2 (k : Kp No W W2) => newest_any _ st W2 (hs.no k) hl
  have kA : Kp No W (W.alloc (.cells (pC (⟨gid, hol, path, mode, st, term⟩, .slice A st.length c)).toArray 30)) := (Kp.refl No W).alloc _
  have HM := Lib.hid (show mayG ⟨gid, hol, path, mode, st, term⟩ ↔ cntI gid ∧ (0 ≤ hol ∧ hol < 8) ∧ (Go.Proofs.Ytifdceofglocdaa.path path).isSome = true ∧ (mode = 1 ∨ mode = 2) ∧ (validS st = true ∧ st ≠ []) ∧ gid ≤ newestS st ∧ termI term by
    unfold mayG nodeI modeI vpP
    exact ⟨fun ⟨a1, a2, a3, a4, a5, a6, a7, a8⟩ => ⟨a1, a2, a3, a4, ⟨a5, a6⟩, a7, a8⟩, fun ⟨a1, a2, a3, a4, ⟨a5, a6⟩, a7, a8⟩ => ⟨a1, a2, a3, a4, a5, a6, a7, a8⟩⟩)
  obtain ⟨R, hR⟩ : ∃ R, R = decide (mayG ⟨gid, hol, path, mode, st, term⟩) := ⟨_, rfl⟩
  rw [← hR]
  have HR := Lib.hid hR; clear hR
  generalize newestS st = nw at *
  have hs := Lib.hid hs; have hpl := Lib.hid hp; have hll := Lib.hid hl
  clear hs hp hl
  simp only [pC] at kA ⊢
  by_cases b0 : (cntI gid)
  · have P0 := Lib.hid b0; have H0 := Lib.hid (show decide (cntI gid) = true by rw [decide_eq_true_iff]; exact P0.out); clear b0
    by_cases b1 : 0 ≤ hol
    · have P1 := Lib.hid b1
      by_cases b2 : hol < 8
      · have P2 := Lib.hid b2
        cases b3 : (Go.Proofs.Ytifdceofglocdaa.path path).isSome
        case' true =>
          have P3 := Lib.hid b3; have H3 := Lib.hid b3; clear b3
          by_cases b4 : mode = 1
          · subst b4
            have P4 := Lib.hid (show (1 : Int) = 1 ∨ (1 : Int) = 2 from .inl rfl)
            by_cases b5 : (validS st = true ∧ st ≠ [])
            · have P5 := Lib.hid b5; have H5 := Lib.hid (show decide (validS st = true ∧ st ≠ []) = true by rw [decide_eq_true_iff]; exact P5.out); clear b5
              by_cases b6 : gid ≤ nw
              · have P6 := Lib.hid b6
                by_cases b7 : (termI term)
                · have P7 := Lib.hid b7; have H7 := Lib.hid (show decide (termI term) = true by rw [decide_eq_true_iff]; exact P7.out); clear b7
                  have HX := Lib.hid (show R = true by rw [HR.out, decide_eq_true_iff, HM.out]; exact ⟨P0.out, ⟨P1.out, P2.out⟩, P3.out, P4.out, P5.out, P6.out, P7.out⟩)
                  go_enter Try.func46, Try.ntmps46
                  go_wp2
                  go_quiet (first
                      | (go_at_call 69; exact Calls.quiet_of_same ((bcounter_any _ _).mono fun _ _ ⟨h1, h2⟩ => ⟨by rw [H0.out] at h1; exact h1, h2.symm⟩))
                      | (go_at_call 75; exact Calls.quiet_of_same ((pv _).mono fun _ _ ⟨h1, h2⟩ => ⟨by rw [H3.out] at h1; exact h1, h2⟩))
                      | (go_at_call 70; exact Calls.quiet_of_same ((sv _ (by with_reducible repeat (first | assumption | exact Kp.refl _ _ | refine Kp.drew ?_ | refine Kp.drewN ?_ _))).mono fun _ _ ⟨h1, h2⟩ => ⟨by rw [H5.out] at h1; exact h1, h2.symm⟩))
                      | (go_at_call 47; exact Calls.quiet_of_same ((nv _ (by with_reducible repeat (first | assumption | exact Kp.refl _ _ | refine Kp.drew ?_ | refine Kp.drewN ?_ _))).mono fun _ _ ⟨h1, h2⟩ => ⟨h1, h2.symm⟩))
                      | (go_at_call 45; exact Calls.quiet_of_same ((tlegal_any _ _).mono fun _ _ ⟨h1, h2⟩ => ⟨by rw [H7.out] at h1; exact h1, h2.symm⟩))
                      | fail)
                  go_wp2
                  go_ret
                  exact ⟨ret_bool rfl (by rw [HX.out]), kA.drewN _⟩
                · have N7 := Lib.hid b7; have H7 := Lib.hid (show decide (termI term) = false by rw [decide_eq_false_iff_not]; exact N7.out); clear b7
                  have HX := Lib.hid (show R = false by rw [HR.out, decide_eq_false_iff_not, HM.out]; rintro ⟨q0, ⟨q1, q2⟩, q3, q4, q5, q6, q7⟩; exact N7.out q7)
                  go_enter Try.func46, Try.ntmps46
                  go_wp2
                  go_quiet (first
                      | (go_at_call 69; exact Calls.quiet_of_same ((bcounter_any _ _).mono fun _ _ ⟨h1, h2⟩ => ⟨by rw [H0.out] at h1; exact h1, h2.symm⟩))
                      | (go_at_call 75; exact Calls.quiet_of_same ((pv _).mono fun _ _ ⟨h1, h2⟩ => ⟨by rw [H3.out] at h1; exact h1, h2⟩))
                      | (go_at_call 70; exact Calls.quiet_of_same ((sv _ (by with_reducible repeat (first | assumption | exact Kp.refl _ _ | refine Kp.drew ?_ | refine Kp.drewN ?_ _))).mono fun _ _ ⟨h1, h2⟩ => ⟨by rw [H5.out] at h1; exact h1, h2.symm⟩))
                      | (go_at_call 47; exact Calls.quiet_of_same ((nv _ (by with_reducible repeat (first | assumption | exact Kp.refl _ _ | refine Kp.drew ?_ | refine Kp.drewN ?_ _))).mono fun _ _ ⟨h1, h2⟩ => ⟨h1, h2.symm⟩))
                      | (go_at_call 45; exact Calls.quiet_of_same ((tlegal_any _ _).mono fun _ _ ⟨h1, h2⟩ => ⟨by rw [H7.out] at h1; exact h1, h2.symm⟩))
                      | fail)
                  go_wp2
                  go_ret
                  exact ⟨ret_bool rfl (by rw [HX.out]), kA.drewN _⟩
              · have N6 := Lib.hid b6; have d6 : decide (gid ≤ nw) = false := by simpa using N6.out
                clear b6
                have HX := Lib.hid (show R = false by rw [HR.out, decide_eq_false_iff_not, HM.out]; rintro ⟨q0, ⟨q1, q2⟩, q3, q4, q5, q6, q7⟩; exact N6.out q6)
                go_enter Try.func46, Try.ntmps46
                go_wp2
                go_quiet (first
                    | (go_at_call 69; exact Calls.quiet_of_same ((bcounter_any _ _).mono fun _ _ ⟨h1, h2⟩ => ⟨by rw [H0.out] at h1; exact h1, h2.symm⟩))
                    | (go_at_call 75; exact Calls.quiet_of_same ((pv _).mono fun _ _ ⟨h1, h2⟩ => ⟨by rw [H3.out] at h1; exact h1, h2⟩))
                    | (go_at_call 70; exact Calls.quiet_of_same ((sv _ (by with_reducible repeat (first | assumption | exact Kp.refl _ _ | refine Kp.drew ?_ | refine Kp.drewN ?_ _))).mono fun _ _ ⟨h1, h2⟩ => ⟨by rw [H5.out] at h1; exact h1, h2.symm⟩))
                    | (go_at_call 47; exact Calls.quiet_of_same ((nv _ (by with_reducible repeat (first | assumption | exact Kp.refl _ _ | refine Kp.drew ?_ | refine Kp.drewN ?_ _))).mono fun _ _ ⟨h1, h2⟩ => ⟨h1, h2.symm⟩))
                    | fail)
                go_wp2
                go_ret
                exact ⟨ret_bool rfl (by rw [HX.out]), kA.drewN _⟩
            · have N5 := Lib.hid b5; have H5 := Lib.hid (show decide (validS st = true ∧ st ≠ []) = false by rw [decide_eq_false_iff_not]; exact N5.out); clear b5
              have HX := Lib.hid (show R = false by rw [HR.out, decide_eq_false_iff_not, HM.out]; rintro ⟨q0, ⟨q1, q2⟩, q3, q4, q5, q6, q7⟩; exact N5.out q5)
              go_enter Try.func46, Try.ntmps46
              go_wp2
              go_quiet (first
                  | (go_at_call 69; exact Calls.quiet_of_same ((bcounter_any _ _).mono fun _ _ ⟨h1, h2⟩ => ⟨by rw [H0.out] at h1; exact h1, h2.symm⟩))
                  | (go_at_call 75; exact Calls.quiet_of_same ((pv _).mono fun _ _ ⟨h1, h2⟩ => ⟨by rw [H3.out] at h1; exact h1, h2⟩))
                  | (go_at_call 70; exact Calls.quiet_of_same ((sv _ (by with_reducible repeat (first | assumption | exact Kp.refl _ _ | refine Kp.drew ?_ | refine Kp.drewN ?_ _))).mono fun _ _ ⟨h1, h2⟩ => ⟨by rw [H5.out] at h1; exact h1, h2.symm⟩))
                  | fail)
              go_wp2
              go_ret
              exact ⟨ret_bool rfl (by rw [HX.out]), kA.drewN _⟩
          · by_cases c4 : mode = 2
            · subst c4
              have P4 := Lib.hid (show (2 : Int) = 1 ∨ (2 : Int) = 2 from .inr rfl)
              clear b4
              by_cases b5 : (validS st = true ∧ st ≠ [])
              · have P5 := Lib.hid b5; have H5 := Lib.hid (show decide (validS st = true ∧ st ≠ []) = true by rw [decide_eq_true_iff]; exact P5.out); clear b5
                by_cases b6 : gid ≤ nw
                · have P6 := Lib.hid b6
                  by_cases b7 : (termI term)
                  · have P7 := Lib.hid b7; have H7 := Lib.hid (show decide (termI term) = true by rw [decide_eq_true_iff]; exact P7.out); clear b7
                    have HX := Lib.hid (show R = true by rw [HR.out, decide_eq_true_iff, HM.out]; exact ⟨P0.out, ⟨P1.out, P2.out⟩, P3.out, P4.out, P5.out, P6.out, P7.out⟩)
                    go_enter Try.func46, Try.ntmps46
                    go_wp2
                    go_quiet (first
                        | (go_at_call 69; exact Calls.quiet_of_same ((bcounter_any _ _).mono fun _ _ ⟨h1, h2⟩ => ⟨by rw [H0.out] at h1; exact h1, h2.symm⟩))
                        | (go_at_call 75; exact Calls.quiet_of_same ((pv _).mono fun _ _ ⟨h1, h2⟩ => ⟨by rw [H3.out] at h1; exact h1, h2⟩))
                        | (go_at_call 70; exact Calls.quiet_of_same ((sv _ (by with_reducible repeat (first | assumption | exact Kp.refl _ _ | refine Kp.drew ?_ | refine Kp.drewN ?_ _))).mono fun _ _ ⟨h1, h2⟩ => ⟨by rw [H5.out] at h1; exact h1, h2.symm⟩))
                        | (go_at_call 47; exact Calls.quiet_of_same ((nv _ (by with_reducible repeat (first | assumption | exact Kp.refl _ _ | refine Kp.drew ?_ | refine Kp.drewN ?_ _))).mono fun _ _ ⟨h1, h2⟩ => ⟨h1, h2.symm⟩))
                        | (go_at_call 45; exact Calls.quiet_of_same ((tlegal_any _ _).mono fun _ _ ⟨h1, h2⟩ => ⟨by rw [H7.out] at h1; exact h1, h2.symm⟩))
                        | fail)
                    go_wp2
                    go_ret
                    exact ⟨ret_bool rfl (by rw [HX.out]), kA.drewN _⟩
                  · have N7 := Lib.hid b7; have H7 := Lib.hid (show decide (termI term) = false by rw [decide_eq_false_iff_not]; exact N7.out); clear b7
                    have HX := Lib.hid (show R = false by rw [HR.out, decide_eq_false_iff_not, HM.out]; rintro ⟨q0, ⟨q1, q2⟩, q3, q4, q5, q6, q7⟩; exact N7.out q7)
                    go_enter Try.func46, Try.ntmps46
                    go_wp2
                    go_quiet (first
                        | (go_at_call 69; exact Calls.quiet_of_same ((bcounter_any _ _).mono fun _ _ ⟨h1, h2⟩ => ⟨by rw [H0.out] at h1; exact h1, h2.symm⟩))
                        | (go_at_call 75; exact Calls.quiet_of_same ((pv _).mono fun _ _ ⟨h1, h2⟩ => ⟨by rw [H3.out] at h1; exact h1, h2⟩))
                        | (go_at_call 70; exact Calls.quiet_of_same ((sv _ (by with_reducible repeat (first | assumption | exact Kp.refl _ _ | refine Kp.drew ?_ | refine Kp.drewN ?_ _))).mono fun _ _ ⟨h1, h2⟩ => ⟨by rw [H5.out] at h1; exact h1, h2.symm⟩))
                        | (go_at_call 47; exact Calls.quiet_of_same ((nv _ (by with_reducible repeat (first | assumption | exact Kp.refl _ _ | refine Kp.drew ?_ | refine Kp.drewN ?_ _))).mono fun _ _ ⟨h1, h2⟩ => ⟨h1, h2.symm⟩))
                        | (go_at_call 45; exact Calls.quiet_of_same ((tlegal_any _ _).mono fun _ _ ⟨h1, h2⟩ => ⟨by rw [H7.out] at h1; exact h1, h2.symm⟩))
                        | fail)
                    go_wp2
                    go_ret
                    exact ⟨ret_bool rfl (by rw [HX.out]), kA.drewN _⟩
                · have N6 := Lib.hid b6; have d6 : decide (gid ≤ nw) = false := by simpa using N6.out
                  clear b6
                  have HX := Lib.hid (show R = false by rw [HR.out, decide_eq_false_iff_not, HM.out]; rintro ⟨q0, ⟨q1, q2⟩, q3, q4, q5, q6, q7⟩; exact N6.out q6)
                  go_enter Try.func46, Try.ntmps46
                  go_wp2
                  go_quiet (first
                      | (go_at_call 69; exact Calls.quiet_of_same ((bcounter_any _ _).mono fun _ _ ⟨h1, h2⟩ => ⟨by rw [H0.out] at h1; exact h1, h2.symm⟩))
                      | (go_at_call 75; exact Calls.quiet_of_same ((pv _).mono fun _ _ ⟨h1, h2⟩ => ⟨by rw [H3.out] at h1; exact h1, h2⟩))
                      | (go_at_call 70; exact Calls.quiet_of_same ((sv _ (by with_reducible repeat (first | assumption | exact Kp.refl _ _ | refine Kp.drew ?_ | refine Kp.drewN ?_ _))).mono fun _ _ ⟨h1, h2⟩ => ⟨by rw [H5.out] at h1; exact h1, h2.symm⟩))
                      | (go_at_call 47; exact Calls.quiet_of_same ((nv _ (by with_reducible repeat (first | assumption | exact Kp.refl _ _ | refine Kp.drew ?_ | refine Kp.drewN ?_ _))).mono fun _ _ ⟨h1, h2⟩ => ⟨h1, h2.symm⟩))
                      | fail)
                  go_wp2
                  go_ret
                  exact ⟨ret_bool rfl (by rw [HX.out]), kA.drewN _⟩
              · have N5 := Lib.hid b5; have H5 := Lib.hid (show decide (validS st = true ∧ st ≠ []) = false by rw [decide_eq_false_iff_not]; exact N5.out); clear b5
                have HX := Lib.hid (show R = false by rw [HR.out, decide_eq_false_iff_not, HM.out]; rintro ⟨q0, ⟨q1, q2⟩, q3, q4, q5, q6, q7⟩; exact N5.out q5)
                go_enter Try.func46, Try.ntmps46
                go_wp2
                go_quiet (first
                    | (go_at_call 69; exact Calls.quiet_of_same ((bcounter_any _ _).mono fun _ _ ⟨h1, h2⟩ => ⟨by rw [H0.out] at h1; exact h1, h2.symm⟩))
                    | (go_at_call 75; exact Calls.quiet_of_same ((pv _).mono fun _ _ ⟨h1, h2⟩ => ⟨by rw [H3.out] at h1; exact h1, h2⟩))
                    | (go_at_call 70; exact Calls.quiet_of_same ((sv _ (by with_reducible repeat (first | assumption | exact Kp.refl _ _ | refine Kp.drew ?_ | refine Kp.drewN ?_ _))).mono fun _ _ ⟨h1, h2⟩ => ⟨by rw [H5.out] at h1; exact h1, h2.symm⟩))
                    | fail)
                go_wp2
                go_ret
                exact ⟨ret_bool rfl (by rw [HX.out]), kA.drewN _⟩
            · have d4 : (mode == 1) = false := by rw [beq_eq_false_iff_ne]; exact b4
              have e4 : (mode == 2) = false := by rw [beq_eq_false_iff_ne]; exact c4
              have N4 := Lib.hid (show ¬ (mode = 1 ∨ mode = 2) from fun h => h.elim b4 c4); clear b4 c4
              have HX := Lib.hid (show R = false by rw [HR.out, decide_eq_false_iff_not, HM.out]; rintro ⟨q0, ⟨q1, q2⟩, q3, q4, q5, q6, q7⟩; exact N4.out q4)
              go_enter Try.func46, Try.ntmps46
              go_wp2
              go_quiet (first
                  | (go_at_call 69; exact Calls.quiet_of_same ((bcounter_any _ _).mono fun _ _ ⟨h1, h2⟩ => ⟨by rw [H0.out] at h1; exact h1, h2.symm⟩))
                  | (go_at_call 75; exact Calls.quiet_of_same ((pv _).mono fun _ _ ⟨h1, h2⟩ => ⟨by rw [H3.out] at h1; exact h1, h2⟩))
                  | fail)
              go_wp2
              go_ret
              exact ⟨ret_bool rfl (by rw [HX.out]), kA.drewN _⟩
        case' false =>
          have N3 := Lib.hid b3; have H3 := Lib.hid b3; clear b3
          have HX := Lib.hid (show R = false by rw [HR.out, decide_eq_false_iff_not, HM.out]; rintro ⟨q0, ⟨q1, q2⟩, q3, q4, q5, q6, q7⟩; exact by rw [N3.out] at q3; cases q3)
          go_enter Try.func46, Try.ntmps46
          go_wp2
          go_quiet (first
              | (go_at_call 69; exact Calls.quiet_of_same ((bcounter_any _ _).mono fun _ _ ⟨h1, h2⟩ => ⟨by rw [H0.out] at h1; exact h1, h2.symm⟩))
              | (go_at_call 75; exact Calls.quiet_of_same ((pv _).mono fun _ _ ⟨h1, h2⟩ => ⟨by rw [H3.out] at h1; exact h1, h2⟩))
              | fail)
          go_wp2
          go_ret
          exact ⟨ret_bool rfl (by rw [HX.out]), kA.drewN _⟩
      · have N2 := Lib.hid b2; have d2 : decide (hol < 8) = false := by simpa using N2.out
        clear b2
        have HX := Lib.hid (show R = false by rw [HR.out, decide_eq_false_iff_not, HM.out]; rintro ⟨q0, ⟨q1, q2⟩, q3, q4, q5, q6, q7⟩; exact N2.out q2)
        go_enter Try.func46, Try.ntmps46
        go_wp2
        go_quiet (first
            | (go_at_call 69; exact Calls.quiet_of_same ((bcounter_any _ _).mono fun _ _ ⟨h1, h2⟩ => ⟨by rw [H0.out] at h1; exact h1, h2.symm⟩))
            | fail)
        go_wp2
        go_ret
        exact ⟨ret_bool rfl (by rw [HX.out]), kA.drewN _⟩
    · have N1 := Lib.hid b1; have d1 : decide (0 ≤ hol) = false := by simpa using N1.out
      clear b1
      have HX := Lib.hid (show R = false by rw [HR.out, decide_eq_false_iff_not, HM.out]; rintro ⟨q0, ⟨q1, q2⟩, q3, q4, q5, q6, q7⟩; exact N1.out q1)
      go_enter Try.func46, Try.ntmps46
      go_wp2
      go_quiet (first
          | (go_at_call 69; exact Calls.quiet_of_same ((bcounter_any _ _).mono fun _ _ ⟨h1, h2⟩ => ⟨by rw [H0.out] at h1; exact h1, h2.symm⟩))
          | fail)
      go_wp2
      go_ret
      exact ⟨ret_bool rfl (by rw [HX.out]), kA.drewN _⟩
  · have N0 := Lib.hid b0; have H0 := Lib.hid (show decide (cntI gid) = false by rw [decide_eq_false_iff_not]; exact N0.out); clear b0
    have HX := Lib.hid (show R = false by rw [HR.out, decide_eq_false_iff_not, HM.out]; rintro ⟨q0, ⟨q1, q2⟩, q3, q4, q5, q6, q7⟩; exact N0.out q0)
    go_enter Try.func46, Try.ntmps46
    go_wp2
    go_quiet (first
        | (go_at_call 69; exact Calls.quiet_of_same ((bcounter_any _ _).mono fun _ _ ⟨h1, h2⟩ => ⟨by rw [H0.out] at h1; exact h1, h2.symm⟩))
        | fail)
    go_wp2
    go_ret
    exact ⟨ret_bool rfl (by rw [HX.out]), kA.drewN _⟩
end Go.Proofs.Ytifdceofglocdaa
