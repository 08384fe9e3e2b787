/- What may be in a field, by contract (wire). No condition beyond what each theorem states. -/
import Derived.Test.YtbnpdghfbiacaaaMo
import Derived.Test.YtbnpdghfbiacaaaMp
import Derived.Test.YtbnpdghfbiacaaaSv
import Derived.Test.YtbnpdghfbiacaaaPv
import Derived.Deep.QuietTactic
import Derived.BigQuiet
namespace Go.Proofs.Ytbnpdghfbiacaaa
open Go Go.RowKit Go.PlainAid

theorem tlegal_any (n : Int) (w : World) : Calls Try.prog 70 #[.int .i64 n] w fun e w' => e = .returned (.bool (decide (termI n))) ∧ w = w' := by
  go_enter Try.func70, Try.ntmps70
  by_cases h1 : 4 ≤ n <;> by_cases h2 : n ≤ 1048576
  all_goals
    have HS := Lib.hid (show decide (termI n) = decide (4 ≤ n ∧ n ≤ 1048576) from rfl)
    go_wp2
    go_ret
    exact ⟨ret_bool rfl (by rw [HS.out]; simp [h1, h2]), rfl⟩
theorem yes_any (x : Int) (w : World) : Calls Try.prog 35 #[.int .i64 x] w fun e w' => e = .returned (.bool true) ∧ w = w' := by
  go_enter Try.func35, Try.ntmps35
  go_wp2
  go_ret
  exact ⟨rfl, rfl⟩
theorem errOk_any (n : Int) (w : World) : Calls Try.prog 39 #[.int .i64 n] w fun e w' => e = .returned (.bool (decide (0 ≤ n ∧ n ≤ 99))) ∧ w = w' := by
  go_enter Try.func39, Try.ntmps39
  by_cases h1 : 0 ≤ n <;> by_cases h2 : n ≤ 99
  all_goals
    have HS := Lib.hid (show decide (0 ≤ n ∧ n ≤ 99) = (decide (0 ≤ n) && decide (n ≤ 99)) by simp)
    go_wp2
    go_ret
    exact ⟨ret_bool rfl (by simp [h1, h2]), rfl⟩
theorem isMode_any (n : Int) (w : World) : Calls Try.prog 51 #[.int .i64 n] w fun e w' => e = .returned (.bool (decide (modeI n))) ∧ w = w' := by
  have HS := Lib.hid (show decide (modeI n) = decide (n = 1 ∨ n = 2) from rfl)
  go_enter Try.func51, Try.ntmps51
  by_cases h1 : n = 1
  · subst h1
    go_wp2
    go_ret
    exact ⟨ret_bool rfl (by rw [HS.out]; simp), rfl⟩
  · by_cases h2 : n = 2
    · subst h2
      go_wp2
      go_ret
      exact ⟨ret_bool rfl (by rw [HS.out]; simp), rfl⟩
    · have d1 : (n == 1) = false := by rw [beq_eq_false_iff_ne]; exact h1
      have d2 : (n == 2) = false := by rw [beq_eq_false_iff_ne]; exact h2
      go_wp2
      go_ret
      exact ⟨ret_bool rfl (by rw [HS.out]; simp [h1, h2]), rfl⟩
theorem always_any (v : Value) (w : World) : Calls Try.prog 87 #[v] w fun e w' => e = .returned (.bool true) ∧ w = w' := by
  go_enter Try.func87, Try.ntmps87
  go_wp2
  go_ret
  exact ⟨rfl, rfl⟩
theorem never_any (v : Value) (w : World) : Calls Try.prog 66 #[v] w fun e w' => e = .returned (.bool false) ∧ w = w' := by
  go_enter Try.func66, Try.ntmps66
  go_wp2
  go_ret
  exact ⟨rfl, rfl⟩
theorem legal_any (g : Nat) (m : Msg) (sv : Value) (W : World) (hm : MsgB W g m sv) : Calls Try.prog 62 #[.pointer (some ⟨g, 0, none⟩)] W fun e w' => e = .returned (.bool (decide (termI m.term))) ∧ Kp No W w' := by
  have z9 : W.cell? ⟨g, 9, none⟩ = some (.int .i64 m.term) := hm.1.cell 9
  clear hm
  go_enter Try.func62, Try.ntmps62
  go_wp2_with (go_at_call 70; refine (tlegal_any _ _).mono ?_; rintro e w' ⟨rfl, rfl⟩)
  go_ret
  exact ⟨rfl, Kp.refl _ _⟩
theorem orig4_any (g : Nat) (m : Msg) (sv : Value) (W : World) (hm : MsgB W g m sv) : Calls Try.prog 46 #[.pointer (some ⟨g, 0, none⟩)] W fun e w' => e = .returned (.bool (decide (nodeI m.origin))) ∧ Kp No W w' := by
  have z9 : W.cell? ⟨g, 14, none⟩ = some (.int .i64 m.origin) := hm.1.cell 14
  clear hm
  go_enter Try.func46, Try.ntmps46
  go_wp2_with (go_at_call 19; refine (isNode_any _ _).mono ?_; rintro e w' ⟨rfl, rfl⟩)
  go_ret
  exact ⟨rfl, Kp.refl _ _⟩
theorem orig5_any (g : Nat) (m : Msg) (sv : Value) (W : World) (hm : MsgB W g m sv) : Calls Try.prog 48 #[.pointer (some ⟨g, 0, none⟩)] W fun e w' => e = .returned (.bool (decide (nodeI m.origin))) ∧ Kp No W w' := by
  have z9 : W.cell? ⟨g, 14, none⟩ = some (.int .i64 m.origin) := hm.1.cell 14
  clear hm
  go_enter Try.func48, Try.ntmps48
  go_wp2_with (go_at_call 19; refine (isNode_any _ _).mono ?_; rintro e w' ⟨rfl, rfl⟩)
  go_ret
  exact ⟨rfl, Kp.refl _ _⟩
set_option maxRecDepth 100000 in
set_option maxHeartbeats 1000000 in
theorem within_any (g : Nat) (m : Msg) (sv : Value) (W : World) (hm : MsgB W g m sv) : Calls Try.prog 27 #[.pointer (some ⟨g, 0, none⟩)] W fun e w' => e = .returned (.bool (decide (1 ≤ m.low ∧ m.low ≤ m.seq))) ∧ Kp No W w' := by
  have z5 : W.cell? ⟨g, 5, none⟩ = some (.int .i64 m.low) := hm.1.cell 5
  have z4 : W.cell? ⟨g, 4, none⟩ = some (.int .i64 m.seq) := hm.1.cell 4
  clear hm
  generalize m.low = x at *
  generalize m.seq = y at *
  by_cases h1 : 1 ≤ x
  · by_cases h2 : x ≤ y
    · have HS := Lib.hid (show decide (1 ≤ x ∧ x ≤ y) = true by simp [h1, h2])
      go_enter Try.func27, Try.ntmps27
      go_wp2
      go_quiet (fail)
      go_wp2
      go_ret
      exact ⟨ret_bool rfl (by rw [HS.out]; try simp [h2]), (Kp.refl _ _).drewN _⟩
    · have HS := Lib.hid (show decide (1 ≤ x ∧ x ≤ y) = false by simp [h2])
      have d2 : decide (x ≤ y) = false := by simpa using h2
      go_enter Try.func27, Try.ntmps27
      go_wp2
      go_quiet (fail)
      go_wp2
      go_ret
      exact ⟨ret_bool rfl (by rw [HS.out]; try simp [h2]), (Kp.refl _ _).drewN _⟩
  · have HS := Lib.hid (show decide (1 ≤ x ∧ x ≤ y) = false by simp [h1])
    have d1 : decide (1 ≤ x) = false := by simpa using h1
    go_enter Try.func27, Try.ntmps27
    go_wp2
    go_quiet (fail)
    go_wp2
    go_ret
    exact ⟨ret_bool rfl (by rw [HS.out]; try simp [h1]), (Kp.refl _ _).drewN _⟩
set_option maxRecDepth 100000 in
set_option maxHeartbeats 1000000 in
theorem granted_any (g : Nat) (m : Msg) (sv : Value) (W : World) (hm : MsgB W g m sv) : Calls Try.prog 42 #[.pointer (some ⟨g, 0, none⟩)] W fun e w' => e = .returned (.bool (decide (termI m.term ∧ m.stamp ≠ [] ∨ m.term = 0 ∧ m.stamp = []))) ∧ Kp No W w' := by
  obtain ⟨A, c, rfl, hc⟩ : ∃ A c, sv = .slice A m.stamp.length c ∧ m.stamp.length ≤ c := by obtain ⟨A, c, e, hc, _⟩ := hm.2; exact ⟨A, c, e, hc⟩
  have z9 : W.cell? ⟨g, 9, none⟩ = some (.int .i64 m.term) := hm.1.cell 9
  have z13 : W.cell? ⟨g, 13, none⟩ = some (.slice A m.stamp.length c) := hm.1.cell 13
  clear hm
  have HE := Lib.hid (show m.stamp = [] ↔ m.stamp.length = 0 by simp)
  generalize m.term = t at *
  by_cases h1 : termI t
  · have HT := Lib.hid (show decide (termI t) = true by simpa using h1)
    have h0 : (t == 0) = false := by rw [beq_eq_false_iff_ne]; unfold termI at h1; omega
    have H0 := Lib.hid (show t ≠ 0 by unfold termI at h1; omega)
    have H1 := Lib.hid h1; clear h1
    by_cases h2 : 0 < m.stamp.length
    · have HS := Lib.hid (show decide (termI t ∧ m.stamp ≠ [] ∨ t = 0 ∧ m.stamp = []) = true by
        rw [decide_eq_true_iff]; exact .inl ⟨H1.out, fun e => by have := HE.out.1 e; omega⟩)
      have h3 : (0 : Int) < (m.stamp.length : Int) := by omega
      go_enter Try.func42, Try.ntmps42
      go_wp2_with (go_at_call 70; refine (tlegal_any _ _).mono ?_; rintro e w' ⟨rfl, rfl⟩; rw [HT.out])
      go_ret
      exact ⟨ret_bool rfl (by rw [HS.out]; try simp [h2]), Kp.refl _ _⟩
    · have HS := Lib.hid (show decide (termI t ∧ m.stamp ≠ [] ∨ t = 0 ∧ m.stamp = []) = false by
        rw [decide_eq_false_iff_not]
        rintro (⟨_, h⟩ | ⟨h, _⟩)
        · exact h (HE.out.2 (by omega))
        · exact H0.out h)
      have e0 : m.stamp.length = 0 := by omega
      rw [e0] at z13
      clear e0
      go_enter Try.func42, Try.ntmps42
      go_wp2_with (go_at_call 70; refine (tlegal_any _ _).mono ?_; rintro e w' ⟨rfl, rfl⟩; rw [HT.out])
      go_ret
      exact ⟨ret_bool rfl (by rw [HS.out]; try simp [h2]), Kp.refl _ _⟩
  · have HT := Lib.hid (show decide (termI t) = false by simpa using h1)
    have H1 := Lib.hid h1; clear h1
    by_cases h0 : t = 0
    · subst h0
      by_cases h2 : m.stamp.length = 0
      · have HS := Lib.hid (show decide (termI 0 ∧ m.stamp ≠ [] ∨ (0 : Int) = 0 ∧ m.stamp = []) = true by
          rw [decide_eq_true_iff]; exact .inr ⟨rfl, HE.out.2 h2⟩)
        rw [h2] at z13
        clear h2
        go_enter Try.func42, Try.ntmps42
        go_wp2_with (go_at_call 70; refine (tlegal_any _ _).mono ?_; rintro e w' ⟨rfl, rfl⟩; rw [HT.out])
        go_ret
        exact ⟨ret_bool rfl (by rw [HS.out]), Kp.refl _ _⟩
      · have HS := Lib.hid (show decide (termI 0 ∧ m.stamp ≠ [] ∨ (0 : Int) = 0 ∧ m.stamp = []) = false by
          rw [decide_eq_false_iff_not]
          rintro (⟨h, _⟩ | ⟨_, h⟩)
          · exact H1.out h
          · exact h2 (HE.out.1 h))
        have d2 : ((m.stamp.length : Int) == 0) = false := by rw [beq_eq_false_iff_ne]; omega
        clear h2
        go_enter Try.func42, Try.ntmps42
        go_wp2_with (go_at_call 70; refine (tlegal_any _ _).mono ?_; rintro e w' ⟨rfl, rfl⟩; rw [HT.out])
        go_ret
        exact ⟨ret_bool rfl (by rw [HS.out]; try simp [d2]), Kp.refl _ _⟩
    · have HS := Lib.hid (show decide (termI t ∧ m.stamp ≠ [] ∨ t = 0 ∧ m.stamp = []) = false by
        rw [decide_eq_false_iff_not]
        rintro (⟨h, _⟩ | ⟨h, _⟩)
        · exact H1.out h
        · exact h0 h)
      have d0 : (t == 0) = false := by rw [beq_eq_false_iff_ne]; exact h0
      clear h0
      go_enter Try.func42, Try.ntmps42
      go_wp2_with (go_at_call 70; refine (tlegal_any _ _).mono ?_; rintro e w' ⟨rfl, rfl⟩; rw [HT.out])
      go_ret
      exact ⟨ret_bool rfl (by rw [HS.out]), Kp.refl _ _⟩
theorem validS_stamp (L : List Int) : validS L = decide (stampI L) := by
  rw [Bool.eq_iff_iff, decide_eq_true_iff]
  unfold validS stampI
  simp [okN, cntI]
theorem stampOk_any (g : Nat) (m : Msg) (sv : Value) (W : World) (hm : MsgB W g m sv) (hl : Short maxLen m) : Calls Try.prog 73 #[.pointer (some ⟨g, 0, none⟩)] W fun e w' => e = .returned (.bool (decide (stampI m.stamp))) ∧ Kp No W w' := by
  have pv := validS_any sv m.stamp W hm.2.arg hl.2
  have z13 : W.cell? ⟨g, 13, none⟩ = some sv := hm.1.cell 13
  rw [validS_stamp] at pv
  clear hm hl
  go_enter Try.func73, Try.ntmps73
  go_wp2_with (go_at_call 74; refine pv.mono ?_; rintro e w' ⟨rfl, rfl⟩)
  go_ret
  exact ⟨rfl, Kp.refl _ _⟩
theorem pathOk_any (g : Nat) (m : Msg) (sv : Value) (W : World) (hm : MsgB W g m sv) (hl : Short maxLen m) : Calls Try.prog 79 #[.pointer (some ⟨g, 0, none⟩)] W fun e w' => e = .returned (.bool (vpP m.path)) ∧ Kp No W w' := by
  have pv := valid_any ⟨m.path.toArray⟩ W (by simpa [ByteArray.size] using hl.1)
  have z7 : W.cell? ⟨g, 7, none⟩ = some (.string ⟨m.path.toArray⟩) := hm.1.cell 7
  have e : (path (⟨m.path.toArray⟩ : ByteArray).data.toList).isSome = vpP m.path := rfl
  rw [e] at pv
  clear hm hl e
  go_enter Try.func79, Try.ntmps79
  go_wp2_with (go_at_call 80; refine pv.mono ?_; rintro e w' ⟨rfl, rfl⟩)
  go_ret
  exact ⟨rfl, Kp.refl _ _⟩
end Go.Proofs.Ytbnpdghfbiacaaa
