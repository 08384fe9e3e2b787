/- The program's stamps: counts, Valid, inOrder, Compare, by contracts. No condition beyond what each theorem states. -/
import Derived.Test.YtfbogdeodpkhcaaDoorIn
import Derived.PlainAid
import Derived.Deep.QuietTactic
import Derived.BigQuiet
import Derived.Outline
namespace Go.Proofs.YtfbogdeodpkhcaaDoor
open Go Go.RowKit Go.PlainAid

theorem counts_any (n : Int) (w : World) : Calls Tryd.prog 30 #[.int .i64 n] w fun e w' => e = .returned (.bool (okN n)) ∧ w = w' := by
  go_enter Tryd.func30, Tryd.ntmps30
  by_cases h1 : 1 ≤ n <;> by_cases h2 : n ≤ 1099511627776
  all_goals
    have HS := Lib.hid (show okN n = decide (1 ≤ n ∧ n ≤ 1099511627776) from rfl)
    go_wp2
    go_ret
    exact ⟨ret_bool rfl (by rw [HS.out]; simp [h1, h2]), rfl⟩
theorem vf_any (n : Int) (w : World) : Calls Tryd.prog 33 #[.int .i64 n] w fun e w' => e = .returned (.bool (!okN n)) ∧ w = w' := by
  go_enter Tryd.func33, Tryd.ntmps33
  go_wp2_with fail
  refine (counts_any _ _).mono ?_
  rintro e w' ⟨rfl, rfl⟩
  go_wp2
  go_ret
  exact ⟨rfl, rfl⟩
set_option maxHeartbeats 1000000 in
theorem indexF_any (A : Option Addr) (c : Nat) (L : List Int) (w : World) (hv : ArgInts w (.slice A L.length c) L) (hl : L.length ≤ maxLen) :
    Calls Tryd.prog 41 #[.slice A L.length c, .func (.func 33) #[] #[]] w fun e w' => (∃ r : Int, e = .returned (.int .i64 r) ∧ decide (0 ≤ r) = !(L.all okN)) ∧ w = w' := by
  have HV := Lib.hid hv; clear hv
  unfold maxLen at hl
  go_enter Tryd.func41, Tryd.ntmps41
  go_wp2
  go_loopw [8] (fun i wr => ∃ k : Nat, k ≤ L.length ∧ i = .int .i64 k ∧ wr = w ∧ (L.take k).all okN = true) (fun i _ => L.length - (intOf i).toNat)
  case atStart => exact ⟨0, Nat.zero_le _, rfl, rfl, by simp⟩
  case round =>
    obtain ⟨k, hk, rfl, rfl, hF⟩ := hrel
    have HF := Lib.hid hF; clear hF
    by_cases hlt : k < L.length
    · have hk0 : (0 : Int) ≤ (k : Int) := by omega
      have hk1 : (k : Int) < (L.length : Int) := by omega
      obtain ⟨g, o, c', e1, hxx⟩ := HV.out.at_ hlt
      have hx := hxx k _ (List.getElem?_eq_getElem hlt)
      clear hxx
      injection e1 with e1 _ e1c
      subst e1 e1c
      have HT := Lib.hid (all_take okN hlt)
      have HM := Lib.hid (show okN L[k] = false → L.all okN = false from fun h => by
        rw [Bool.eq_false_iff]; intro ha
        have := List.all_eq_true.1 ha _ (List.getElem_mem hlt)
        rw [h] at this; cases this)
      generalize L[k] = x at *
      go_wp2_with fail
      refine (vf_any x _).mono ?_
      rintro e w' ⟨rfl, rfl⟩
      cases hok : okN x with
      | false =>
        have HO := Lib.hid hok; clear hok
        go_wp2
        go_ret
        exact ⟨⟨k, rfl, by rw [HM.out HO.out]; simp⟩, rfl⟩
      | true =>
        have HO := Lib.hid hok; clear hok
        go_wp2
        go_roundw
        case rel => exact ⟨k + 1, by omega, by go_num, by trivial, by rw [HT.out, HF.out, HO.out]; rfl⟩
        case measure => simp [intOf]; omega
    · have hk' : k = L.length := by omega
      have hall : L.all okN = true := by have := HF.out; rwa [hk', List.take_length] at this
      have HA := Lib.hid hall; clear hall hk'
      have hk1 : ¬ (k : Int) < (L.length : Int) := by omega
      go_wp2
      go_ret
      exact ⟨⟨-1, rfl, by rw [HA.out]; rfl⟩, rfl⟩
theorem containsF_any (A : Option Addr) (c : Nat) (L : List Int) (w : World) (hv : ArgInts w (.slice A L.length c) L) (hl : L.length ≤ maxLen) :
    Calls Tryd.prog 32 #[.slice A L.length c, .func (.func 33) #[] #[]] w fun e w' => e = .returned (.bool (!(L.all okN))) ∧ w = w' := by
  go_enter Tryd.func32, Tryd.ntmps32
  go_wp2_with fail
  refine (indexF_any _ _ _ _ hv hl).mono ?_
  rintro e w' ⟨⟨r, rfl, hr⟩, rfl⟩
  have HR := Lib.hid hr; clear hr hv
  go_wp2
  go_ret
  exact ⟨ret_bool rfl HR.out, rfl⟩
theorem validS_any (v : Value) (L : List Int) (w : World) (hv : ArgInts w v L) (hl : L.length ≤ maxLen) :
    Calls Tryd.prog 14 #[v] w fun e w' => e = .returned (.bool (validS L)) ∧ w = w' := by
  have HV := Lib.hid hv
  obtain ⟨A, c, rfl, hc, _⟩ := hv
  go_enter Tryd.func14, Tryd.ntmps14
  by_cases h4 : L.length ≤ 4
  · have h4' : (L.length : Int) ≤ 4 := by omega
    have HS := Lib.hid (show validS L = L.all okN by unfold validS; rw [decide_eq_true h4]; simp)
    go_wp2_with fail
    refine (containsF_any _ _ _ _ HV.out hl).mono ?_
    rintro e w' ⟨rfl, rfl⟩
    generalize L.all okN = b at *
    cases b
    all_goals
      go_wp2
      go_ret
      exact ⟨ret_bool rfl (by rw [HS.out]), rfl⟩
  · have h4' : ¬ (L.length : Int) ≤ 4 := by omega
    have HS := Lib.hid (show validS L = false by unfold validS; rw [decide_eq_false h4]; simp)
    go_wp2
    go_ret
    exact ⟨ret_bool rfl HS.out.symm, rfl⟩

theorem isNaN_any (n : Int) (w : World) : Calls Tryd.prog 50 #[.int .i64 n] w fun e w' => e = .returned (.bool false) ∧ w = w' := by
  go_enter Tryd.func50, Tryd.ntmps50
  go_wp2
  go_ret
  exact ⟨ret_bool rfl (by simp), rfl⟩
theorem cmpI_any (a b : Int) (w : World) : Calls Tryd.prog 42 #[.int .i64 a, .int .i64 b] w fun e w' => e = .returned (.int .i64 (cmpI a b)) ∧ w = w' := by
  go_enter Tryd.func42, Tryd.ntmps42
  go_wp2_with fail
  refine (isNaN_any _ _).mono ?_
  rintro e w' ⟨rfl, rfl⟩
  go_wp2_with fail
  refine (isNaN_any _ _).mono ?_
  rintro e w' ⟨rfl, rfl⟩
  have HS := Lib.hid (show cmpI a b = if a < b then -1 else if b < a then 1 else 0 from rfl)
  by_cases h1 : a < b
  · go_wp2
    go_ret
    exact ⟨ret_int rfl (by rw [HS.out, if_pos h1]), rfl⟩
  · by_cases h2 : b < a
    · go_wp2
      go_ret
      exact ⟨ret_int rfl (by rw [HS.out, if_neg (by omega), if_pos h2]), rfl⟩
    · go_wp2
      go_ret
      exact ⟨ret_int rfl (by rw [HS.out, if_neg (by omega), if_neg (by omega)]), rfl⟩
theorem cmpI_cases (a b : Int) : (cmpI a b = -1 ∧ a < b) ∨ (cmpI a b = 1 ∧ b < a) ∨ (cmpI a b = 0 ∧ a = b) := by
  unfold cmpI
  by_cases h1 : a < b
  · rw [if_pos h1]; exact .inl ⟨rfl, h1⟩
  · by_cases h2 : b < a
    · rw [if_neg h1, if_pos h2]; exact .inr (.inl ⟨rfl, h2⟩)
    · rw [if_neg h1, if_neg h2]; exact .inr (.inr ⟨rfl, by omega⟩)
set_option maxHeartbeats 1000000 in
set_option maxRecDepth 100000 in
theorem inOrder_any (v u : Value) (L M : List Int) (w : World) (hv : ArgInts w v L) (hu : ArgInts w u M) (hl : L.length ≤ maxLen) (hm : M.length ≤ maxLen) :
    Calls Tryd.prog 34 #[v, u] w fun e w' => e = .returned (.int .i64 (cmpS L M)) ∧ Kp No w w' := by
  unfold maxLen at hl hm
  have HV := Lib.hid hv; have HU := Lib.hid hu
  obtain ⟨A, c, rfl, hc, _⟩ := hv
  obtain ⟨B, d, rfl, hd, _⟩ := hu
  go_enter Tryd.func34, Tryd.ntmps34
  rcases (by omega : L.length < M.length ∨ M.length < L.length ∨ (L.length ≤ M.length ∧ M.length ≤ L.length)) with hlm | hlm | ⟨hlm, hlm2⟩
  all_goals
    go_wp2
    go_loopw [12] (fun i wr => ∃ k : Nat, k ≤ L.length ∧ k ≤ M.length ∧ i = .int .i64 k ∧ Kp No w wr ∧ cmpS (L.drop k) (M.drop k) = cmpS L M) (fun i _ => L.length - (intOf i).toNat)
    case atStart => exact ⟨0, Nat.zero_le _, Nat.zero_le _, rfl, Kp.refl _ _, rfl⟩
    case round =>
      obtain ⟨k, hk, hk', rfl, hkp, hF⟩ := hrel
      by_cases hlt : k < L.length ∧ k < M.length
      · obtain ⟨h1, h2⟩ := hlt
        have hk0 : (0 : Int) ≤ (k : Int) := by omega
        have hk1 : (k : Int) < (L.length : Int) := by omega
        have hk2 : (k : Int) < (M.length : Int) := by omega
        obtain ⟨g, o, c', e1, hxx⟩ := (HV.out.no hkp).at_ h1
        have hx := hxx k _ (List.getElem?_eq_getElem h1)
        obtain ⟨g2, o2, d', e2, hyy⟩ := (HU.out.no hkp).at_ h2
        have hy := hyy k _ (List.getElem?_eq_getElem h2)
        clear hxx hyy
        injection e1 with e1 _ e1c; injection e2 with e2 _ e2c
        subst e1 e2 e1c e2c
        rw [cmpS_step h1 h2] at hF
        generalize L[k] = x at *
        generalize M[k] = y at *
        rcases cmpI_cases x y with ⟨e, hc⟩ | ⟨e, hc⟩ | ⟨e, hc⟩
        · rw [if_pos hc] at hF
          have HF := Lib.hid hF; have HE := Lib.hid e; clear hF e hc
          go_wp2
          go_quiet ((go_at_call 42; exact Calls.quiet_of_same ((cmpI_any x y _).mono fun _ _ ⟨h1, h2⟩ => ⟨by rw [HE.out] at h1; exact h1, h2.symm⟩)))
          go_wp2
          go_ret
          exact ⟨ret_int rfl HF.out, hkp.drewN _⟩
        · rw [if_neg (by omega), if_pos hc] at hF
          have HF := Lib.hid hF; have HE := Lib.hid e; clear hF e hc
          go_wp2
          go_quiet ((go_at_call 42; exact Calls.quiet_of_same ((cmpI_any x y _).mono fun _ _ ⟨h1, h2⟩ => ⟨by rw [HE.out] at h1; exact h1, h2.symm⟩)))
          go_wp2
          go_ret
          exact ⟨ret_int rfl HF.out, hkp.drewN _⟩
        · subst hc
          rw [if_neg (by omega), if_neg (by omega)] at hF
          have HF := Lib.hid hF; have HE := Lib.hid e; clear hF e
          go_wp2
          go_quiet ((go_at_call 42; exact Calls.quiet_of_same ((cmpI_any x x _).mono fun _ _ ⟨h1, h2⟩ => ⟨by rw [HE.out] at h1; exact h1, h2.symm⟩)))
          go_wp2
          go_roundw
          case rel => exact ⟨k + 1, by omega, by omega, by go_num, hkp.drewN _, HF.out⟩
          case measure => simp [intOf]; omega
      · first
        | (have hk1 : ¬ (k : Int) < (L.length : Int) := by omega
           have hE : cmpI L.length M.length = cmpS L M := by
             rw [← hF]; unfold cmpI
             rw [if_pos (by omega), cmpS_end1 (by omega) (by omega)]
           have HE := Lib.hid hE
           clear hF hE hlt
           go_wp2_with fail
           refine (cmpI_any _ _ _).mono ?_
           rintro e w' ⟨rfl, rfl⟩
           rw [HE.out]
           go_wp2
           go_ret
           exact ⟨rfl, hkp⟩)
        | (have hk1 : ¬ (k : Int) < (M.length : Int) := by omega
           have hE : cmpI L.length M.length = cmpS L M := by
             rw [← hF]; unfold cmpI
             by_cases he : M.length < L.length
             · rw [if_neg (by omega), if_pos (by omega), cmpS_end2 (by omega) (by omega)]
             · rw [if_neg (by omega), if_neg (by omega), cmpS_end0 (by omega) (by omega)]
           have HE := Lib.hid hE
           clear hF hE hlt
           go_wp2_with fail
           refine (cmpI_any _ _ _).mono ?_
           rintro e w' ⟨rfl, rfl⟩
           rw [HE.out]
           go_wp2
           go_ret
           exact ⟨rfl, hkp⟩)
end Go.Proofs.YtfbogdeodpkhcaaDoor
