/- The program's stamps: counts, Valid, inOrder, Compare, by contracts. No condition beyond what each theorem states. -/
import Derived.Test.YtbnpdghfbiacaaaIn
import Derived.PlainAid
import Derived.Deep.QuietTactic
import Derived.BigQuiet
import Derived.Outline
namespace Go.Proofs.Ytbnpdghfbiacaaa
open Go Go.RowKit Go.PlainAid

theorem counts_any (n : Int) (w : World) : Calls Try.prog 90 #[.int .i64 n] w fun e w' => e = .returned (.bool (okN n)) ∧ w = w' := by
  go_enter Try.func90, Try.ntmps90
  by_cases h1 : 1 ≤ n <;> by_cases h2 : n ≤ 1099511627776
  all_goals
    have HS := Lib.hid (show okN n = decide (1 ≤ n ∧ n ≤ 1099511627776) from rfl)
    go_wp2
    go_ret
    exact ⟨ret_bool rfl (by rw [HS.out]; simp [h1, h2]), rfl⟩
theorem vf_any (n : Int) (w : World) : Calls Try.prog 89 #[.int .i64 n] w fun e w' => e = .returned (.bool (!okN n)) ∧ w = w' := by
  go_enter Try.func89, Try.ntmps89
  go_wp2_with fail
  refine (counts_any _ _).mono ?_
  rintro e w' ⟨rfl, rfl⟩
  go_wp2
  go_ret
  exact ⟨rfl, rfl⟩
set_option maxHeartbeats 1000000 in
theorem indexF_any (A : Option Addr) (c : Nat) (L : List Int) (w : World) (hv : ArgInts w (.slice A L.length c) L) (hl : L.length ≤ maxLen) :
    Calls Try.prog 95 #[.slice A L.length c, .func (.func 89) #[] #[]] w fun e w' => (∃ r : Int, e = .returned (.int .i64 r) ∧ decide (0 ≤ r) = !(L.all okN)) ∧ w = w' := by
  have HV := Lib.hid hv; clear hv
  unfold maxLen at hl
  go_enter Try.func95, Try.ntmps95
  go_wp2
  go_loopw [8] (fun i wr => ∃ k : Nat, k ≤ L.length ∧ i = .int .i64 k ∧ wr = w ∧ (L.take k).all okN = true) (fun i _ => L.length - (intOf i).toNat)
  case atStart => exact ⟨0, Nat.zero_le _, rfl, rfl, by simp⟩
  case round =>
    obtain ⟨k, hk, rfl, rfl, hF⟩ := hrel
    have HF := Lib.hid hF; clear hF
    by_cases hlt : k < L.length
    · have hk0 : (0 : Int) ≤ (k : Int) := by omega
      have hk1 : (k : Int) < (L.length : Int) := by omega
      obtain ⟨g, o, c', e1, hxx⟩ := HV.out.at_ hlt
      have hx := hxx k _ (List.getElem?_eq_getElem hlt)
      clear hxx
      injection e1 with e1 _ e1c
      subst e1 e1c
      have HT := Lib.hid (all_take okN hlt)
      have HM := Lib.hid (show okN L[k] = false → L.all okN = false from fun h => by
        rw [Bool.eq_false_iff]; intro ha
        have := List.all_eq_true.1 ha _ (List.getElem_mem hlt)
        rw [h] at this; cases this)
      generalize L[k] = x at *
      go_wp2_with fail
      refine (vf_any x _).mono ?_
      rintro e w' ⟨rfl, rfl⟩
      cases hok : okN x with
      | false =>
        have HO := Lib.hid hok; clear hok
        go_wp2
        go_ret
        exact ⟨⟨k, rfl, by rw [HM.out HO.out]; simp⟩, rfl⟩
      | true =>
        have HO := Lib.hid hok; clear hok
        go_wp2
        go_roundw
        case rel => exact ⟨k + 1, by omega, by go_num, by trivial, by rw [HT.out, HF.out, HO.out]; rfl⟩
        case measure => simp [intOf]; omega
    · have hk' : k = L.length := by omega
      have hall : L.all okN = true := by have := HF.out; rwa [hk', List.take_length] at this
      have HA := Lib.hid hall; clear hall hk'
      have hk1 : ¬ (k : Int) < (L.length : Int) := by omega
      go_wp2
      go_ret
      exact ⟨⟨-1, rfl, by rw [HA.out]; rfl⟩, rfl⟩
theorem containsF_any (A : Option Addr) (c : Nat) (L : List Int) (w : World) (hv : ArgInts w (.slice A L.length c) L) (hl : L.length ≤ maxLen) :
    Calls Try.prog 88 #[.slice A L.length c, .func (.func 89) #[] #[]] w fun e w' => e = .returned (.bool (!(L.all okN))) ∧ w = w' := by
  go_enter Try.func88, Try.ntmps88
  go_wp2_with fail
  refine (indexF_any _ _ _ _ hv hl).mono ?_
  rintro e w' ⟨⟨r, rfl, hr⟩, rfl⟩
  have HR := Lib.hid hr; clear hr hv
  go_wp2
  go_ret
  exact ⟨ret_bool rfl HR.out, rfl⟩
theorem validS_any (v : Value) (L : List Int) (w : World) (hv : ArgInts w v L) (hl : L.length ≤ maxLen) :
    Calls Try.prog 74 #[v] w fun e w' => e = .returned (.bool (validS L)) ∧ w = w' := by
  have HV := Lib.hid hv
  obtain ⟨A, c, rfl, hc, _⟩ := hv
  go_enter Try.func74, Try.ntmps74
  by_cases h4 : L.length ≤ 4
  · have h4' : (L.length : Int) ≤ 4 := by omega
    have HS := Lib.hid (show validS L = L.all okN by unfold validS; rw [decide_eq_true h4]; simp)
    go_wp2_with fail
    refine (containsF_any _ _ _ _ HV.out hl).mono ?_
    rintro e w' ⟨rfl, rfl⟩
    generalize L.all okN = b at *
    cases b
    all_goals
      go_wp2
      go_ret
      exact ⟨ret_bool rfl (by rw [HS.out]), rfl⟩
  · have h4' : ¬ (L.length : Int) ≤ 4 := by omega
    have HS := Lib.hid (show validS L = false by unfold validS; rw [decide_eq_false h4]; simp)
    go_wp2
    go_ret
    exact ⟨ret_bool rfl HS.out.symm, rfl⟩

end Go.Proofs.Ytbnpdghfbiacaaa
