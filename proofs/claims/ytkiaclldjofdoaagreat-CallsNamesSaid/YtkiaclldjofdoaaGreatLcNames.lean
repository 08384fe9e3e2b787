/- CallsNames: the error and limits are the document's, and four calls may be open within a window of eight, for every run. No condition. -/
import Derived.Test.YtkiaclldjofdoaaGreatH06
import Derived.ProofKit
import Derived.OpenShut
import Derived.ShutString
import Derived.ChangeOld
import Derived.SizedLaws
import Derived.Below
namespace Go.Proofs.YtkiaclldjofdoaaGreat.callsNames
open Go Go.Maps Go.PlainAid Go.ChangeShapes Go.WideShapes Go.ChangeAt Go.RowKit
open Go.ChangeMaps (open_string shut_string)

theorem own : ownKnob Tryz.prog.godebug = none := by kernel_rfl
theorem laidOut : laidOutB Tryz.prog = true := by kernel_rfl
/-- k calls are open, none closed -/
def nC1 (k : Nat) : Cls := { boot := 1099511627776, next := k + 1, opn := (List.range k).map (fun j : Nat => sX ((j : Int) + 1) 0 1) }
theorem nC1_next (k : Nat) : ({ nC1 k with next := (nC1 k).next + 1, opn := (nC1 k).opn ++ [sX (nC1 k).next 0 1] } : Cls) = nC1 (k + 1) := by
  unfold nC1
  rw [List.range_succ, List.map_append]
  simp
theorem nC1_len (k : Nat) : (nC1 k).opn.length = k := by simp [nC1]
theorem nC1_low (k : Nat) : (nC1 k).low = 1 := by
  unfold Cls.low nC1
  cases k with
  | zero => rfl
  | succ k => rw [List.range_succ_eq_map]; rfl
theorem nC1_ok (k : Nat) (hk : k ≤ 4) : CsOk (nC1 k) where
  boot := (by decide : (1 : Int) ≤ 1099511627776 ∧ (1099511627776 : Int) ≤ 1099511627776)
  next := by show 1 ≤ (k : Int) + 1 ∧ (k : Int) + 1 ≤ 1099511627777; omega
  ris := by
    show List.Pairwise _ _
    unfold nC1
    rw [List.pairwise_map]
    exact List.pairwise_lt_range.imp (fun h => by show (_ : Int) + 1 < _ + 1; omega)
  num := by
    intro x hx
    unfold nC1 at hx
    obtain ⟨j, hj, rfl⟩ := List.mem_map.1 hx
    have := List.mem_range.1 hj
    show 1 ≤ (j : Int) + 1 ∧ (j : Int) + 1 < (k : Int) + 1
    omega
  win := by rw [nC1_low]; show (k : Int) + 1 ≤ 1 + 8; omega
  len := by rw [nC1_len]; exact hk
/-- one call is open, some number comes next -/
def nC2 (n : Int) : Cls := { boot := 1099511627776, next := n, opn := [sX 1 0 1] }
theorem nC2_ok (n : Int) (h1 : 2 ≤ n) (h2 : n ≤ 9) : CsOk (nC2 n) where
  boot := (by decide : (1 : Int) ≤ 1099511627776 ∧ (1099511627776 : Int) ≤ 1099511627776)
  next := by show 1 ≤ n ∧ n ≤ 1099511627777; omega
  ris := List.pairwise_singleton _ _
  num := by intro x hx; simp only [nC2, List.mem_singleton] at hx; subst hx; show (1 : Int) ≤ 1 ∧ 1 < n; omega
  win := by show n ≤ 1 + 8; omega
  len := (by decide : (1 : Nat) ≤ 4)
theorem nC2_close (n : Int) (h1 : 2 ≤ n) : closeC { nC2 n with next := n + 1, opn := (nC2 n).opn ++ [sX n 0 1] } n = nC2 (n + 1) := by
  unfold closeC nC2
  have e1 : (fun x : Cll => decide (x.seq ≠ n)) (sX 1 0 1) = true := decide_eq_true (show (1 : Int) ≠ n by omega)
  have e2 : ¬ (fun x : Cll => decide (x.seq ≠ n)) (sX n 0 1) = true := by
    show ¬ decide (n ≠ n) = true
    simp
  simp only [List.cons_append, List.nil_append]
  rw [List.filter_cons_of_pos (p := fun x : Cll => decide (x.seq ≠ n)) e1, List.filter_cons_of_neg (p := fun x : Cll => decide (x.seq ≠ n)) e2, List.filter_nil]
set_option maxRecDepth 100000 in
set_option maxHeartbeats 8000000 in
theorem walk (W : World) : Calls Tryz.prog 3 #[] W fun e w' => e = .returned (.bool true) ∧ Below W.heap.size W w' := by
  go_enter Tryz.func3, Tryz.ntmps3
  go_wp2_with fail
  refine (new_good 1099511627776 W (by decide) (by decide)).mono ?_
  rintro e w1 ⟨b, mb, rfl, o1, hb, hmb, k1⟩
  go_wp2_with fail
  refine (new_bad 0 w1 (.inl (by decide))).mono ?_
  rintro e w2 ⟨rfl, rfl⟩
  go_wp2_with fail
  refine (awake14_any w1).mono ?_
  rintro e w3 ⟨rfl, k3⟩
  have HO3 := Lib.hid (show OwnCs w3 b mb (nC1 0) from o1.no k3)
  have HK3 := Lib.hid (k1.trans k3)
  clear o1 k1 k3
  go_wp2
  go_loopw [5] (fun i wr => ∃ k : Nat, k ≤ 4 ∧ i = .int .i64 ((k : Int) + 1) ∧ OwnCs wr b mb (nC1 k) ∧ Kp No W wr) (fun i _ => 5 - (intOf i).toNat)
  case atStart => exact ⟨0, Nat.zero_le _, rfl, HO3.out, HK3.out⟩
  case round =>
    obtain ⟨k, hk, rfl, ho, hkk⟩ := hrel
    have HO := Lib.hid ho; have HK := Lib.hid hkk
    clear ho hkk HO3 HK3
    by_cases hlt : k < 4
    · have hl1 : (k : Int) + 1 ≤ 4 := by omega
      go_wp2_with fail
      refine (acquire_any wr).mono ?_
      rintro e w4 ⟨rfl, k4⟩
      go_wp2_with fail
      have po := open_acq b mb (nC1 k) 0 w4 (HO.out.no k4) (nC1_ok k hk) (by decide) (by show (k : Int) + 1 ≤ 1099511627776; omega) (by rw [nC1_len]; exact hlt) (by rw [nC1_low]; show (k : Int) + 1 < 1 + 8; omega)
      rw [nC1_next] at po
      have hnx : (nC1 k).next = (k : Int) + 1 := rfl
      rw [hnx] at po
      refine po.mono ?_
      rintro e w5 ⟨rfl, o5, k5⟩
      have HO5 := Lib.hid o5
      have HK5 := Lib.hid (kp_two (HK.out.trans k4) k5 hb hmb)
      clear o5 k5 k4 po hnx
      go_wp2
      go_roundw
      case rel => exact ⟨k + 1, by omega, by go_num, HO5.out, HK5.out⟩
      case measure => simp [intOf]; omega
    · obtain rfl : k = 4 := by omega
      have hl1 : ¬ ((4 : Nat) : Int) + 1 ≤ 4 := by decide
      have HL := Lib.hid (show nC1 4 = { boot := 1099511627776, next := 5, opn := [sX 1 0 1, sX 2 0 1, sX 3 0 1, sX 4 0 1] } from rfl)
      go_wp2_with fail
      refine (acquire_any wr).mono ?_
      rintro e w4 ⟨rfl, k4⟩
      go_wp2_with fail
      refine (open_acq_busy b mb (nC1 4) 0 w4 (HO.out.no k4) (nC1_ok 4 (by decide)) (by decide) (by decide) (.inl (by rw [nC1_len]; decide))).mono ?_
      rintro e w5 ⟨rfl, o5, k5⟩
      have HK5 := Lib.hid (kp_two (HK.out.trans k4) k5 hb hmb)
      have HO5 := Lib.hid o5
      clear o5 k5 k4
      go_wp2_with fail
      refine (close_any b mb (nC1 4) 2 w5 HO5.out (by decide)).mono ?_
      rintro e w6 ⟨rfl, o6, k6⟩
      have HK6 := Lib.hid (kp_one HK5.out k6 hmb)
      have HO6 := Lib.hid (show OwnCs w6 b mb { boot := 1099511627776, next := 5, opn := [sX 1 0 1, sX 3 0 1, sX 4 0 1] } from o6)
      clear o6 k6
      go_wp2_with fail
      refine (close_any b mb _ 3 w6 HO6.out (by decide)).mono ?_
      rintro e w7 ⟨rfl, o7, k7⟩
      have HK7 := Lib.hid (kp_one HK6.out k7 hmb)
      have HO7 := Lib.hid (show OwnCs w7 b mb { boot := 1099511627776, next := 5, opn := [sX 1 0 1, sX 4 0 1] } from o7)
      clear o7 k7
      go_wp2_with fail
      refine (close_any b mb _ 4 w7 HO7.out (by decide)).mono ?_
      rintro e w8 ⟨rfl, o8, k8⟩
      have HK8 := Lib.hid (kp_one HK7.out k8 hmb)
      have HO8 := Lib.hid (show OwnCs w8 b mb (nC2 5) from o8)
      clear o8 k8 HO5 HO6 HO7 HK5 HK6 HK7 HL
      go_wp2
      go_loopw [10] (fun i wr => ∃ k : Nat, k ≤ 4 ∧ i = .int .i64 ((k : Int) + 5) ∧ OwnCs wr b mb (nC2 ((k : Int) + 5)) ∧ Kp No W wr) (fun i _ => 9 - (intOf i).toNat)
      case atStart => exact ⟨0, Nat.zero_le _, rfl, HO8.out, HK8.out⟩
      case round =>
        obtain ⟨k, hk, rfl, ho, hkk⟩ := hrel
        have HO := Lib.hid ho; have HK := Lib.hid hkk
        clear ho hkk HO8 HK8
        by_cases hlt : k < 4
        · have hl2 : (k : Int) + 5 ≤ 8 := by omega
          go_wp2_with fail
          refine (acquire_any wr).mono ?_
          rintro e w4 ⟨rfl, k4⟩
          go_wp2_with fail
          have po := open_acq b mb (nC2 ((k : Int) + 5)) 0 w4 (HO.out.no k4) (nC2_ok _ (by omega) (by omega)) (by decide) (by show (k : Int) + 5 ≤ 1099511627776; omega) (show 1 < 4 by decide) (by show (k : Int) + 5 < 1 + 8; omega)
          have hnx : (nC2 ((k : Int) + 5)).next = (k : Int) + 5 := rfl
          rw [hnx] at po
          refine po.mono ?_
          rintro e w5 ⟨rfl, o5, k5⟩
          have HO5 := Lib.hid o5
          have HK5 := Lib.hid (kp_two (HK.out.trans k4) k5 hb hmb)
          clear o5 k5 k4 po hnx
          go_wp2_with fail
          have pc := close_any b mb _ ((k : Int) + 5) w5 HO5.out (wf64 ⟨by omega, by omega⟩)
          rw [nC2_close _ (by omega)] at pc
          refine pc.mono ?_
          rintro e w6 ⟨rfl, o6, k6⟩
          have HK6 := Lib.hid (kp_one HK5.out k6 hmb)
          have HO6 := Lib.hid o6
          clear o6 k6 pc
          go_wp2
          go_roundw
          case rel => exact ⟨k + 1, by omega, by go_num, by have := HO6.out; rw [show ((k + 1 : Nat) : Int) + 5 = (k : Int) + 5 + 1 by omega]; exact this, HK6.out⟩
          case measure => simp [intOf]; omega
        · obtain rfl : k = 4 := by omega
          have hl2 : ¬ ((4 : Nat) : Int) + 5 ≤ 8 := by decide
          have HO9 := Lib.hid (show OwnCs wr b mb (nC2 9) from HO.out)
          go_wp2_with fail
          refine (acquire_any wr).mono ?_
          rintro e w4 ⟨rfl, k4⟩
          go_wp2_with fail
          refine (open_acq_busy b mb (nC2 9) 0 w4 (HO9.out.no k4) (nC2_ok 9 (by decide) (by decide)) (by decide) (by decide) (.inr (by decide))).mono ?_
          rintro e w5 ⟨rfl, o5, k5⟩
          have HK5 := Lib.hid (kp_two (HK.out.trans k4) k5 hb hmb)
          have HO5 := Lib.hid o5
          clear o5 k5 k4
          go_wp2_with fail
          refine (close_any b mb (nC2 9) 1 w5 HO5.out (by decide)).mono ?_
          rintro e w6 ⟨rfl, o6, k6⟩
          have HK6 := Lib.hid (kp_one HK5.out k6 hmb)
          have HO6 := Lib.hid (show OwnCs w6 b mb { boot := 1099511627776, next := 9, opn := [] } from o6)
          have HC6 := Lib.hid (show CsOk { boot := 1099511627776, next := 9, opn := [] } from (nC2_ok 9 (by decide) (by decide)).closed 1)
          clear o6 k6
          go_wp2_with fail
          refine (acquire_any w6).mono ?_
          rintro e w7 ⟨rfl, k7⟩
          go_wp2_with fail
          refine (open_acq b mb _ 0 w7 (HO6.out.no k7) HC6.out (by decide) (by decide) (by decide) (by decide)).mono ?_
          rintro e w8 ⟨rfl, o8, k8⟩
          have HK8 := Lib.hid (kp_two (HK6.out.trans k7) k8 hb hmb)
          clear o8 k8 k7
          go_wp2
          go_ret
          exact ⟨rfl, HK8.out.below (Nat.le_refl _) (fun _ _ m => m)⟩

/-! ### The row's step -/
set_option maxRecDepth 100000 in
theorem lifted (os : Os) (started : os.Started) (H : Type) (enc : TypeId × Value → H) :
    ReturnsInHanded {} Tryz.checked os 3 .any (Rows.callsNamesSpec.pre6 enc Tryz.prog Tryz.f3 Rows.callsNamesRow.domain false) (Rows.callsNamesSpec.post enc Tryz.prog Tryz.f3 false true false false) := by
  refine returnsInHanded_of_change_sized (C := Tryz.checked) own started (by kernel_rfl) Tryz.func3
    (ChangeSpec.witness6 (enc := enc) (C := Tryz.checked) false ⟨#[], #[], []⟩ 8 (by kernel_rfl) (by kernel_rfl) (by kernel_rfl) (by kernel_rfl)) ?_
  intro W base args ds gs before hval0 hW hcnd hsz0 _
  have hval : ∀ (j : Nat) t v, Tryz.f3.params[j]? = some t → args[j]? = some v → Value.okWide Tryz.prog W .any base t v := hval0
  have hW' := hW
  obtain ⟨p, q, hA0, hV, rfl, hfz, hnd⟩ := hW
  have hA : DataW.TrodAll enc Tryz.prog W 0 (fun _ => true) true Tryz.f3.params.toList args.toList ds p := hA0
  rw [Tryz.params3] at hA hval
  obtain ⟨rfl, rfl, rfl⟩ := trodAll_none hA
  obtain ⟨rfl, rfl⟩ := trodVars_none hV
  have hsz : ∀ (j : Nat) (t : TypeId) (d : DataW H), ([] : List TypeId)[j]? = some t → [][j]? = some d → ∀ n ∈ d.weights Tryz.prog t, n ≤ reachBytes := by
    intro j t d ht hd n hn
    have hsz1 : (DataW.weightsEach Tryz.prog ([] : List TypeId) []).all (· ≤ reachBytes) = true := hsz0
    have := List.all_eq_true.1 hsz1 n (DataW.weights_mem_each ht hd n hn)
    simpa using this
  refine (walk  W ).mono fun e W' ⟨he, bel⟩ => ?_
  subst he
  exact ⟨_, rfl, _, _, _, [], _, [], hW', trodAll_mk1 (shut_bool Tryz.underlying4 _), trodAll_mk0, rfl, bel.frame _, fun h => by cases h⟩

theorem over : Rows.callsNamesRow.holds Tryz.pinned (OpenSpec.ofChange Rows.callsNamesSpec) :=
  OpenClaim.holds_of_wide 3 Tryz.f3 rfl rfl rfl rfl rfl rfl rfl ⟨rfl, rfl, rfl, rfl, rfl⟩ rfl rfl rfl rfl rfl (by kernel_rfl) Tryz.func3 (by kernel_rfl)
    (of_decide_eq_true (by kernel_rfl)) (by unfold Func.isWrapper; first | (rw [if_pos (by decide +kernel)]; kernel_rfl) | (rw [if_neg (by decide +kernel)]; exact ⟨rfl, rfl⟩))
    (fun os started H enc _ => lifted os started H enc)

theorem proved : Rows.CallsNamesSaid := over
#print axioms proved
end Go.Proofs.YtkiaclldjofdoaaGreat.callsNames
