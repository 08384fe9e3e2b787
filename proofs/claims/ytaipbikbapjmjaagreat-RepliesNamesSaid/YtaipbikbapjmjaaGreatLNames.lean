/- RepliesNames: the verdicts and the window are the document's. No condition. -/
import Derived.Test.YtaipbikbapjmjaaGreatB17
import Derived.ProofKit
import Derived.OpenShut
import Derived.ShutString
import Derived.ChangeOld
import Derived.SizedLaws
import Derived.Below
namespace Go.Proofs.YtaipbikbapjmjaaGreat.repliesNames
open Go.ChangeShapes Go.WideShapes Go.ChangeAt Go.RowKit
open Go.ChangeMaps (open_string shut_string)

theorem own : ownKnob Tryz.prog.godebug = none := by kernel_rfl
theorem laidOut : laidOutB Tryz.prog = true := by kernel_rfl
def nm : Nat → List Pc
  | 0 => List.replicate 8 {}
  | k + 1 => (keepP (nm k) (askM 1 ((k : Int) + 1) 1) (refM 1 ((k : Int) + 1))).1
theorem nm_all : ∀ k : Nat, k < 8 → (keepP (nm k) (askM 1 ((k : Int) + 1) 1) (refM 1 ((k : Int) + 1))).2 = true := by decide +kernel
theorem nm_step (k : Nat) (hk : k < 8) : keepP (nm k) (askM 1 ((k : Int) + 1) 1) (refM 1 ((k : Int) + 1)) = (nm (k + 1), true) := Prod.ext rfl (nm_all k hk)
def nm1 : List Pc := (seenP (nm 8) (askM 1 9 1)).1
def nm2 : List Pc := (seenP nm1 (askM 1 9 2)).1
def nm3 : List Pc := (seenP nm2 (askM 2 1 1)).1
theorem nm_e1 : seenP (nm 8) (askM 1 9 1) = (nm1, 1, {}) := by kernel_rfl
theorem nm_e2 : lenP nm1 1 = 8 := by kernel_rfl
theorem nm_e3 : seenP nm1 (askM 1 9 2) = (nm2, 3, {}) := by kernel_rfl
theorem nm_e4 : seenP nm2 (askM 2 1 1) = (nm3, 3, {}) := by kernel_rfl
theorem nm_e5 : lenP nm3 1 = 0 := by kernel_rfl
theorem nm_e6 : lenP nm3 8 = 0 := by kernel_rfl
theorem nm_e7 : lenP nm3 (-1) = 0 := by kernel_rfl
set_option maxRecDepth 100000 in
set_option maxHeartbeats 8000000 in
theorem walk (W : World) : Calls Tryz.prog 3 #[] W fun e w' => e = .returned (.bool true) ∧ Below W.heap.size W w' := by
  go_enter Tryz.func3, Tryz.ntmps3
  go_wp2_with fail
  refine (rnew_any _).mono ?_
  rintro e w0 ⟨rfl, hb0, k0⟩
  have HR0 := Lib.hid (rpB_new hb0)
  have HK0 := Lib.hid k0
  obtain ⟨b, hb⟩ : ∃ b, b = W.heap.size := ⟨_, rfl⟩
  rw [← hb] at HR0 ⊢
  have HBW := Lib.hid (show W.heap.size ≤ b by omega)
  clear hb0 k0 hb
  go_wp2_with fail
  refine (awake_any _).mono ?_
  rintro e wa ⟨rfl, ka⟩
  have HRa := Lib.hid (HR0.out.no ka)
  have HKa := Lib.hid (HK0.out.trans ka)
  clear HR0 HK0 ka
  go_wp2
  go_loopw [2] (fun i wr => ∃ k : Nat, k ≤ 8 ∧ i = .int .i64 (k + 1) ∧ RpB wr b (fun _ => True) (nm k) ∧ Kp No W wr) (fun i _ => 9 - (intOf i).toNat)
  case atStart => exact ⟨0, Nat.zero_le _, by simp, HRa.out, HKa.out⟩
  case round =>
  obtain ⟨k, hk, rfl, hr, hkp⟩ := hrel
  have HRk := Lib.hid hr; have HKk := Lib.hid hkp
  clear hr hkp HRa HKa
  by_cases hlt : k < 8
  · have hk1 : (k : Int) + 1 ≤ 8 := by omega
    have hk2 : (0 : Int) ≤ (k : Int) := by omega
    have HNM := Lib.hid (nm_step k hlt)
    go_wp2_with fail
    refine (ask_any 1 ((k : Int) + 1) 1 _).mono ?_
    rintro e w1 ⟨rfl, k1⟩
    have HR1 := Lib.hid (HRk.out.no k1)
    clear HRk
    have HK1 := Lib.hid (HKk.out.trans k1)
    clear HKk
    clear k1
    go_wp2_with fail
    refine (refusal_any 1 ((k : Int) + 1) _).mono ?_
    rintro e w2 ⟨rfl, k2⟩
    have HR2 := Lib.hid (HR1.out.no k2)
    clear HR1
    have HK2 := Lib.hid (HK1.out.trans k2)
    clear HK1
    clear k2
    have ps3 := rkeep_any b (fun _ => True) (nm k) (askM 1 ((k : Int) + 1) 1) (refM 1 ((k : Int) + 1)) (.slice none 0 0) (.slice none 0 0) w2 HR2.out (SlI.nil _ _ _) (small_rng15 (by simp [askM]; omega) rfl) ⟨by simp [askM, maxLen], by simp [askM, maxLen]⟩ (SlI.nil _ _ _) (small_rng15 (by simp [refM]; omega) rfl) ⟨by simp [refM, maxLen], by simp [refM, maxLen]⟩
    unfold KeepR at ps3
    rw [HNM.out] at ps3
    go_wp2_with fail
    refine ps3.mono ?_
    rintro e w3 ⟨r3, k3, rfl⟩
    have HK3 := Lib.hid (HK2.out.then_ k3 fun j hj e => by have e : j = b := e; have := HBW.out; omega)
    have HR3 := Lib.hid (r3.mono (Q := fun _ => True) fun _ _ => trivial)
    clear ps3 r3 k3 HR2 HK2
    go_wp2
    go_roundw
    case rel => exact ⟨k + 1, by omega, by go_num, HR3.out, HK3.out⟩
    case measure => simp [intOf]; omega
  have hk8 : k = 8 := by omega
  have hk1 : ¬ (k : Int) + 1 ≤ 8 := by omega
  have HR8 := Lib.hid (show RpB wr b (fun _ => True) (nm 8) from by rw [← hk8]; exact HRk.out)
  clear hlt hk hk8 HRk
  go_wp2_with fail
  refine (ask_any 1 9 1 _).mono ?_
  rintro e w4 ⟨rfl, k4⟩
  have HR4 := Lib.hid (HR8.out.no k4)
  clear HR8
  have HK4 := Lib.hid (HKk.out.trans k4)
  clear HKk
  clear k4
  have ps5 := rseen_any b (fun _ => True) (nm 8) (askM 1 9 1) (.slice none 0 0) w4 HR4.out (SlI.nil _ _ _) (small_rng15 (by simp [askM]) rfl) ⟨by simp [askM, maxLen], by simp [askM, maxLen]⟩
  unfold SeenR at ps5
  rw [nm_e1] at ps5
  go_wp2_with fail
  refine ps5.mono ?_
  rintro e w5 ⟨r5, k5, sv5, rfl, o5⟩
  obtain ⟨A5, c5, rfl, _⟩ := own_len o5
  have HK5 := Lib.hid (HK4.out.then_ k5 fun j hj e => by have e : j = b := e; have := HBW.out; omega)
  clear HK4
  have HR5 := Lib.hid r5
  clear ps5 r5 k5 o5 HR4
  go_upto_region 10 with (refine wpList_store_mid rfl _ _ _ rfl w5.heap.size 0 (mcells ({} : Msg) (.slice A5 0 c5)).toArray rfl rfl (msg_there _ _ _) (msg_info _ _) (msg_one _ _ _ _) ?_)
  have g6 := msg_store w5 ({} : Msg) A5 0 c5
  generalize hw6 : World.setCells _ w5.heap.size 0 _ = w6
  rw [show (w5.alloc (.cells #[.int .i64 0, .int .i64 0, .int .i64 0, .int .i64 0, .int .i64 0, .int .i64 0, .int .i64 0, .string ⟨#[]⟩, .int .i64 0, .int .i64 0, .int .i64 0, .bool false, .int .i64 0, .slice none 0 0, .int .i64 0, .int .i64 0] 32)).setCells w5.heap.size 0 (mcells ({} : Msg) (.slice A5 0 c5)) = w6 from hw6] at g6
  clear hw6
  obtain ⟨b6, k6⟩ := g6
  have HR6 := Lib.hid (HR5.out.no k6)
  clear HR5
  have HK6 := Lib.hid (HK5.out.trans k6)
  clear HK5
  clear k6
  clear b6
  have ps7 := rlen_any b (fun _ => True) nm1 1 w6 HR6.out
  rw [nm_e2] at ps7
  go_wp2_with fail
  refine ps7.mono ?_
  rintro e w7 ⟨rfl, k7⟩
  clear ps7
  have HR7 := Lib.hid (HR6.out.no k7)
  clear HR6
  have HK7 := Lib.hid (HK6.out.trans k7)
  clear HK6
  clear k7
  go_wp2_with fail
  refine (ask_any 1 9 2 _).mono ?_
  rintro e w8 ⟨rfl, k8⟩
  have HR8 := Lib.hid (HR7.out.no k8)
  clear HR7
  have HK8 := Lib.hid (HK7.out.trans k8)
  clear HK7
  clear k8
  have ps9 := rseen_any b (fun _ => True) nm1 (askM 1 9 2) (.slice none 0 0) w8 HR8.out (SlI.nil _ _ _) (small_rng15 (by simp [askM]) rfl) ⟨by simp [askM, maxLen], by simp [askM, maxLen]⟩
  unfold SeenR at ps9
  rw [nm_e3] at ps9
  go_wp2_with fail
  refine ps9.mono ?_
  rintro e w9 ⟨r9, k9, sv9, rfl, o9⟩
  obtain ⟨A9, c9, rfl, _⟩ := own_len o9
  have HK9 := Lib.hid (HK8.out.then_ k9 fun j hj e => by have e : j = b := e; have := HBW.out; omega)
  clear HK8
  have HR9 := Lib.hid r9
  clear ps9 r9 k9 o9 HR8
  go_upto_region 13 with (refine wpList_store_mid rfl _ _ _ rfl w9.heap.size 0 (mcells ({} : Msg) (.slice A9 0 c9)).toArray rfl rfl (msg_there _ _ _) (msg_info _ _) (msg_one _ _ _ _) ?_)
  have g10 := msg_store w9 ({} : Msg) A9 0 c9
  generalize hw10 : World.setCells _ w9.heap.size 0 _ = w10
  rw [show (w9.alloc (.cells #[.int .i64 0, .int .i64 0, .int .i64 0, .int .i64 0, .int .i64 0, .int .i64 0, .int .i64 0, .string ⟨#[]⟩, .int .i64 0, .int .i64 0, .int .i64 0, .bool false, .int .i64 0, .slice none 0 0, .int .i64 0, .int .i64 0] 32)).setCells w9.heap.size 0 (mcells ({} : Msg) (.slice A9 0 c9)) = w10 from hw10] at g10
  clear hw10
  obtain ⟨b10, k10⟩ := g10
  have HR10 := Lib.hid (HR9.out.no k10)
  clear HR9
  have HK10 := Lib.hid (HK9.out.trans k10)
  clear HK9
  clear k10
  clear b10
  go_wp2_with fail
  refine (ask_any 2 1 1 _).mono ?_
  rintro e w11 ⟨rfl, k11⟩
  have HR11 := Lib.hid (HR10.out.no k11)
  clear HR10
  have HK11 := Lib.hid (HK10.out.trans k11)
  clear HK10
  clear k11
  have ps12 := rseen_any b (fun _ => True) nm2 (askM 2 1 1) (.slice none 0 0) w11 HR11.out (SlI.nil _ _ _) (small_rng15 (by simp [askM]) rfl) ⟨by simp [askM, maxLen], by simp [askM, maxLen]⟩
  unfold SeenR at ps12
  rw [nm_e4] at ps12
  go_wp2_with fail
  refine ps12.mono ?_
  rintro e w12 ⟨r12, k12, sv12, rfl, o12⟩
  obtain ⟨A12, c12, rfl, _⟩ := own_len o12
  have HK12 := Lib.hid (HK11.out.then_ k12 fun j hj e => by have e : j = b := e; have := HBW.out; omega)
  clear HK11
  have HR12 := Lib.hid r12
  clear ps12 r12 k12 o12 HR11
  go_upto_region 14 with (refine wpList_store_mid rfl _ _ _ rfl w12.heap.size 0 (mcells ({} : Msg) (.slice A12 0 c12)).toArray rfl rfl (msg_there _ _ _) (msg_info _ _) (msg_one _ _ _ _) ?_)
  have g13 := msg_store w12 ({} : Msg) A12 0 c12
  generalize hw13 : World.setCells _ w12.heap.size 0 _ = w13
  rw [show (w12.alloc (.cells #[.int .i64 0, .int .i64 0, .int .i64 0, .int .i64 0, .int .i64 0, .int .i64 0, .int .i64 0, .string ⟨#[]⟩, .int .i64 0, .int .i64 0, .int .i64 0, .bool false, .int .i64 0, .slice none 0 0, .int .i64 0, .int .i64 0] 32)).setCells w12.heap.size 0 (mcells ({} : Msg) (.slice A12 0 c12)) = w13 from hw13] at g13
  clear hw13
  obtain ⟨b13, k13⟩ := g13
  have HR13 := Lib.hid (HR12.out.no k13)
  clear HR12
  have HK13 := Lib.hid (HK12.out.trans k13)
  clear HK12
  clear k13
  clear b13
  have ps14 := rlen_any b (fun _ => True) nm3 1 w13 HR13.out
  rw [nm_e5] at ps14
  go_wp2_with fail
  refine ps14.mono ?_
  rintro e w14 ⟨rfl, k14⟩
  clear ps14
  have HR14 := Lib.hid (HR13.out.no k14)
  clear HR13
  have HK14 := Lib.hid (HK13.out.trans k14)
  clear HK13
  clear k14
  have ps15 := rlen_any b (fun _ => True) nm3 8 w14 HR14.out
  rw [nm_e6] at ps15
  go_wp2_with fail
  refine ps15.mono ?_
  rintro e w15 ⟨rfl, k15⟩
  clear ps15
  have HR15 := Lib.hid (HR14.out.no k15)
  clear HR14
  have HK15 := Lib.hid (HK14.out.trans k15)
  clear HK14
  clear k15
  have ps16 := rlen_any b (fun _ => True) nm3 (-1) w15 HR15.out
  rw [nm_e7] at ps16
  go_wp2_with fail
  refine ps16.mono ?_
  rintro e w16 ⟨rfl, k16⟩
  clear ps16
  have HR16 := Lib.hid (HR15.out.no k16)
  clear HR15
  have HK16 := Lib.hid (HK15.out.trans k16)
  clear HK15
  clear k16
  go_wp2
  go_ret
  exact ⟨rfl, HK16.out.below (Nat.le_refl _) fun _ _ m => m⟩

/-! ### The row's step -/
set_option maxRecDepth 100000 in
theorem lifted (os : Os) (started : os.Started) (H : Type) (enc : TypeId × Value → H) :
    ReturnsInHanded {} Tryz.checked os 3 .any (Rows.repliesNamesSpec.pre6 enc Tryz.prog Tryz.f3 Rows.repliesNamesRow.domain false) (Rows.repliesNamesSpec.post enc Tryz.prog Tryz.f3 false true false false) := by
  refine returnsInHanded_of_change_sized (C := Tryz.checked) own started (by kernel_rfl) Tryz.func3
    (ChangeSpec.witness6 (enc := enc) (C := Tryz.checked) false ⟨#[], #[], []⟩ 8 (by kernel_rfl) (by kernel_rfl) (by kernel_rfl) (by kernel_rfl)) ?_
  intro W base args ds gs before hval0 hW hcnd hsz0 _
  have hval : ∀ (j : Nat) t v, Tryz.f3.params[j]? = some t → args[j]? = some v → Value.okWide Tryz.prog W .any base t v := hval0
  have hW' := hW
  obtain ⟨p, q, hA0, hV, rfl, hfz, hnd⟩ := hW
  have hA : DataW.TrodAll enc Tryz.prog W 0 (fun _ => true) true Tryz.f3.params.toList args.toList ds p := hA0
  rw [Tryz.params3] at hA hval
  obtain ⟨rfl, rfl, rfl⟩ := trodAll_none hA
  obtain ⟨rfl, rfl⟩ := trodVars_none hV
  have hsz : ∀ (j : Nat) (t : TypeId) (d : DataW H), ([] : List TypeId)[j]? = some t → [][j]? = some d → ∀ n ∈ d.weights Tryz.prog t, n ≤ reachBytes := by
    intro j t d ht hd n hn
    have hsz1 : (DataW.weightsEach Tryz.prog ([] : List TypeId) []).all (· ≤ reachBytes) = true := hsz0
    have := List.all_eq_true.1 hsz1 n (DataW.weights_mem_each ht hd n hn)
    simpa using this
  refine (walk  W ).mono fun e W' ⟨he, bel⟩ => ?_
  subst he
  exact ⟨_, rfl, _, _, _, [], _, [], hW', trodAll_mk1 (shut_bool Tryz.underlying4 _), trodAll_mk0, rfl, bel.frame _, fun h => by cases h⟩

theorem over : Rows.repliesNamesRow.holds Tryz.pinned (OpenSpec.ofChange Rows.repliesNamesSpec) :=
  OpenClaim.holds_of_wide 3 Tryz.f3 rfl rfl rfl rfl rfl rfl rfl ⟨rfl, rfl, rfl, rfl, rfl⟩ rfl rfl rfl rfl rfl (by kernel_rfl) Tryz.func3 (by kernel_rfl)
    (of_decide_eq_true (by kernel_rfl)) (by unfold Func.isWrapper; first | (rw [if_pos (by decide +kernel)]; kernel_rfl) | (rw [if_neg (by decide +kernel)]; exact ⟨rfl, rfl⟩))
    (fun os started H enc _ => lifted os started H enc)

theorem proved : Rows.RepliesNamesSaid := over
#print axioms proved
end Go.Proofs.YtaipbikbapjmjaaGreat.repliesNames
