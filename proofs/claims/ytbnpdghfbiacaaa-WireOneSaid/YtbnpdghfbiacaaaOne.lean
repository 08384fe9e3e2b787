/- WireOne: any bytes that are decoded are the only bytes of their message, for every list of bytes. No condition. -/
import Derived.Test.YtbnpdghfbiacaaaAk
import Derived.Test.YtbnpdghfbiacaaaJb
import Derived.ProofKit
import Derived.OpenShut
import Derived.ShutString
import Derived.ChangeOld
import Derived.SizedLaws
import Derived.Below
namespace Go.Proofs.Ytbnpdghfbiacaaa.wireOne
open Go.ChangeShapes Go.WideShapes Go.ChangeAt Go.RowKit
open Go.ChangeMaps (open_string shut_string)

theorem own : ownKnob Try.prog.godebug = none := by kernel_rfl
theorem laidOut : laidOutB Try.prog = true := by kernel_rfl
set_option maxRecDepth 100000 in
set_option maxHeartbeats 4000000 in
theorem walk (A : Option Addr) (n c : Nat) (l : List UInt8) (W : World) (ha : ArgB W (.slice A n c) l) (hc : c ≤ 140737488351232) : Calls Try.prog 5 #[.slice A n c] W fun e w' => e = .returned (.bool true) ∧ Below W.heap.size W w' := by
  obtain ⟨_, hnl, hnc⟩ := ha.cs
  subst hnl
  have HA := Lib.hid ha; clear ha
  go_enter Try.func5, Try.ntmps5
  go_wp2_with fail
  refine (awake_any W).mono ?_
  rintro e w1 ⟨rfl, k1⟩
  have HO0 := Lib.hid (own_fresh w1 W.heap.size 5 k1.size)
  have K1 := Lib.hid (k1.alloc (.cells #[] 5))
  have HA1 := Lib.hid (HA.out.no K1.out)
  have hsz1 : W.heap.size ≤ (w1.alloc (.cells #[] 5)).heap.size := K1.out.size
  clear k1
  go_wp2_with (at_builtin; refine (wpList_appV _ rfl _ _ 30 rfl W.heap.size 5 _ 1 Try.underlying30 Try.infoByte rfl _ 0 [] rfl HO0.out A l.length c (u8s l) rfl (by simp) HA1.out.cs.1 (u8s_one _) (by omega) (by omega) hsz1 ?_); intro v2 w2 o2 k2 _; have O2 : OwnB w2 W.heap.size v2 l := own_of (l := []) o2 rfl; have K2 := Lib.hid (kp_own HO0.out K1.out k2); obtain ⟨A2, c2, hv2, _⟩ := own_len O2; subst hv2; have HO2 := Lib.hid O2; clear o2 k2 O2)
  have pd := decode_any A2 c2 l w2 (own_argB HO2.out) (by unfold maxLen; omega)
  refine pd.mono ?_
  rintro e w3 ⟨sv, rfl, hso, k3⟩
  obtain ⟨A5, c5, rfl, _⟩ := own_len hso
  have K3 := Lib.hid (K2.out.trans k3)
  have HSO := Lib.hid (own_slI hso)
  have HA3 := Lib.hid (HA.out.no K3.out)
  clear pd k3 hso
  cases hd : decS vpP l with
  | none =>
    have e1 : decM l = {} := by unfold decM; rw [hd]; rfl
    have e2 : decE l = 21 := by unfold decE; rw [hd]; rfl
    rw [e1] at HSO ⊢
    rw [e2]
    have ps : ∀ W2, Kp No w3 W2 → Calls Try.prog 13 #[.agg (mcells {} (.slice A5 ({} : Msg).stamp.length c5)).toArray, .agg (mcells {} (.slice none 0 0)).toArray] W2 fun e w' => e = .returned (.bool true) ∧ Kp No w3 w' := fun W2 k =>
      (same_any {} {} _ _ W2 (HSO.out.no k).arg (ArgInts.nil _ _ _) (by simp) (by simp)).mono fun e w' ⟨h, k2⟩ => ⟨by rw [h]; simp, k.trans k2⟩
    simp only [mcells, List.length_nil] at ps ⊢
    clear hd e1 e2
    go_wp2_with (go_at_call 13; (with_reducible refine (ps _ (by with_reducible repeat (first | exact Kp.refl _ _ | refine Kp.alloc ?_ _))).mono ?_); rintro e w7 ⟨rfl, k7⟩; have K7 := Lib.hid (K3.out.trans k7); clear k7)
    go_ret
    exact ⟨rfl, K7.out.below (Nat.le_refl _) fun _ _ m => m⟩
  | some m =>
    have e1 : decM l = m := by unfold decM; rw [hd]; rfl
    have e2 : decE l = 0 := by unfold decE; rw [hd]; rfl
    obtain ⟨henc, hle, htk⟩ := enc_dec hd
    have hle2 := enc_len vpP_len henc
    have hrng : Rng m := by rw [← htk]; exact take_rng l
    have hst : m.stamp.length ≤ 5 := by rw [← htk]; exact take_stamp l
    have hpa : m.path.length ≤ 200 := by rw [← htk]; exact take_path l
    rw [e1] at HSO ⊢
    rw [e2]
    have kM : Kp No w3 (w3.alloc (.cells (mcells m (.slice A5 m.stamp.length c5)).toArray 29)) := (Kp.refl No w3).alloc _
    have pe := encode_any m (.slice A5 m.stamp.length c5) _ (HSO.out.no kM) hrng ⟨by unfold maxLen; omega, by unfold maxLen; omega⟩
    have K4 := Lib.hid (K3.out.trans kM)
    have HEN := Lib.hid henc
    have hne : l ≠ [] := fun h => by rw [h] at hle2; simp at hle2
    have HNE := Lib.hid hne
    clear hd e1 e2 htk hrng kM hle2 henc hne hst hpa
    simp only [mcells] at pe K4 ⊢
    go_wp2_with fail
    refine pe.mono ?_
    rintro e w5 ⟨hr, k5⟩
    have K5 := Lib.hid (K4.out.trans k5); clear k5 pe
    rcases hr with ⟨h, _⟩ | ⟨v, b, h, rfl, ho⟩
    · rw [HEN.out] at h; cases h
    obtain rfl : l = b := by rw [HEN.out] at h; exact Option.some.inj h
    have hc1 := conv_any (own_argB ho) HNE.out
    have hc2 := conv_any (HA.out.no K5.out) HNE.out
    obtain ⟨A6, c6, rfl, _⟩ := own_len ho
    clear h ho
    generalize (⟨l.toArray⟩ : ByteArray) = S1 at *
    go_wp2
    go_ret
    exact ⟨rfl, K5.out.below (Nat.le_refl _) fun _ _ m => m⟩
/-! ### The row's step -/
set_option maxRecDepth 100000 in
theorem lifted (os : Os) (started : os.Started) (H : Type) (enc : TypeId × Value → H) :
    ReturnsInHanded {} Try.checked os 5 .any (Rows.wireOneSpec.pre6 enc Try.prog Try.f5 Rows.wireOneRow.domain false) (Rows.wireOneSpec.post enc Try.prog Try.f5 false true false false) := by
  refine returnsInHanded_of_change_sized (C := Try.checked) own started (by kernel_rfl) Try.func5
    (ChangeSpec.witness6 (enc := enc) (C := Try.checked) false ⟨#[], #[.slice none 0 0], []⟩ 8 (by kernel_rfl) (by kernel_rfl) (by kernel_rfl) (by kernel_rfl)) ?_
  intro W base args ds gs before hval0 hW hcnd hsz0 _
  have hval : ∀ (j : Nat) t v, Try.f5.params[j]? = some t → args[j]? = some v → Value.okWide Try.prog W .any base t v := hval0
  have hW' := hW
  obtain ⟨p, q, hA0, hV, rfl, hfz, hnd⟩ := hW
  have hA : DataW.TrodAll enc Try.prog W 0 (fun _ => true) true Try.f5.params.toList args.toList ds p := hA0
  rw [Try.params5] at hA hval
  obtain ⟨v0, vs0, d0, ds0, p0, q0, hargs, rfl, rfl, h0, r0⟩ := trodAll_cons hA
  obtain ⟨rfl, rfl, rfl⟩ := trodAll_nil r0
  obtain rfl : args = #[v0] := by cases args; simp_all
  obtain ⟨rfl, rfl⟩ := trodVars_none hV
  have hsz : ∀ (j : Nat) (t : TypeId) (d : DataW H), ([30] : List TypeId)[j]? = some t → [d0][j]? = some d → ∀ n ∈ d.weights Try.prog t, n ≤ reachBytes := by
    intro j t d ht hd n hn
    have hsz1 : (DataW.weightsEach Try.prog ([30] : List TypeId) [d0]).all (· ≤ reachBytes) = true := hsz0
    have := List.all_eq_true.1 hsz1 n (DataW.weights_mem_each ht hd n hn)
    simpa using this
  have k0 := h0
  have lt0 : ∀ x ∈ p0, x.block < W.heap.size := by obtain ⟨m, hm⟩ := k0; exact DataW.trod_lt m _ _ _ hm
  obtain ⟨A0, n0, c0, l0, rfl, a0, z0⟩ := open_bytesA Try.underlying30 Try.underlying5 (by kernel_rfl) (by kernel_rfl) (hval 0 30 v0 rfl rfl) h0 (hsz 0 30 _ rfl rfl)
  refine (walk A0 n0 c0 l0 W a0 z0).mono fun e W' ⟨he, bel⟩ => ?_
  subst he
  exact ⟨_, rfl, _, _, _, [], _, [], hW', trodAll_mk1 (shut_bool Try.underlying4 _), (trodAll_cons_mk (Below.trod laidOut (by kernel_rfl) (of_decide_eq_true (by kernel_rfl)) k0 bel lt0) trodAll_mk0), rfl, bel.frame _, fun h => by cases h⟩

theorem over : Rows.wireOneRow.holds Try.pinned (OpenSpec.ofChange Rows.wireOneSpec) :=
  OpenClaim.holds_of_wide 5 Try.f5 rfl rfl rfl rfl rfl rfl rfl ⟨rfl, rfl, rfl, rfl, rfl⟩ rfl rfl rfl rfl rfl (by kernel_rfl) Try.func5 (by kernel_rfl)
    (of_decide_eq_true (by kernel_rfl)) (by unfold Func.isWrapper; first | (rw [if_pos (by decide +kernel)]; kernel_rfl) | (rw [if_neg (by decide +kernel)]; exact ⟨rfl, rfl⟩))
    (fun os started H enc _ => lifted os started H enc)

theorem proved : Rows.WireOneSaid := over
#print axioms proved
end Go.Proofs.Ytbnpdghfbiacaaa.wireOne
