/- WireDecodes: Decode answers what the document says, for every list of bytes. No condition. -/
import Derived.Test.YtbnpdghfbiacaaaGreatB16
import Derived.Test.YtbnpdghfbiacaaaGreatB17
import Derived.Test.YtbnpdghfbiacaaaGreatB45
import Derived.Test.YtbnpdghfbiacaaaGreatB46
import Derived.Test.YtbnpdghfbiacaaaGreatB26
import Derived.Test.YtbnpdghfbiacaaaGreatB18
import Derived.ProofKit
import Derived.OpenShut
import Derived.ShutString
import Derived.ChangeOld
import Derived.SizedLaws
import Derived.Below
namespace Go.Proofs.YtbnpdghfbiacaaaGreat.wireDecodes
open Go.ChangeShapes Go.WideShapes Go.ChangeAt Go.RowKit
open Go.ChangeMaps (open_string shut_string)

theorem own : ownKnob Tryz.prog.godebug = none := by kernel_rfl
theorem laidOut : laidOutB Tryz.prog = true := by kernel_rfl
set_option maxRecDepth 100000 in
set_option maxHeartbeats 4000000 in
theorem walk (A : Option Addr) (n c : Nat) (l : List UInt8) (W : World) (ha : ArgB W (.slice A n c) l) (hc : c ≤ 140737488351232) : Calls Tryz.prog 4 #[.slice A n c] W fun e w' => e = .returned (.bool true) ∧ Below W.heap.size W w' := by
  obtain ⟨_, hnl, hnc⟩ := ha.cs
  subst hnl
  have HA := Lib.hid ha; clear ha
  have HST := Lib.hid (decM_stamp l)
  go_enter Tryz.func4, Tryz.ntmps4
  go_wp2_with fail
  refine (awake_any W).mono ?_
  rintro e w1 ⟨rfl, k1⟩
  have HO0 := Lib.hid (own_fresh w1 W.heap.size 5 k1.size)
  have K1 := Lib.hid (k1.alloc (.cells #[] 5))
  have HA1 := Lib.hid (HA.out.no K1.out)
  have hsz1 : W.heap.size ≤ (w1.alloc (.cells #[] 5)).heap.size := K1.out.size
  clear k1
  go_wp2_with (at_builtin; refine (wpList_appV _ rfl _ _ 30 rfl W.heap.size 5 _ 1 Tryz.underlying30 Tryz.infoByte rfl _ 0 [] rfl HO0.out A l.length c (u8s l) rfl (by simp) HA1.out.cs.1 (u8s_one _) (by omega) (by omega) hsz1 ?_); intro v2 w2 o2 k2 _; have O2 : OwnB w2 W.heap.size v2 l := own_of (l := []) o2 rfl; have K2 := Lib.hid (kp_own HO0.out K1.out k2); obtain ⟨A2, c2, hv2, _⟩ := own_len O2; subst hv2; have HO2 := Lib.hid O2; clear O2 o2 k2)
  have pd := decode_any A2 c2 l w2 (own_argB HO2.out) (by unfold maxLen; omega)
  refine pd.mono ?_
  rintro e w3 ⟨sv, rfl, hso, k3⟩
  obtain ⟨A5, c5, rfl, _⟩ := own_len hso
  have K3 := Lib.hid (K2.out.trans k3)
  have HA3 := Lib.hid (HA.out.no K3.out)
  have HS3 := Lib.hid (own_argI hso)
  clear pd k3 hso
  have pr := fun W9 (k : Kp No w3 W9) => rdecode_any A c l W9 (HA3.out.no k) (by unfold maxLen; omega)
  unfold DecodeR at pr
  generalize decM l = m at *
  generalize decE l = er at *
  have kM : Kp No w3 (w3.alloc (.cells (mcells m (.slice A5 m.stamp.length c5)).toArray 28)) := (Kp.refl No w3).alloc _
  have hM : Bk (w3.alloc (.cells (mcells m (.slice A5 m.stamp.length c5)).toArray 28)) w3.heap.size 28 (mcells m (.slice A5 m.stamp.length c5)) := Bk.new' rfl rfl
  have pr2 := pr _ kM
  have HM := Lib.hid hM; have KM := Lib.hid kM
  clear pr kM hM
  simp only [mcells] at pr2 KM ⊢
  go_wp2_with fail
  refine pr2.mono ?_
  rintro e w5 ⟨sv2, rfl, hso2, k5⟩
  obtain ⟨A6, c6, rfl, _⟩ := own_len hso2
  have K5 := Lib.hid ((K3.out.trans KM.out).trans k5)
  have HM5 := Lib.hid (show Bk w5 w3.heap.size 28 (mcells m (.slice A5 m.stamp.length c5)) from HM.out.no k5)
  have HS5 := Lib.hid (HS3.out.no (KM.out.trans k5))
  have HS6 := Lib.hid (own_argI hso2)
  clear pr2 k5 hso2 HM KM HS3
  have k6 : Kp No w5 (w5.alloc (.cells (mcells m (.slice A6 m.stamp.length c6)).toArray 28)) := (Kp.refl No w5).alloc _
  have ps := rsame_any m m A5 A6 c5 c6 _ (HS5.out.no k6) (HS6.out.no k6) (by have := HST.out; unfold maxLen; omega) (by have := HST.out; unfold maxLen; omega)
  rw [decide_eq_true rfl] at ps
  have HM6 := Lib.hid (HM5.out.no k6)
  have K6 := Lib.hid (K5.out.trans k6)
  clear k6
  simp only [mcells] at ps K6 ⊢
  have HM7 := Lib.hid (show Bk (w5.alloc (.cells #[.int .i64 m.kind, .int .i64 m.from_, .int .i64 m.dest, .int .i64 m.boot, .int .i64 m.seq, .int .i64 m.low, .int .i64 m.verb, .string ⟨m.path.toArray⟩, .int .i64 m.mode, .int .i64 m.term, .int .i64 m.id, .bool m.fresh, .int .i64 m.code, .slice A6 m.stamp.length c6, .int .i64 m.origin, .int .i64 m.number] 28)) w3.heap.size 28 (mcells m (.slice A5 m.stamp.length c5)) from HM6.out)
  clear HM6
  obtain ⟨z0, z1, z2, z3, z4, z5, z6, z7, z8, z9, z10, z11, z12, z13, z14, z15⟩ := cells16 HM7.out
  go_wp2_with fail
  clear z0 z1 z2 z3 z4 z5 z6 z7 z8 z9 z10 z11 z12 z13 z14 z15
  refine ps.mono ?_
  rintro e w7 ⟨rfl, k7⟩
  have K7 := Lib.hid (K6.out.trans k7)
  clear ps k7
  go_wp2
  go_ret
  exact ⟨rfl, K7.out.below (Nat.le_refl _) fun _ _ m => m⟩
/-! ### The row's step -/
set_option maxRecDepth 100000 in
theorem lifted (os : Os) (started : os.Started) (H : Type) (enc : TypeId × Value → H) :
    ReturnsInHanded {} Tryz.checked os 4 .any (Rows.wireDecodesSpec.pre6 enc Tryz.prog Tryz.f4 Rows.wireDecodesRow.domain false) (Rows.wireDecodesSpec.post enc Tryz.prog Tryz.f4 false true false false) := by
  refine returnsInHanded_of_change_sized (C := Tryz.checked) own started (by kernel_rfl) Tryz.func4
    (ChangeSpec.witness6 (enc := enc) (C := Tryz.checked) false ⟨#[], #[.slice none 0 0], []⟩ 8 (by kernel_rfl) (by kernel_rfl) (by kernel_rfl) (by kernel_rfl)) ?_
  intro W base args ds gs before hval0 hW hcnd hsz0 _
  have hval : ∀ (j : Nat) t v, Tryz.f4.params[j]? = some t → args[j]? = some v → Value.okWide Tryz.prog W .any base t v := hval0
  have hW' := hW
  obtain ⟨p, q, hA0, hV, rfl, hfz, hnd⟩ := hW
  have hA : DataW.TrodAll enc Tryz.prog W 0 (fun _ => true) true Tryz.f4.params.toList args.toList ds p := hA0
  rw [Tryz.params4] at hA hval
  obtain ⟨v0, vs0, d0, ds0, p0, q0, hargs, rfl, rfl, h0, r0⟩ := trodAll_cons hA
  obtain ⟨rfl, rfl, rfl⟩ := trodAll_nil r0
  obtain rfl : args = #[v0] := by cases args; simp_all
  obtain ⟨rfl, rfl⟩ := trodVars_none hV
  have hsz : ∀ (j : Nat) (t : TypeId) (d : DataW H), ([30] : List TypeId)[j]? = some t → [d0][j]? = some d → ∀ n ∈ d.weights Tryz.prog t, n ≤ reachBytes := by
    intro j t d ht hd n hn
    have hsz1 : (DataW.weightsEach Tryz.prog ([30] : List TypeId) [d0]).all (· ≤ reachBytes) = true := hsz0
    have := List.all_eq_true.1 hsz1 n (DataW.weights_mem_each ht hd n hn)
    simpa using this
  have k0 := h0
  have lt0 : ∀ x ∈ p0, x.block < W.heap.size := by obtain ⟨m, hm⟩ := k0; exact DataW.trod_lt m _ _ _ hm
  obtain ⟨A0, n0, c0, l0, rfl, a0, z0⟩ := open_bytesA Tryz.underlying30 Tryz.underlying5 (by kernel_rfl) (by kernel_rfl) (hval 0 30 v0 rfl rfl) h0 (hsz 0 30 _ rfl rfl)
  refine (walk A0 n0 c0 l0 W a0 z0).mono fun e W' ⟨he, bel⟩ => ?_
  subst he
  exact ⟨_, rfl, _, _, _, [], _, [], hW', trodAll_mk1 (shut_bool Tryz.underlying4 _), (trodAll_cons_mk (Below.trod laidOut (by kernel_rfl) (of_decide_eq_true (by kernel_rfl)) k0 bel lt0) trodAll_mk0), rfl, bel.frame _, fun h => by cases h⟩

theorem over : Rows.wireDecodesRow.holds Tryz.pinned (OpenSpec.ofChange Rows.wireDecodesSpec) :=
  OpenClaim.holds_of_wide 4 Tryz.f4 rfl rfl rfl rfl rfl rfl rfl ⟨rfl, rfl, rfl, rfl, rfl⟩ rfl rfl rfl rfl rfl (by kernel_rfl) Tryz.func4 (by kernel_rfl)
    (of_decide_eq_true (by kernel_rfl)) (by unfold Func.isWrapper; first | (rw [if_pos (by decide +kernel)]; kernel_rfl) | (rw [if_neg (by decide +kernel)]; exact ⟨rfl, rfl⟩))
    (fun os started H enc _ => lifted os started H enc)

theorem proved : Rows.WireDecodesSaid := over
#print axioms proved
end Go.Proofs.YtbnpdghfbiacaaaGreat.wireDecodes
