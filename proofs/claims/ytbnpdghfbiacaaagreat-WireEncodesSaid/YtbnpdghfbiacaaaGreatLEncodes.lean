/- WireEncodes: Valid and Encode answer what the document says, and no message is longer than a packet, for every message. No condition. -/
import Derived.Test.YtbnpdghfbiacaaaGreatB16
import Derived.Test.YtbnpdghfbiacaaaGreatB17
import Derived.Test.YtbnpdghfbiacaaaGreatB38
import Derived.Test.YtbnpdghfbiacaaaGreatB46
import Derived.Deep.RegionHeld3
import Derived.ProofKit
import Derived.OpenShut
import Derived.ShutString
import Derived.ChangeOld
import Derived.SizedLaws
import Derived.Below
namespace Go.Proofs.YtbnpdghfbiacaaaGreat.wireEncodes
open Go.ChangeShapes Go.WideShapes Go.ChangeAt Go.RowKit
open Go.ChangeMaps (open_string shut_string)

theorem own : ownKnob Tryz.prog.godebug = none := by kernel_rfl
theorem laidOut : laidOutB Tryz.prog = true := by kernel_rfl
set_option maxRecDepth 100000 in
set_option maxHeartbeats 8000000 in
theorem walk (m : Msg) (A : Option Addr) (c : Nat) (W : World) (ha : ArgInts W (.slice A m.stamp.length c) m.stamp) (hr : Rng m) (hs : Short maxLen m) (hl : m.stamp.length ≤ 17592186043904) (hp : m.path.length ≤ 140737488355328) :
    Calls Tryz.prog 3 #[.agg (mcells m (.slice A m.stamp.length c)).toArray] W fun e w' => e = .returned (.bool true) ∧ Below W.heap.size W w' := by
  have kA : Kp No W (W.alloc (.cells (mcells m (.slice A m.stamp.length c)).toArray 28)) := (Kp.refl No W).alloc _
  have hB : Bk (W.alloc (.cells (mcells m (.slice A m.stamp.length c)).toArray 28)) W.heap.size 28 (mcells m (.slice A m.stamp.length c)) := Bk.new' rfl rfl
  have pa := awake_any (W.alloc (.cells (mcells m (.slice A m.stamp.length c)).toArray 28))
  have HA := Lib.hid (ha.no kA); have HB := Lib.hid hB; have HK := Lib.hid kA; have HR := Lib.hid hr; have HS := Lib.hid hs; have HL := Lib.hid hl; have HP := Lib.hid hp
  have hu := Lib.hid Tryz.underlying28
  have hi : Hid ((Tryz.prog.info? 28).map (·.size) = some (mcells m (.slice A m.stamp.length c)).length) := Lib.hid (by kernel_rfl)
  clear ha hB kA hr hs hl hp
  simp only [mcells] at pa HB HK HA
  have HB0 := Lib.hid (show Bk _ W.heap.size 28 (mcells m (.slice A m.stamp.length c)) from HB.out)
  clear HB
  unfold mcells
  go_enter Tryz.func3, Tryz.ntmps3
  go_wp2_with fail
  refine pa.mono ?_
  rintro e w1 ⟨rfl, k1⟩
  have HB1 := Lib.hid (HB0.out.no k1); have K1 := Lib.hid (HK.out.trans k1); have HA1 := Lib.hid (HA.out.no k1)
  clear pa k1 HB0 HK HA
  have po := own_any m (.slice A m.stamp.length c) w1 HA1.out (by have := HL.out; omega)
  go_wp2_with (refine wpList_load_mid rfl _ _ rfl W.heap.size 0 rfl (mcells m (.slice A m.stamp.length c)) _ (range_of HB1.out) hu.out rfl hi.out ?_)
  refine po.mono ?_
  rintro e w2 ⟨sv, rfl, ho, k2⟩
  have K2 := Lib.hid (K1.out.trans k2); have HB2 := Lib.hid (HB1.out.no k2); have HA2 := Lib.hid (HA1.out.no k2)
  have pe := encode_any m sv w2 (own_slI ho) HR.out HS.out
  clear po ho k2
  go_wp2_with fail
  refine pe.mono ?_
  intro e w3 hres
  obtain ⟨A3, c3, rfl, hob, hc3, k3⟩ := enc_uni hres
  have K3 := Lib.hid (K2.out.trans k3); have HB3 := Lib.hid (HB2.out.no k3); have HA3 := Lib.hid (HA2.out.no k3); have HC3 := Lib.hid hc3
  clear pe k3 hres hob hc3
  have pr := rencode_any m A c w3 HA3.out (by have := HL.out; unfold maxLen; omega) HR.out HP.out
  go_wp2_with (refine wpList_load_mid rfl _ _ rfl W.heap.size 0 rfl (mcells m (.slice A m.stamp.length c)) _ (range_of HB3.out) hu.out rfl hi.out ?_)
  refine pr.mono ?_
  intro e w4 hres
  obtain ⟨A4, c4, rfl, hob, hc4, k4⟩ := enc_uni hres
  have K4 := Lib.hid (K3.out.trans k4); have HB4 := Lib.hid (HB3.out.no k4); have HA4 := Lib.hid (HA3.out.no k4)
  have hc1 := fun W9 (k : Kp No w4 W9) => HC3.out W9 (k4.trans k)
  have hc2 := hc4
  have hl200 : ((encB m).length : Int) ≤ 200 := by have := encB_len m; omega
  clear pr k4 hres hob hc4 HC3 HB1 HB2 HB3 HA1 HA2 HA3 K1 K2 K3 hi hu
  generalize (⟨(encB m).toArray⟩ : ByteArray) = S at *
  generalize (encB m).length = n4 at *
  generalize encE m = er at *
  have qo : ∀ W2, Kp No w4 W2 → Calls Tryz.prog 9 #[.agg #[.int .i64 m.kind, .int .i64 m.from_, .int .i64 m.dest, .int .i64 m.boot, .int .i64 m.seq, .int .i64 m.low, .int .i64 m.verb, .string ⟨m.path.toArray⟩, .int .i64 m.mode, .int .i64 m.term, .int .i64 m.id, .bool m.fresh, .int .i64 m.code, .slice A m.stamp.length c, .int .i64 m.origin, .int .i64 m.number]] W2 fun e w' => ∃ A9 c9, e = .returned (.agg (mcells m (.slice A9 m.stamp.length c9)).toArray) ∧ SlI w' (.slice A9 m.stamp.length c9) m.stamp ∧ Kp No w4 w' := fun W2 k =>
    (own_any m (.slice A m.stamp.length c) W2 (HA4.out.no k) (by have := HL.out; omega)).mono fun e w' h => by
      obtain ⟨sv, rfl, ho, k2⟩ := h
      have hs := own_slI ho
      obtain ⟨A9, c9, rfl, _⟩ := own_len ho
      exact ⟨A9, c9, rfl, hs, k.trans k2⟩
  have qv : ∀ W2 A9 c9, Kp No w4 W2 → SlI W2 (.slice A9 m.stamp.length c9) m.stamp → Calls Tryz.prog 11 #[.agg (mcells m (.slice A9 m.stamp.length c9)).toArray] W2 fun e w' => e = .returned (.bool (decide (mayS vpP m))) ∧ Kp No w4 w' := fun W2 A9 c9 k hs9 =>
    (valid10_any m _ W2 hs9 HR.out HS.out).mono fun e w' h => ⟨h.1, k.trans h.2⟩
  have qr : ∀ W2, Kp No w4 W2 → Calls Tryz.prog 12 #[.agg #[.int .i64 m.kind, .int .i64 m.from_, .int .i64 m.dest, .int .i64 m.boot, .int .i64 m.seq, .int .i64 m.low, .int .i64 m.verb, .string ⟨m.path.toArray⟩, .int .i64 m.mode, .int .i64 m.term, .int .i64 m.id, .bool m.fresh, .int .i64 m.code, .slice A m.stamp.length c, .int .i64 m.origin, .int .i64 m.number]] W2 fun e w' => e = .returned (.bool (decide (mayS vpP m))) ∧ Kp No w4 w' := fun W2 k =>
    (rvalid6_any m A c W2 (HA4.out.no k) (by have := HL.out; unfold maxLen; omega) HP.out).mono fun e w' h => ⟨h.1, k.trans h.2⟩
  have sk : ∀ W2, Kp No w4 W2 → W2.cell? ⟨W.heap.size, 0, none⟩ = some (.int .i64 m.kind) ∧ W2.cell? ⟨W.heap.size, 1, none⟩ = some (.int .i64 m.from_) ∧ W2.cell? ⟨W.heap.size, 2, none⟩ = some (.int .i64 m.dest) ∧ W2.cell? ⟨W.heap.size, 3, none⟩ = some (.int .i64 m.boot) ∧ W2.cell? ⟨W.heap.size, 4, none⟩ = some (.int .i64 m.seq) ∧ W2.cell? ⟨W.heap.size, 5, none⟩ = some (.int .i64 m.low) ∧ W2.cell? ⟨W.heap.size, 6, none⟩ = some (.int .i64 m.verb) ∧ W2.cell? ⟨W.heap.size, 7, none⟩ = some (.string ⟨m.path.toArray⟩) ∧ W2.cell? ⟨W.heap.size, 8, none⟩ = some (.int .i64 m.mode) ∧ W2.cell? ⟨W.heap.size, 9, none⟩ = some (.int .i64 m.term) ∧ W2.cell? ⟨W.heap.size, 10, none⟩ = some (.int .i64 m.id) ∧ W2.cell? ⟨W.heap.size, 11, none⟩ = some (.bool m.fresh) ∧ W2.cell? ⟨W.heap.size, 12, none⟩ = some (.int .i64 m.code) ∧ W2.cell? ⟨W.heap.size, 13, none⟩ = some (.slice A m.stamp.length c) ∧ W2.cell? ⟨W.heap.size, 14, none⟩ = some (.int .i64 m.origin) ∧ W2.cell? ⟨W.heap.size, 15, none⟩ = some (.int .i64 m.number) ∧ (convert 30 9 (.slice A3 n4 c3)).run Tryz.prog W2 = .ok (.string S) W2 ∧ (convert 30 9 (.slice A4 n4 c4)).run Tryz.prog W2 = .ok (.string S) W2 := fun W2 k => ⟨(HB4.out.no k).cell 0, (HB4.out.no k).cell 1, (HB4.out.no k).cell 2, (HB4.out.no k).cell 3, (HB4.out.no k).cell 4, (HB4.out.no k).cell 5, (HB4.out.no k).cell 6, (HB4.out.no k).cell 7, (HB4.out.no k).cell 8, (HB4.out.no k).cell 9, (HB4.out.no k).cell 10, (HB4.out.no k).cell 11, (HB4.out.no k).cell 12, (HB4.out.no k).cell 13, (HB4.out.no k).cell 14, (HB4.out.no k).cell 15, hc1 W2 k, hc2 W2 k⟩
  generalize decide (mayS vpP m) = bv at *
  clear hc1 hc2
  go_upto_region 5 with (fail)
  go_region_held3 (fun W2 => W2.cell? ⟨W.heap.size, 0, none⟩ = some (.int .i64 m.kind) ∧ W2.cell? ⟨W.heap.size, 1, none⟩ = some (.int .i64 m.from_) ∧ W2.cell? ⟨W.heap.size, 2, none⟩ = some (.int .i64 m.dest) ∧ W2.cell? ⟨W.heap.size, 3, none⟩ = some (.int .i64 m.boot) ∧ W2.cell? ⟨W.heap.size, 4, none⟩ = some (.int .i64 m.seq) ∧ W2.cell? ⟨W.heap.size, 5, none⟩ = some (.int .i64 m.low) ∧ W2.cell? ⟨W.heap.size, 6, none⟩ = some (.int .i64 m.verb) ∧ W2.cell? ⟨W.heap.size, 7, none⟩ = some (.string ⟨m.path.toArray⟩) ∧ W2.cell? ⟨W.heap.size, 8, none⟩ = some (.int .i64 m.mode) ∧ W2.cell? ⟨W.heap.size, 9, none⟩ = some (.int .i64 m.term) ∧ W2.cell? ⟨W.heap.size, 10, none⟩ = some (.int .i64 m.id) ∧ W2.cell? ⟨W.heap.size, 11, none⟩ = some (.bool m.fresh) ∧ W2.cell? ⟨W.heap.size, 12, none⟩ = some (.int .i64 m.code) ∧ W2.cell? ⟨W.heap.size, 13, none⟩ = some (.slice A m.stamp.length c) ∧ W2.cell? ⟨W.heap.size, 14, none⟩ = some (.int .i64 m.origin) ∧ W2.cell? ⟨W.heap.size, 15, none⟩ = some (.int .i64 m.number) ∧ (convert 30 9 (.slice A3 n4 c3)).run Tryz.prog W2 = .ok (.string S) W2 ∧ (convert 30 9 (.slice A4 n4 c4)).run Tryz.prog W2 = .ok (.string S) W2) (first | (go_keep; done) | exact sk _ (by with_reducible repeat (first | assumption | exact Kp.refl _ _ | refine Kp.drew ?_ | refine Kp.drewN ?_ _)))
    (first
      | (go_at_call 9; (with_reducible refine (qo _ (by with_reducible repeat (first | assumption | exact Kp.refl _ _ | refine Kp.drew ?_ | refine Kp.drewN ?_ _))).mono ?_); rintro e w7 ⟨A9, c9, rfl, hs9, k7⟩)
      | (go_at_call 11; (with_reducible refine (qv _ _ _ (by with_reducible repeat (first | assumption | exact Kp.refl _ _ | refine Kp.drew ?_ | refine Kp.drewN ?_ _)) (by assumption)).mono ?_); rintro e w8 ⟨rfl, k8⟩)
      | (go_at_call 12; (with_reducible refine (qr _ (by with_reducible repeat (first | assumption | exact Kp.refl _ _ | refine Kp.drew ?_ | refine Kp.drewN ?_ _))).mono ?_); rintro e w9 ⟨rfl, k9⟩))
  all_goals
    have K9 := Lib.hid (K4.out.trans k9)
    clear qo qv qr sk k7 k8 k9 hs9
    go_wp2
    go_ret
    exact ⟨rfl, K9.out.below (Nat.le_refl _) fun _ _ m => m⟩
/-! ### The row's step -/
set_option maxRecDepth 100000 in
theorem lifted (os : Os) (started : os.Started) (H : Type) (enc : TypeId × Value → H) :
    ReturnsInHanded {} Tryz.checked os 3 .any (Rows.wireEncodesSpec.pre6 enc Tryz.prog Tryz.f3 Rows.wireEncodesRow.domain false) (Rows.wireEncodesSpec.post enc Tryz.prog Tryz.f3 false true false false) := by
  refine returnsInHanded_of_change_sized (C := Tryz.checked) own started (by kernel_rfl) Tryz.func3
    (ChangeSpec.witness6 (enc := enc) (C := Tryz.checked) false ⟨#[], #[.agg #[.int .i64 0, .int .i64 0, .int .i64 0, .int .i64 0, .int .i64 0, .int .i64 0, .int .i64 0, .string ⟨#[]⟩, .int .i64 0, .int .i64 0, .int .i64 0, .bool false, .int .i64 0, .slice none 0 0, .int .i64 0, .int .i64 0]], []⟩ 8 (by kernel_rfl) (by kernel_rfl) (by kernel_rfl) (by kernel_rfl)) ?_
  intro W base args ds gs before hval0 hW hcnd hsz0 _
  have hval : ∀ (j : Nat) t v, Tryz.f3.params[j]? = some t → args[j]? = some v → Value.okWide Tryz.prog W .any base t v := hval0
  have hW' := hW
  obtain ⟨p, q, hA0, hV, rfl, hfz, hnd⟩ := hW
  have hA : DataW.TrodAll enc Tryz.prog W 0 (fun _ => true) true Tryz.f3.params.toList args.toList ds p := hA0
  rw [Tryz.params3] at hA hval
  obtain ⟨v0, vs0, d0, ds0, p0, q0, hargs, rfl, rfl, h0, r0⟩ := trodAll_cons hA
  obtain ⟨rfl, rfl, rfl⟩ := trodAll_nil r0
  obtain rfl : args = #[v0] := by cases args; simp_all
  obtain ⟨rfl, rfl⟩ := trodVars_none hV
  have hsz : ∀ (j : Nat) (t : TypeId) (d : DataW H), ([28] : List TypeId)[j]? = some t → [d0][j]? = some d → ∀ n ∈ d.weights Tryz.prog t, n ≤ reachBytes := by
    intro j t d ht hd n hn
    have hsz1 : (DataW.weightsEach Tryz.prog ([28] : List TypeId) [d0]).all (· ≤ reachBytes) = true := hsz0
    have := List.all_eq_true.1 hsz1 n (DataW.weights_mem_each ht hd n hn)
    simpa using this
  have k0 := h0
  have lt0 : ∀ x ∈ p0, x.block < W.heap.size := by obtain ⟨m, hm⟩ := k0; exact DataW.trod_lt m _ _ _ hm
  obtain ⟨m0, A0, c0, rfl, a0, r0x, s0, z0, p0⟩ := open_msg2 (hval 0 28 v0 rfl rfl) h0 (hsz 0 28 _ rfl rfl)
  refine (walk m0 A0 c0 W a0 r0x s0 z0 p0).mono fun e W' ⟨he, bel⟩ => ?_
  subst he
  exact ⟨_, rfl, _, _, _, [], _, [], hW', trodAll_mk1 (shut_bool Tryz.underlying4 _), (trodAll_cons_mk (Below.trod laidOut (by kernel_rfl) (of_decide_eq_true (by kernel_rfl)) k0 bel lt0) trodAll_mk0), rfl, bel.frame _, fun h => by cases h⟩

theorem over : Rows.wireEncodesRow.holds Tryz.pinned (OpenSpec.ofChange Rows.wireEncodesSpec) :=
  OpenClaim.holds_of_wide 3 Tryz.f3 rfl rfl rfl rfl rfl rfl rfl ⟨rfl, rfl, rfl, rfl, rfl⟩ rfl rfl rfl rfl rfl (by kernel_rfl) Tryz.func3 (by kernel_rfl)
    (of_decide_eq_true (by kernel_rfl)) (by unfold Func.isWrapper; first | (rw [if_pos (by decide +kernel)]; kernel_rfl) | (rw [if_neg (by decide +kernel)]; exact ⟨rfl, rfl⟩))
    (fun os started H enc _ => lifted os started H enc)

theorem proved : Rows.WireEncodesSaid := over
#print axioms proved
end Go.Proofs.YtbnpdghfbiacaaaGreat.wireEncodes
