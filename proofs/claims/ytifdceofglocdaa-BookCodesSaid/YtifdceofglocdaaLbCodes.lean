/- BookCodes: Encode and Decode answer what the document says, for every record and list of bytes. No condition. -/
import Derived.Test.YtifdceofglocdaaB21
import Derived.Test.YtifdceofglocdaaB40
import Derived.Test.YtifdceofglocdaaB31
import Derived.Test.YtifdceofglocdaaB22
import Derived.Deep.CutBlock
import Derived.Deep.MidRow
import Derived.Deep.DeepMust
import Derived.ProofKit
import Derived.OpenShut
import Derived.ShutString
import Derived.ChangeOld
import Derived.SizedLaws
import Derived.Below
namespace Go.Proofs.Ytifdceofglocdaa.bookCodes
open Go.ChangeShapes Go.WideShapes Go.ChangeAt Go.RowKit
open Go.ChangeMaps (open_string shut_string)

theorem own : ownKnob Try.prog.godebug = none := by kernel_rfl
theorem laidOut : laidOutB Try.prog = true := by kernel_rfl
theorem dec_shC (l : List UInt8) : (decRec l).grant.stamp.length ≤ 5 ∧ (decRec l).stamp.length ≤ 5 := by
  unfold decRec decR
  split
  · exact (takeR_sh _ _).2
  · exact ⟨Nat.zero_le _, Nat.zero_le _⟩
set_option maxRecDepth 100000 in
theorem conv_nilC (w : World) : (convert 46 9 (.slice none 0 0)).run Try.prog w = .ok (.string ⟨#[]⟩) w := by rfl
set_option maxRecDepth 100000 in
theorem conv_own {w : World} {B n c : Nat} {A : Option Addr} {l : List UInt8} (h : OwnB w B (.slice A n c) l) : (convert 46 9 (.slice A n c)).run Try.prog w = .ok (.string ⟨l.toArray⟩) w := by
  obtain ⟨A', c', e0, _⟩ := own_len h
  have hn : n = l.length := by injection e0
  have h2 := h
  unfold OwnB at h2
  rcases h2.2 with ⟨e, h0⟩ | ⟨g, cap, cur, e, _⟩
  · have hl : l = [] := List.eq_nil_of_length_eq_zero h0
    rw [e, hl]; exact conv_nilC w
  · injection e with e1 e2 e3
    subst e1 e3 hn
    exact conv_argB (own_argB h)
theorem argB_lt {w : World} {v : Value} {l : List UInt8} (h : ArgB w v l) (hl : l ≠ []) : ∀ g, v.ownBlock = some g → g < w.heap.size := by
  obtain ⟨g', o, c', rfl, h1, h2⟩ := h.at_ (List.length_pos_iff.2 hl)
  intro g e
  have : g' = g := by simpa [Value.ownBlock] using e
  subst this
  exact World.block_lt_of_cell? w _ (h2 0 _ (List.getElem?_eq_getElem (List.length_pos_iff.2 hl)))
set_option maxRecDepth 100000 in
set_option maxHeartbeats 16000000 in
theorem walk (r : Rcd) (gv rv : Value) (A : Option Addr) (n c : Nat) (l : List UInt8) (W : World) (hg : ArgInts W gv r.grant.stamp) (hr : ArgInts W rv r.stamp) (hs : ShRin r) (ha : ArgB W (.slice A n c) l) (hc : c ≤ 140737488351232) :
    Calls Try.prog 6 #[.agg (rC r gv rv).toArray, .slice A n c] W fun e w' => e = .returned (.bool true) ∧ Below W.heap.size W w' := by
  obtain ⟨_, hnl, hnc⟩ := ha.cs
  subst hnl
  obtain ⟨Ag, cg, rfl, _⟩ := ints_of _ _ _ hg
  obtain ⟨Ar, cr, rfl, _⟩ := ints_of _ _ _ hr
  obtain ⟨CR, hCR⟩ : ∃ CR : List Value, CR = rC r (.slice Ag r.grant.stamp.length cg) (.slice Ar r.stamp.length cr) := ⟨_, rfl⟩
  obtain ⟨w0, hw0⟩ : ∃ w0, w0 = W.alloc (.cells CR.toArray 32) := ⟨_, rfl⟩
  have HIR := Lib.hid (show (Try.prog.info? 32).map (·.size) = some CR.length by rw [hCR]; kernel_rfl)
  have HUR := Lib.hid Try.underlying32
  have HB0 := Lib.hid (show Bk w0 W.heap.size 32 CR by rw [hw0]; exact Bk.new' rfl rfl)
  have K0 := Lib.hid (show Kp No W w0 by rw [hw0]; exact (Kp.refl No W).alloc _)
  have HG := Lib.hid hg; have HR := Lib.hid hr; have HAW := Lib.hid ha
  have HW := Lib.hid hw0
  have HNC := Lib.hid (show l.length ≤ 140737488351232 by omega)
  have HS := Lib.hid hs; have HCR := Lib.hid hCR
  have pa := awake_any w0
  clear hw0 hg hr ha hs
  rw [← hCR]
  clear hCR
  go_enter Try.func6, Try.ntmps6
  go_upto_region 1 with (fail)
  rw [← HW.out]
  clear HW
  go_wp2_with fail
  refine pa.mono ?_
  rintro e w1 ⟨rfl, k1⟩
  have HB1 := Lib.hid (HB0.out.no k1); have K1 := Lib.hid (K0.out.trans k1)
  clear pa k1
  have po : ∀ W2, Kp No W W2 → Calls Try.prog 14 #[.agg CR.toArray] W2 fun e w' => ∃ v, e = .returned v ∧ OwnRv w' W2.heap.size r v ∧ Kp No W2 w' := fun W2 kk => by
    rw [HCR.out]
    exact (ownRec_any r (.slice Ag r.grant.stamp.length cg) (.slice Ar r.stamp.length cr) W2 (HG.out.no kk) (HR.out.no kk) HS.out.1.2 HS.out.2).mono fun e w' ⟨gv, rv, h1, h2, h3, h4⟩ => ⟨_, h1, OwnRv.of h2 h3, h4⟩
  have pe : ∀ W2 v, Kp No W W2 → ∀ B, OwnRv W2 B r v → Calls Try.prog 23 #[v] W2 (EncR W2 r) := by
    rintro W2 v kk B ⟨A1, c1, A2, c2, rfl, o1, o2⟩
    exact bencode_any r (.slice A1 r.grant.stamp.length c1) (.slice A2 r.stamp.length c2) W2 (own_slI o1) (own_slI o2) HS.out.1.sh (by have := HS.out.2; unfold maxLen; omega)
  have pre : ∀ W2, Kp No W W2 → Calls Try.prog 24 #[.agg CR.toArray] W2 (EncR W2 r) := fun W2 kk => by
    rw [HCR.out]
    exact rencode_any r (.slice Ag r.grant.stamp.length cg) (.slice Ar r.stamp.length cr) W2 (HG.out.no kk) (HR.out.no kk) HS.out.1.sh (by have := HS.out.2; unfold maxLen; omega) (by have := HS.out.1.1; omega)
  go_wp2_with (with_reducible refine wpList_load_mid rfl _ _ rfl W.heap.size 0 rfl CR _ (bk_range HB1.out) HUR.out rfl HIR.out ?_)
  refine (po _ K1.out).mono ?_
  rintro e w2 ⟨v2, rfl, hv2, k2⟩
  have K2 := Lib.hid (K1.out.trans k2)
  have pe2 := pe w2 v2 K2.out _ hv2
  have HB2 := Lib.hid (HB1.out.no k2)
  clear hv2 k2
  go_wp2_with fail
  refine pe2.mono ?_
  rintro e w3 ⟨hres, k3⟩
  have K3 := Lib.hid (K2.out.trans k3); have HB3 := Lib.hid (HB2.out.no k3)
  clear pe2 k3 pe po
  obtain ⟨ev, xb, hxb⟩ : ∃ (ev : Int) (xb : List UInt8), (encR r = none ∧ ev = 43 ∧ xb = []) ∨ (encR r = some xb ∧ ev = 0) := by
    cases h : encR r with
    | none => exact ⟨43, [], .inl ⟨rfl, rfl, rfl⟩⟩
    | some b => exact ⟨0, b, .inr ⟨rfl, rfl⟩⟩
  have HXB := Lib.hid hxb
  have key : ∀ {W1 W2 : World} {e : Ending}, (encR r = none ∧ e = .returned (.tuple #[.slice none 0 0, .int .i64 43]) ∨ ∃ v b, encR r = some b ∧ e = .returned (.tuple #[v, .int .i64 0]) ∧ OwnB W2 W1.heap.size v b) → ∃ A c, e = .returned (.tuple #[.slice A xb.length c, .int .i64 ev]) ∧ OwnB W2 W1.heap.size (.slice A xb.length c) xb := by
    intro W1 W2 e h
    rcases h with ⟨h1, rfl⟩ | ⟨v, b, h1, rfl, h2⟩
    · rcases HXB.out with ⟨_, rfl, rfl⟩ | ⟨h3, _⟩
      · exact ⟨none, 0, rfl, OwnB.nil _ _⟩
      · rw [h1] at h3; cases h3
    · rcases HXB.out with ⟨h3, _⟩ | ⟨h3, rfl⟩
      · rw [h1] at h3; cases h3
      · obtain rfl : b = xb := by rw [h1] at h3; exact Option.some.inj h3
        obtain ⟨A, c, rfl, _⟩ := own_len h2
        exact ⟨A, c, rfl, h2⟩
  obtain ⟨Ax, cx, rfl, ox⟩ := key hres
  have HOX := Lib.hid ox
  clear hres ox hxb
  have pe3 := pre w3 K3.out
  go_wp2_with (with_reducible refine wpList_load_mid rfl _ _ rfl W.heap.size 0 rfl CR _ (bk_range HB3.out) HUR.out rfl HIR.out ?_)
  refine pe3.mono ?_
  rintro e w4 ⟨hres, k4⟩
  obtain ⟨Aw, cw, rfl, ow⟩ := key hres
  have K4 := Lib.hid (K3.out.trans k4); have HX4 := Lib.hid (HOX.out.no k4); have HOW := Lib.hid ow
  clear pe3 hres k4 ow key pre HOX
  -- Decode
  have HA4 := Lib.hid (HAW.out.no K4.out)
  have HO0 := Lib.hid (own_fresh w4 W.heap.size 5 K4.out.size)
  have K5 := Lib.hid (K4.out.alloc (.cells #[] 5))
  have HA5 := Lib.hid (HA4.out.no ((Kp.refl No w4).alloc (.cells #[] 5)))
  have hsz1 : W.heap.size ≤ (w4.alloc (.cells #[] 5)).heap.size := K5.out.size
  go_wp2_with (at_builtin; go_must (refine (wpList_appV _ rfl _ _ 46 rfl (w4.heap.size) 5 _ 1 Try.underlying46 Try.infoByte rfl _ 0 [] rfl (own_fresh w4 w4.heap.size 5 (Nat.le_refl _)) A l.length c (u8s l) rfl (by simp) HA5.out.cs.1 (u8s_one _) (by have := HNC.out; omega) (by have := HNC.out; omega) (Nat.le_of_lt (by simp)) ?_)); intro v6 w6 o6 k6 _; have O6 : OwnB w6 w4.heap.size v6 l := own_of (l := []) o6 rfl; have k46 : Kp No w4 w6 := kp_own (own_fresh w4 w4.heap.size 5 (Nat.le_refl _)) ((Kp.refl No w4).alloc (.cells #[] 5)) k6; obtain ⟨A6, c6, hv6, _⟩ := own_len O6; subst hv6; have HO6 := Lib.hid O6; have HK46 := Lib.hid k46; clear o6 k6 O6 k46)
  have pd := bdecode_any A6 c6 l w6 (own_argB HO6.out) (by have := HNC.out; omega)
  refine pd.mono ?_
  rintro e w7 ⟨gv7, rv7, rfl, og, or_, k7⟩
  obtain ⟨A7, c7, rfl, _⟩ := own_len og
  obtain ⟨A8, c8, rfl, _⟩ := own_len or_
  have K7 := Lib.hid ((K4.out.trans HK46.out).trans k7)
  have HG7 := Lib.hid og; have HR7 := Lib.hid or_
  have HX7 := Lib.hid ((HX4.out.no HK46.out).no k7); have HW7 := Lib.hid ((HOW.out.no HK46.out).no k7)
  obtain ⟨m, hm⟩ : ∃ m, m = decRec l := ⟨_, rfl⟩
  obtain ⟨de, hde⟩ : ∃ de, de = decErr l := ⟨_, rfl⟩
  rw [← hm] at HG7 HR7 ⊢
  rw [← hde]
  have HM := Lib.hid hm; have HDE := Lib.hid hde
  obtain ⟨CD, hCD⟩ : ∃ C : List Value, C = rC m (.slice A7 m.grant.stamp.length c7) (.slice A8 m.stamp.length c8) := ⟨_, rfl⟩
  obtain ⟨q9, hq9⟩ : ∃ q, q = w7.heap.size := ⟨_, rfl⟩
  obtain ⟨w8, hw8⟩ : ∃ w8, w8 = w7.alloc (.cells (rC m (.slice A7 m.grant.stamp.length c7) (.slice A8 m.stamp.length c8)).toArray 32) := ⟨_, rfl⟩
  have k78 : Kp No w7 w8 := by rw [hw8]; exact (Kp.refl No w7).alloc _
  have HB8 := Lib.hid (show Bk w8 q9 32 CD by rw [hw8, hq9, hCD]; exact Bk.new' rfl rfl)
  have K8 := Lib.hid (K7.out.trans k78)
  have HG8 := Lib.hid (own_kp HG7.out k78 fun _ _ q => q); have HR8 := Lib.hid (own_kp HR7.out k78 fun _ _ q => q)
  have HX8 := Lib.hid (HX7.out.no k78); have HW8 := Lib.hid (HW7.out.no k78)
  have HCD := Lib.hid hCD; have HWW := Lib.hid hw8; have HQ9 := Lib.hid hq9
  clear pd og or_ k7 k78 hm hde hCD hw8 hq9 hsz1
  simp only [rC] at HWW ⊢
  go_upto_region 6 with (fail)
  rw [← HWW.out, ← HQ9.out]
  clear HWW HQ9
  have prd := rdecode_any A c l w8 (HAW.out.no K8.out) (by have := HNC.out; omega) (fun h => argB_lt (HAW.out.no K8.out) h)
  go_wp2_with fail
  refine prd.mono ?_
  rintro e w9 ⟨gv9, rv9, rfl, og, or_, k9⟩
  obtain ⟨A9, c9, rfl, _⟩ := own_len og
  obtain ⟨A10, c10, rfl, _⟩ := own_len or_
  rw [← HM.out] at og or_ ⊢
  rw [← HDE.out]
  have HG9 := Lib.hid og; have HR9 := Lib.hid or_
  obtain ⟨CE, hCE⟩ : ∃ C : List Value, C = rC m (.slice A9 m.grant.stamp.length c9) (.slice A10 m.stamp.length c10) := ⟨_, rfl⟩
  obtain ⟨q11, hq11⟩ : ∃ q, q = w9.heap.size := ⟨_, rfl⟩
  obtain ⟨wa, hwa⟩ : ∃ wa, wa = w9.alloc (.cells (rC m (.slice A9 m.grant.stamp.length c9) (.slice A10 m.stamp.length c10)).toArray 32) := ⟨_, rfl⟩
  have k9a : Kp No w9 wa := by rw [hwa]; exact (Kp.refl No w9).alloc _
  have k8a := k9.trans k9a
  have HBA := Lib.hid (show Bk wa q11 32 CE by rw [hwa, hq11, hCE]; exact Bk.new' rfl rfl)
  have HBD := Lib.hid (HB8.out.no k8a)
  have KA := Lib.hid (K8.out.trans k8a)
  have hsh := dec_shC l
  rw [← HM.out] at hsh
  have ps : ∀ W2, Kp No wa W2 → Calls Try.prog 27 #[.agg CD.toArray, .agg CE.toArray] W2 fun e w' => e = .returned (.bool true) ∧ Kp No W2 w' := fun W2 kk => by
    rw [HCD.out, hCE]
    have h1 : m.grant.stamp.length ≤ maxLen := by unfold maxLen; omega
    have h2 : m.stamp.length ≤ maxLen := by unfold maxLen; omega
    refine (rsameRec_any m m _ _ _ _ W2 ((own_argI (own_kp HG8.out k8a fun _ _ q => q)).no kk) ((own_argI (own_kp HR8.out k8a fun _ _ q => q)).no kk) ((own_argI (own_kp HG9.out k9a fun _ _ q => q)).no kk) ((own_argI (own_kp HR9.out k9a fun _ _ q => q)).no kk) h1 h2 h1 h2).mono fun e w' ⟨h3, h4⟩ => ⟨?_, h4⟩
    rw [h3, decide_eq_true rfl]
  have hcx := conv_own (HX8.out.no k8a)
  have hcw := conv_own (HW8.out.no k8a)
  have HIE := Lib.hid (show (Try.prog.info? 32).map (·.size) = some CE.length by rw [hCE]; kernel_rfl)
  have HID := Lib.hid (show (Try.prog.info? 32).map (·.size) = some CD.length by rw [HCD.out]; kernel_rfl)
  have HWW := Lib.hid hwa; have HQ11 := Lib.hid hq11
  clear prd og or_ k9 k9a k8a hCE hwa hq11 hsh
  simp only [rC] at HWW ⊢
  go_upto_region 7 with (fail)
  rw [← HWW.out, ← HQ11.out]
  clear HWW HQ11
  generalize (⟨xb.toArray⟩ : ByteArray) = S1 at hcx hcw
  go_wp2_with (first | (refine wpList_load_mid_g (by rfl) _ _ rfl q9 0 rfl CD _ (bk_range HBD.out) HUR.out rfl HID.out ?_) | (refine wpList_load_mid_g (by rfl) _ _ rfl q11 0 rfl CE _ (bk_range HBA.out) HUR.out rfl HIE.out ?_) | fail)
  refine (ps _ (Kp.refl _ _)).mono ?_
  rintro e wz ⟨rfl, kz⟩
  have KZ := Lib.hid (KA.out.trans kz)
  clear ps kz hcx hcw
  go_wp2
  go_ret
  exact ⟨rfl, KZ.out.below (Nat.le_refl _) fun _ _ m => m⟩
/-! ### The row's step -/
set_option maxRecDepth 100000 in
theorem lifted (os : Os) (started : os.Started) (H : Type) (enc : TypeId × Value → H) :
    ReturnsInHanded {} Try.checked os 6 .any (Rows.bookCodesSpec.pre6 enc Try.prog Try.f6 Rows.bookCodesRow.domain false) (Rows.bookCodesSpec.post enc Try.prog Try.f6 false true false false) := by
  refine returnsInHanded_of_change_sized (C := Try.checked) own started (by kernel_rfl) Try.func6
    (ChangeSpec.witness6 (enc := enc) (C := Try.checked) false ⟨#[], #[.agg #[.int .i64 0, .int .i64 0, .int .i64 0, .string ⟨#[]⟩, .int .i64 0, .slice none 0 0, .int .i64 0, .int .i64 0, .slice none 0 0, .int .i64 0, .int .i64 0, .int .i64 0], .slice none 0 0], []⟩ 8 (by kernel_rfl) (by kernel_rfl) (by kernel_rfl) (by kernel_rfl)) ?_
  intro W base args ds gs before hval0 hW hcnd hsz0 _
  have hval : ∀ (j : Nat) t v, Try.f6.params[j]? = some t → args[j]? = some v → Value.okWide Try.prog W .any base t v := hval0
  have hW' := hW
  obtain ⟨p, q, hA0, hV, rfl, hfz, hnd⟩ := hW
  have hA : DataW.TrodAll enc Try.prog W 0 (fun _ => true) true Try.f6.params.toList args.toList ds p := hA0
  rw [Try.params6] at hA hval
  obtain ⟨v0, vs0, d0, ds0, p0, q0, hargs, rfl, rfl, h0, r0⟩ := trodAll_cons hA
  obtain ⟨v1, vs1, d1, ds1, p1, q1, rfl, rfl, rfl, h1, r1⟩ := trodAll_cons r0
  obtain ⟨rfl, rfl, rfl⟩ := trodAll_nil r1
  obtain rfl : args = #[v0, v1] := by cases args; simp_all
  obtain ⟨rfl, rfl⟩ := trodVars_none hV
  have hsz : ∀ (j : Nat) (t : TypeId) (d : DataW H), ([32, 46] : List TypeId)[j]? = some t → [d0, d1][j]? = some d → ∀ n ∈ d.weights Try.prog t, n ≤ reachBytes := by
    intro j t d ht hd n hn
    have hsz1 : (DataW.weightsEach Try.prog ([32, 46] : List TypeId) [d0, d1]).all (· ≤ reachBytes) = true := hsz0
    have := List.all_eq_true.1 hsz1 n (DataW.weights_mem_each ht hd n hn)
    simpa using this
  have k0 := h0
  have lt0 : ∀ x ∈ p0, x.block < W.heap.size := by obtain ⟨m, hm⟩ := k0; exact DataW.trod_lt m _ _ _ hm
  obtain ⟨r0r, g0v, r0v, rfl, ag0, ar0, s0⟩ := open_rec (hval 0 32 v0 rfl rfl) h0 (hsz 0 32 _ rfl rfl)
  have k1 := h1
  have lt1 : ∀ x ∈ p1, x.block < W.heap.size := by obtain ⟨m, hm⟩ := k1; exact DataW.trod_lt m _ _ _ hm
  obtain ⟨A1, n1, c1, l1, rfl, a1, z1⟩ := open_bytesA Try.underlying46 Try.underlying5 (by kernel_rfl) (by kernel_rfl) (hval 1 46 v1 rfl rfl) h1 (hsz 1 46 _ rfl rfl)
  refine (walk r0r g0v r0v A1 n1 c1 l1 W ag0 ar0 s0 a1 z1).mono fun e W' ⟨he, bel⟩ => ?_
  subst he
  exact ⟨_, rfl, _, _, _, [], _, [], hW', trodAll_mk1 (shut_bool Try.underlying4 _), (trodAll_cons_mk (Below.trod laidOut (by kernel_rfl) (of_decide_eq_true (by kernel_rfl)) k0 bel lt0) (trodAll_cons_mk (Below.trod laidOut (by kernel_rfl) (of_decide_eq_true (by kernel_rfl)) k1 bel lt1) trodAll_mk0)), rfl, bel.frame _, fun h => by cases h⟩

theorem over : Rows.bookCodesRow.holds Try.pinned (OpenSpec.ofChange Rows.bookCodesSpec) :=
  OpenClaim.holds_of_wide 6 Try.f6 rfl rfl rfl rfl rfl rfl rfl ⟨rfl, rfl, rfl, rfl, rfl⟩ rfl rfl rfl rfl rfl (by kernel_rfl) Try.func6 (by kernel_rfl)
    (of_decide_eq_true (by kernel_rfl)) (by unfold Func.isWrapper; first | (rw [if_pos (by decide +kernel)]; kernel_rfl) | (rw [if_neg (by decide +kernel)]; exact ⟨rfl, rfl⟩))
    (fun os started H enc _ => lifted os started H enc)

theorem proved : Rows.BookCodesSaid := over
#print axioms proved
end Go.Proofs.Ytifdceofglocdaa.bookCodes
