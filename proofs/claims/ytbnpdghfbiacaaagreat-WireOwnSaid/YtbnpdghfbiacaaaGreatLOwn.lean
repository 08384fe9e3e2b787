/- WireOwn: what is handed in stays as it is, and what is answered shares no memory, for every message and list of bytes. No condition. -/
import Derived.Test.YtbnpdghfbiacaaaGreatB16
import Derived.Test.YtbnpdghfbiacaaaGreatB17
import Derived.Test.YtbnpdghfbiacaaaGreatB45
import Derived.Test.YtbnpdghfbiacaaaGreatB26
import Derived.Test.YtbnpdghfbiacaaaGreatLw
import Derived.ProofKit
import Derived.OpenShut
import Derived.ShutString
import Derived.ChangeOld
import Derived.SizedLaws
import Derived.Below
namespace Go.Proofs.YtbnpdghfbiacaaaGreat.wireOwn
open Go.ChangeShapes Go.WideShapes Go.ChangeAt Go.RowKit
open Go.ChangeMaps (open_string shut_string)

theorem own : ownKnob Tryz.prog.godebug = none := by kernel_rfl
theorem laidOut : laidOutB Tryz.prog = true := by kernel_rfl
set_option maxRecDepth 100000 in
set_option maxHeartbeats 40000000 in
theorem walk (m : Msg) (A : Option Addr) (c : Nat) (Ab : Option Addr) (nb cb : Nat) (l : List UInt8) (W : World) (ha : ArgInts W (.slice A m.stamp.length c) m.stamp) (hr : Rng m) (hs : Short maxLen m) (hl : m.stamp.length ≤ 17592186043904) (hp : m.path.length ≤ 140737488355328) (hb : ArgB W (.slice Ab nb cb) l) (hcb : cb ≤ 140737488351232) :
    Calls Tryz.prog 6 #[.agg (mcells m (.slice A m.stamp.length c)).toArray, .slice Ab nb cb] W fun e w' => e = .returned (.bool true) ∧ Below W.heap.size W w' := by
  obtain ⟨_, hnl, hnc⟩ := hb.cs
  subst hnl
  have kA : Kp No W (W.alloc (.cells (mcells m (.slice A m.stamp.length c)).toArray 28)) := (Kp.refl No W).alloc _
  have hB : Bk (W.alloc (.cells (mcells m (.slice A m.stamp.length c)).toArray 28)) W.heap.size 28 (mcells m (.slice A m.stamp.length c)) := Bk.new' rfl rfl
  have pa := awake_any (W.alloc (.cells (mcells m (.slice A m.stamp.length c)).toArray 28))
  have HA := Lib.hid (ha.no kA); have HV := Lib.hid (hb.no kA); have HB := Lib.hid hB; have HK := Lib.hid kA; have HR := Lib.hid hr; have HS := Lib.hid hs; have HL := Lib.hid hl; have HP := Lib.hid hp; have HCB := Lib.hid (show l.length ≤ 140737488351232 by omega)
  have hu := Lib.hid Tryz.underlying28
  have hia : Hid ((Tryz.prog.info? 28).map (·.size) = some (mcells m (.slice A m.stamp.length c)).length) := Lib.hid (by kernel_rfl)
  clear ha hB kA hr hs hl hp hb hcb hnc
  simp only [mcells] at pa HB HK HA HV
  have HB0 := Lib.hid (show Bk _ W.heap.size 28 (mcells m (.slice A m.stamp.length c)) from HB.out)
  clear HB
  unfold mcells
  go_enter Tryz.func6, Tryz.ntmps6
  go_wp2_with fail
  refine pa.mono ?_
  rintro e w1 ⟨rfl, k1⟩
  have HB1 := Lib.hid (HB0.out.no k1); have K1 := Lib.hid (HK.out.trans k1); have HA1 := Lib.hid (HA.out.no k1); have HV1 := Lib.hid (HV.out.no k1)
  clear pa k1 HB0 HK HA HV
  -- room
  have HO0 := Lib.hid (own_fresh w1 w1.heap.size 3 (Nat.le_refl _))
  have KE := Lib.hid ((Kp.refl No w1).alloc (.cells #[] 3))
  have HAE := Lib.hid (HA1.out.no KE.out)
  have z13 : (w1.alloc (.cells #[] 3)).cell? ⟨W.heap.size, 13, none⟩ = some (.slice A m.stamp.length c) := (HB1.out.no KE.out).cell 13
  have hszE : w1.heap.size ≤ (w1.alloc (.cells #[] 3)).heap.size := KE.out.size
  have hlm := HL.out
  go_wp2_with (first
    | (at_builtin; refine (wpList_appV _ rfl _ _ 26 rfl w1.heap.size 3 _ 8 Tryz.underlying26 Tryz.infoI rfl _ 0 [] rfl HO0.out A m.stamp.length c (ints m.stamp) rfl (by simp) HAE.out.cs.1 (ints_one _) (by omega) (by omega) hszE ?_); intro v2 w2 o2 k2 n2; rw [Nat.zero_add, List.nil_append] at o2; have K2 := Lib.hid (kp_own HO0.out KE.out k2); obtain ⟨A2, c2, hv2, _⟩ := own_len o2; subst hv2; have HO2 := Lib.hid o2; clear o2 k2 n2 hszE z13; have hszF : w1.heap.size ≤ (w2.alloc (.cells #[.int .i64 (-91), .int .i64 (-92)] 3)).heap.size := Nat.le_trans K2.out.size ((Kp.refl No w2).alloc (.cells #[.int .i64 (-91), .int .i64 (-92)] 3)).size; have HO2F := Lib.hid (own_kp HO2.out ((Kp.refl No w2).alloc (.cells #[.int .i64 (-91), .int .i64 (-92)] 3)) (fun _ _ m => m)))
    | (at_builtin; refine (wpList_appV _ rfl _ _ 26 rfl w1.heap.size 3 _ 8 Tryz.underlying26 Tryz.infoI rfl _ m.stamp.length (ints m.stamp) rfl HO2F.out _ 2 2 [.int .i64 (-91), .int .i64 (-92)] rfl rfl (cs_new rfl rfl) (by intro u hu; cases hu with | head => rfl | tail _ h => (cases h with | head => rfl | tail _ h => cases h)) (by omega) (by omega) hszF ?_); intro v3 w3 o3 k3 n3; have K3 := Lib.hid (kp_own HO2F.out (K2.out.alloc _) k3); obtain ⟨nR, hnR⟩ : ∃ nR, nR = m.stamp.length + 2 := ⟨_, rfl⟩; rw [← hnR] at o3; obtain ⟨rg, c3, hv3, hc3, hrg1, hrg2⟩ := own_form o3 (by omega); subst hv3; have HO3 := Lib.hid o3; have HNR := Lib.hid hnR; have hnr : m.stamp.length < nR := (by omega); have HB3 := Lib.hid (HB1.out.no K3.out); have hsl := slice_toI rg nR m.stamp.length c3 (by omega) (by omega); clear o3 k3 n3 hnR hszF HO2F; obtain ⟨z0, z1, z2, z3, z4, z5, z6, z7, z8, z9, z10, z11, z12, z13, z14, z15⟩ := cells16 HB3.out; have b13 : (w3.alloc (.cells #[.int .i64 m.kind, .int .i64 m.from_, .int .i64 m.dest, .int .i64 m.boot, .int .i64 m.seq, .int .i64 m.low, .int .i64 m.verb, .string ⟨m.path.toArray⟩, .int .i64 m.mode, .int .i64 m.term, .int .i64 m.id, .bool m.fresh, .int .i64 m.code, .slice A m.stamp.length c, .int .i64 m.origin, .int .i64 m.number] 28)).cell? ⟨W.heap.size, 13, none⟩ = some (.slice A m.stamp.length c) := (HB3.out.alloc _).cell 13))
  clear z0 z1 z2 z3 z4 z5 z6 z7 z8 z9 z10 z11 z12 z13 z14 z15 hsl b13
  have HS13 := Lib.hid (show w1.heap.size ≤ w3.heap.size from K3.out.size)
  have HW1 := Lib.hid (show W.heap.size + 1 ≤ w1.heap.size by have := HB1.out.lt; omega)
  have HRG := Lib.hid (And.intro hrg1 hrg2)
  clear hrg1 hrg2 hlm
  have K13 := Lib.hid (K1.out.trans K3.out)
  have HA3 := Lib.hid (HA1.out.no K3.out); have HV3 := Lib.hid (HV1.out.no K3.out)
  clear K1 K2 K3 HO0 HO2 KE HAE HA1 HV1 HB1
  have HIN4 := Lib.hid (show Bk (w3.alloc (.cells (mcells m (.slice (some ⟨rg, 0, none⟩) m.stamp.length c3)).toArray 28)) w3.heap.size 28 (mcells m (.slice (some ⟨rg, 0, none⟩) m.stamp.length c3)) from Bk.new' rfl rfl)
  have KI := Lib.hid ((Kp.refl No w3).alloc (.cells (mcells m (.slice (some ⟨rg, 0, none⟩) m.stamp.length c3)).toArray 28))
  have hsr := SlI.take (own_slI3 HO3.out HNR.out) m.stamp.length (by simp)
  rw [List.take_left' rfl] at hsr
  have HSR := Lib.hid hsr; clear hsr
  have pe := encode_any m (.slice (some ⟨rg, 0, none⟩) m.stamp.length c3) _ (HSR.out.no KI.out) HR.out HS.out
  have HB4 := Lib.hid (HB3.out.no KI.out); have HA4 := Lib.hid (HA3.out.no KI.out); have HV4 := Lib.hid (HV3.out.no KI.out); have K4 := Lib.hid (K13.out.trans KI.out); have HO4 := Lib.hid (own_kp HO3.out KI.out (fun _ _ m => m)); have HSR4 := Lib.hid (HSR.out.no KI.out)
  clear HB3 HA3 HV3 K13 HO3 HSR KI
  generalize hw4 : w3.alloc (.cells (mcells m (.slice (some ⟨rg, 0, none⟩) m.stamp.length c3)).toArray 28) = w4 at *
  have HW4 := Lib.hid (show w3.heap.size + 1 = w4.heap.size by rw [← hw4]; simp)
  simp only [mcells] at hw4
  try rw [hw4]
  clear hw4
  refine pe.mono ?_
  have hir : Hid ((Tryz.prog.info? 28).map (·.size) = some (mcells m (.slice (some ⟨rg, 0, none⟩) m.stamp.length c3)).length) := Lib.hid (by kernel_rfl)
  as_aux_lemma =>
  intro e w5 hres
  obtain ⟨Ax, cx, rfl, hox, _, k5⟩ := enc_uni hres
  have HX5 := Lib.hid hox; have HXZ := Lib.hid (fun g hg => hox.lt g hg : ∀ g, (Value.slice Ax (encB m).length cx).ownBlock = some g → w4.heap.size ≤ g ∧ g < w5.heap.size); have HS45 := Lib.hid (show w4.heap.size ≤ w5.heap.size from k5.size)
  have HB5 := Lib.hid (HB4.out.no k5); have HIN5 := Lib.hid (HIN4.out.no k5); have HA5 := Lib.hid (HA4.out.no k5); have HV5 := Lib.hid (HV4.out.no k5); have K5 := Lib.hid (K4.out.trans k5); have HO5 := Lib.hid (own_kp HO4.out k5 (fun _ _ m => m)); have HSR5 := Lib.hid (HSR4.out.no k5)
  clear HB4 HIN4 HA4 HV4 K4 HO4 HSR4
  clear k5 hres hox pe
  have pe := encode_any m (.slice (some ⟨rg, 0, none⟩) m.stamp.length c3) w5 HSR5.out HR.out HS.out
  go_wp2_with (refine wpList_load_mid rfl _ _ rfl w3.heap.size 0 rfl (mcells m (.slice (some ⟨rg, 0, none⟩) m.stamp.length c3)) _ (range_of HIN5.out) hu.out rfl hir.out ?_)
  refine pe.mono ?_
  as_aux_lemma =>
  intro e w6 hres
  obtain ⟨Ay, cy, rfl, hoy, _, k6⟩ := enc_uni hres
  have HY6 := Lib.hid hoy; have HYZ := Lib.hid (fun g hg => hoy.lt g hg : ∀ g, (Value.slice Ay (encB m).length cy).ownBlock = some g → w5.heap.size ≤ g ∧ g < w6.heap.size); have HS56 := Lib.hid (show w5.heap.size ≤ w6.heap.size from k6.size)
  have HB6 := Lib.hid (HB5.out.no k6); have HIN6 := Lib.hid (HIN5.out.no k6); have HA6 := Lib.hid (HA5.out.no k6); have HV6 := Lib.hid (HV5.out.no k6); have K6 := Lib.hid (K5.out.trans k6); have HO6 := Lib.hid (own_kp HO5.out k6 (fun _ _ m => m)); have HSR6 := Lib.hid (HSR5.out.no k6); have HX6 := Lib.hid (HX5.out.no k6)
  clear HB5 HIN5 HA5 HV5 K5 HO5 HSR5 HX5
  clear k6 hres hoy pe
  have ps := same_any m m (.slice (some ⟨rg, 0, none⟩) m.stamp.length c3) (.slice (some ⟨rg, 0, none⟩) m.stamp.length c3) w6 HSR6.out.arg HSR6.out.arg HS.out.2 HS.out.2
  go_wp2_with (refine wpList_load_mid rfl _ _ rfl w3.heap.size 0 rfl (mcells m (.slice (some ⟨rg, 0, none⟩) m.stamp.length c3)) _ (range_of HIN6.out) hu.out rfl hir.out ?_)
  refine ps.mono ?_
  as_aux_lemma =>
  rintro e w7 ⟨rfl, k7⟩
  have HS67 := Lib.hid (show w6.heap.size ≤ w7.heap.size from k7.size)
  have HB7 := Lib.hid (HB6.out.no k7); have HIN7 := Lib.hid (HIN6.out.no k7); have HA7 := Lib.hid (HA6.out.no k7); have HV7 := Lib.hid (HV6.out.no k7); have K7 := Lib.hid (K6.out.trans k7); have HO7 := Lib.hid (own_kp HO6.out k7 (fun _ _ m => m)); have HSR7 := Lib.hid (HSR6.out.no k7); have HX7 := Lib.hid (HX6.out.no k7); have HY7 := Lib.hid (HY6.out.no k7)
  clear HB6 HIN6 HA6 HV6 K6 HO6 HSR6 HX6 HY6
  clear k7 ps
  -- full
  have HF0 := Lib.hid (own_fresh w7 w7.heap.size 5 (Nat.le_refl _))
  have KE := Lib.hid ((Kp.refl No w7).alloc (.cells #[] 5))
  have HVE := Lib.hid (HV7.out.no KE.out)
  have hszE : w7.heap.size ≤ (w7.alloc (.cells #[] 5)).heap.size := KE.out.size
  have hcb := HCB.out
  go_wp2_with (first
    | (at_builtin; refine (wpList_appV _ rfl _ _ 30 rfl w7.heap.size 5 _ 1 Tryz.underlying30 Tryz.infoByte rfl _ 0 [] rfl HF0.out Ab l.length cb (u8s l) rfl (by simp) HVE.out.cs.1 (u8s_one _) (by omega) (by omega) hszE ?_); intro v8 w8 o8 k8 n8; have O8 : OwnB w8 w7.heap.size v8 l := own_of (l := []) o8 rfl; have K78 := Lib.hid (kp_own HF0.out KE.out k8); obtain ⟨A8, c8, hv8, _⟩ := own_len O8; subst hv8; have HO8 := Lib.hid O8; clear O8 o8 k8 n8 hszE; have hszF : w7.heap.size ≤ (w8.alloc (.cells #[.int .u8 91, .int .u8 92] 5)).heap.size := Nat.le_trans K78.out.size ((Kp.refl No w8).alloc (.cells #[.int .u8 91, .int .u8 92] 5)).size; have HO8F := Lib.hid (HO8.out.no ((Kp.refl No w8).alloc (.cells #[.int .u8 91, .int .u8 92] 5))))
    | (at_builtin; refine (wpList_appV _ rfl _ _ 30 rfl w7.heap.size 5 _ 1 Tryz.underlying30 Tryz.infoByte rfl _ l.length (u8s l) rfl HO8F.out _ 2 2 [.int .u8 91, .int .u8 92] rfl rfl (cs_new rfl rfl) (by intro u hu; cases hu with | head => rfl | tail _ h => (cases h with | head => rfl | tail _ h => cases h)) (by omega) (by omega) hszF ?_); intro v9 w9 o9 k9 n9; have K79 := Lib.hid (kp_own HO8F.out (K78.out.alloc _) k9); have O9 : OwnB w9 w7.heap.size v9 (l ++ [91, 92]) := own_of o9 rfl; obtain ⟨nF, hnF⟩ : ∃ nF, nF = (l ++ [91, 92]).length := ⟨_, rfl⟩; have O9b := O9; unfold OwnB at O9b; rw [← hnF] at O9b; obtain ⟨fg, cf, hv9, hcf, hfg1, hfg2⟩ := own_form O9b (by rw [hnF]; simp); subst hv9; have HNF := Lib.hid hnF; have hnf : l.length < nF := (by rw [hnF]; simp); have HF9 := Lib.hid O9; have hslf := slice_toB fg nF l.length cf (by omega) (by omega); clear O9 O9b o9 k9 n9 hnF hszF HO8F))
  have HFG := Lib.hid (And.intro hfg1 hfg2)
  have HS79 := Lib.hid (show w7.heap.size ≤ w9.heap.size from K79.out.size)
  have HB9 := Lib.hid (HB7.out.no K79.out); have HIN9 := Lib.hid (HIN7.out.no K79.out); have HA9 := Lib.hid (HA7.out.no K79.out); have HV9 := Lib.hid (HV7.out.no K79.out); have K9 := Lib.hid (K7.out.trans K79.out); have HO9 := Lib.hid (own_kp HO7.out K79.out (fun _ _ m => m)); have HSR9 := Lib.hid (HSR7.out.no K79.out); have HX9 := Lib.hid (HX7.out.no K79.out); have HY9 := Lib.hid (HY7.out.no K79.out)
  clear HB7 HIN7 HA7 HV7 K7 HO7 HSR7 HX7 HY7
  clear K78 K79 HF0 HO8 KE HVE hslf hfg1 hfg2 hcb
  have pd := fun W9 (h : ArgB W9 (.slice (some ⟨fg, 0, none⟩) l.length cf) l) => decode_any (some ⟨fg, 0, none⟩) cf l W9 h (by have := HCB.out; unfold maxLen; omega)
  have prd := fun W9 (h : ArgB W9 (.slice Ab l.length cb) l) => rdecode_any Ab cb l W9 h (by have := HCB.out; unfold maxLen; omega)
  have HST := Lib.hid (decM_stamp l)
  unfold DecodeR at pd prd
  generalize decM l = mq at *
  generalize decE l = eq at *
  have hpre : ∀ w', OwnB w' w7.heap.size (.slice (some ⟨fg, 0, none⟩) nF cf) (l ++ [91, 92]) → ArgB w' (.slice (some ⟨fg, 0, none⟩) l.length cf) l := fun w' h => by
    have h2 := (own_argB h).take l.length (by simp)
    rwa [List.take_left' rfl] at h2
  have HPRE := Lib.hid hpre; clear hpre
  refine (pd _ (HPRE.out _ HF9.out)).mono ?_
  as_aux_lemma =>
  rintro e w10 ⟨sp, rfl, hsp, k10⟩
  obtain ⟨Ap, cp, rfl, _⟩ := own_len hsp
  have HPS10 := Lib.hid hsp; have HPZ := Lib.hid (fun g hg => hsp.lt g hg : ∀ g, (Value.slice Ap mq.stamp.length cp).ownBlock = some g → w9.heap.size ≤ g ∧ g < w10.heap.size); have HS910 := Lib.hid (show w9.heap.size ≤ w10.heap.size from k10.size)
  have HB10 := Lib.hid (HB9.out.no k10); have HIN10 := Lib.hid (HIN9.out.no k10); have HA10 := Lib.hid (HA9.out.no k10); have HV10 := Lib.hid (HV9.out.no k10); have K10 := Lib.hid (K9.out.trans k10); have HO10 := Lib.hid (own_kp HO9.out k10 (fun _ _ m => m)); have HSR10 := Lib.hid (HSR9.out.no k10); have HX10 := Lib.hid (HX9.out.no k10); have HY10 := Lib.hid (HY9.out.no k10); have HF10 := Lib.hid (HF9.out.no k10)
  clear HB9 HIN9 HA9 HV9 K9 HO9 HSR9 HX9 HY9 HF9
  clear k10 hsp
  have HPB11 := Lib.hid (show Bk (w10.alloc (.cells (mcells mq (.slice Ap mq.stamp.length cp)).toArray 28)) w10.heap.size 28 (mcells mq (.slice Ap mq.stamp.length cp)) from Bk.new' rfl rfl)
  have KI := (Kp.refl No w10).alloc (.cells (mcells mq (.slice Ap mq.stamp.length cp)).toArray 28)
  have HB11 := Lib.hid (HB10.out.no KI); have HIN11 := Lib.hid (HIN10.out.no KI); have HA11 := Lib.hid (HA10.out.no KI); have HV11 := Lib.hid (HV10.out.no KI); have K11 := Lib.hid (K10.out.trans KI); have HO11 := Lib.hid (own_kp HO10.out KI (fun _ _ m => m)); have HSR11 := Lib.hid (HSR10.out.no KI); have HX11 := Lib.hid (HX10.out.no KI); have HY11 := Lib.hid (HY10.out.no KI); have HF11 := Lib.hid (HF10.out.no KI); have HPS11 := Lib.hid (own_kp HPS10.out KI (fun _ _ m => m))
  clear HB10 HIN10 HA10 HV10 K10 HO10 HSR10 HX10 HY10 HF10 HPS10
  have HS1011 := Lib.hid (show w10.heap.size + 1 = (w10.alloc (.cells (mcells mq (.slice Ap mq.stamp.length cp)).toArray 28)).heap.size by simp)
  clear KI
  generalize hw11 : w10.alloc (.cells (mcells mq (.slice Ap mq.stamp.length cp)).toArray 28) = w11 at *
  simp only [mcells] at hw11 ⊢
  go_wp2_with fail
  try rw [hw11]
  clear hw11
  refine (pd _ (HPRE.out _ HF11.out)).mono ?_
  as_aux_lemma =>
  rintro e w12 ⟨sq, rfl, hsq, k12⟩
  obtain ⟨Aq, cq, rfl, _⟩ := own_len hsq
  have HQS12 := Lib.hid hsq; have HQZ := Lib.hid (fun g hg => hsq.lt g hg : ∀ g, (Value.slice Aq mq.stamp.length cq).ownBlock = some g → w11.heap.size ≤ g ∧ g < w12.heap.size); have HS1112 := Lib.hid (show w11.heap.size ≤ w12.heap.size from k12.size)
  have HB12 := Lib.hid (HB11.out.no k12); have HIN12 := Lib.hid (HIN11.out.no k12); have HA12 := Lib.hid (HA11.out.no k12); have HV12 := Lib.hid (HV11.out.no k12); have K12 := Lib.hid (K11.out.trans k12); have HO12 := Lib.hid (own_kp HO11.out k12 (fun _ _ m => m)); have HSR12 := Lib.hid (HSR11.out.no k12); have HX12 := Lib.hid (HX11.out.no k12); have HY12 := Lib.hid (HY11.out.no k12); have HF12 := Lib.hid (HF11.out.no k12); have HPS12 := Lib.hid (own_kp HPS11.out k12 (fun _ _ m => m)); have HPB12 := Lib.hid (HPB11.out.no k12)
  clear HB11 HIN11 HA11 HV11 K11 HO11 HSR11 HX11 HY11 HF11 HPS11 HPB11
  clear k12 hsq pd
  have HQB13 := Lib.hid (show Bk (w12.alloc (.cells (mcells mq (.slice Aq mq.stamp.length cq)).toArray 28)) w12.heap.size 28 (mcells mq (.slice Aq mq.stamp.length cq)) from Bk.new' rfl rfl)
  have KI := (Kp.refl No w12).alloc (.cells (mcells mq (.slice Aq mq.stamp.length cq)).toArray 28)
  have HB13 := Lib.hid (HB12.out.no KI); have HIN13 := Lib.hid (HIN12.out.no KI); have HA13 := Lib.hid (HA12.out.no KI); have HV13 := Lib.hid (HV12.out.no KI); have K13 := Lib.hid (K12.out.trans KI); have HO13 := Lib.hid (own_kp HO12.out KI (fun _ _ m => m)); have HSR13 := Lib.hid (HSR12.out.no KI); have HX13 := Lib.hid (HX12.out.no KI); have HY13 := Lib.hid (HY12.out.no KI); have HF13 := Lib.hid (HF12.out.no KI); have HPS13 := Lib.hid (own_kp HPS12.out KI (fun _ _ m => m)); have HPB13 := Lib.hid (HPB12.out.no KI); have HQS13 := Lib.hid (own_kp HQS12.out KI (fun _ _ m => m))
  clear HB12 HIN12 HA12 HV12 K12 HO12 HSR12 HX12 HY12 HF12 HPS12 HPB12 HQS12
  have HS1213 := Lib.hid (show w12.heap.size + 1 = (w12.alloc (.cells (mcells mq (.slice Aq mq.stamp.length cq)).toArray 28)).heap.size by simp)
  clear KI
  generalize hw13 : w12.alloc (.cells (mcells mq (.slice Aq mq.stamp.length cq)).toArray 28) = w13 at *
  simp only [mcells] at hw13 ⊢
  have b13 : w13.cell? ⟨W.heap.size, 13, none⟩ = some (.slice A m.stamp.length c) := HB13.out.cell 13
  have i13 : w13.cell? ⟨w3.heap.size, 13, none⟩ = some (.slice (some ⟨rg, 0, none⟩) m.stamp.length c3) := HIN13.out.cell 13
  go_wp2_with fail
  clear b13 i13
  try rw [hw13]
  clear hw13
  have pq := sameInts_any (.slice (some ⟨rg, 0, none⟩) m.stamp.length c3) (.slice A m.stamp.length c) m.stamp m.stamp w13 HSR13.out.arg HA13.out HS.out.2 HS.out.2
  rw [decide_eq_true (rfl : m.stamp = m.stamp)] at pq
  refine pq.mono ?_
  as_aux_lemma =>
  rintro e w14 ⟨rfl, k14⟩
  have HS1314 := Lib.hid (show w13.heap.size ≤ w14.heap.size from k14.size)
  have HB14 := Lib.hid (HB13.out.no k14); have HIN14 := Lib.hid (HIN13.out.no k14); have HA14 := Lib.hid (HA13.out.no k14); have HV14 := Lib.hid (HV13.out.no k14); have K14 := Lib.hid (K13.out.trans k14); have HO14 := Lib.hid (own_kp HO13.out k14 (fun _ _ m => m)); have HSR14 := Lib.hid (HSR13.out.no k14); have HX14 := Lib.hid (HX13.out.no k14); have HY14 := Lib.hid (HY13.out.no k14); have HF14 := Lib.hid (HF13.out.no k14); have HPS14 := Lib.hid (own_kp HPS13.out k14 (fun _ _ m => m)); have HPB14 := Lib.hid (HPB13.out.no k14); have HQS14 := Lib.hid (own_kp HQS13.out k14 (fun _ _ m => m)); have HQB14 := Lib.hid (HQB13.out.no k14)
  clear HB13 HIN13 HA13 HV13 K13 HO13 HSR13 HX13 HY13 HF13 HPS13 HPB13 HQS13 HQB13
  clear k14 pq
  have b13 : w14.cell? ⟨W.heap.size, 13, none⟩ = some (.slice A m.stamp.length c) := HB14.out.cell 13
  obtain ⟨csR, hbR, hlR, htR⟩ := own_bkG HO14.out
  have hnr2 : nR = m.stamp.length + 2 := HNR.out
  have r0 : w14.cell? ⟨rg, m.stamp.length, none⟩ = some (.int .i64 (-91)) := by
    rw [hbR.cell]
    have h : (csR.take nR)[m.stamp.length]? = some (.int .i64 (-91)) := by rw [htR, List.getElem?_append_right (by simp)]; simp
    rwa [List.getElem?_take_of_lt (by omega)] at h
  have r1 : w14.cell? ⟨rg, m.stamp.length + 1, none⟩ = some (.int .i64 (-92)) := by
    rw [hbR.cell]
    have h : (csR.take nR)[m.stamp.length + 1]? = some (.int .i64 (-92)) := by rw [htR, List.getElem?_append_right (by simp)]; simp
    rwa [List.getElem?_take_of_lt (by omega)] at h
  have q0 : (0 : Int) ≤ (m.stamp.length : Int) := by omega
  have q1 : (m.stamp.length : Int) < (nR : Int) := by omega
  have q2 : (m.stamp.length : Int) + 1 < (nR : Int) := by omega
  have q3 : (0 : Int) ≤ (m.stamp.length : Int) + 1 := by omega
  have q4 : (m.stamp.length : Int) + 1 ≤ 9223372036854775807 := by have := HL.out; omega
  have hof := HF14.out
  rw [HNF.out] at hof
  have hv1 := conv_all (own_argB hof)
  rw [← HNF.out] at hv1
  clear hof
  have hv2 := conv_all HV14.out
  have hcat : (⟨l.toArray⟩ : ByteArray) ++ ⟨#[91, 92]⟩ = ⟨(l ++ [91, 92]).toArray⟩ := by
    apply ByteArray.ext
    simp
  have hsz2 : ¬ 9223372036854775807 < (⟨l.toArray⟩ : ByteArray).size + 2 := by
    have h := HCB.out
    have e : (⟨l.toArray⟩ : ByteArray).size = l.length := by show l.toArray.size = _; rw [List.size_toArray]
    rw [e]; omega
  clear hbR hlR htR hnr2
  generalize (⟨l.toArray⟩ : ByteArray) = S2 at *
  generalize (⟨(l ++ [91, 92]).toArray⟩ : ByteArray) = S1 at *
  go_upto_region 14 with (fail)
  clear b13 r0 r1 q0 q1 q2 q3 q4 hv1 hv2 hcat hsz2
  have pr := rencode_any m A c w14 HA14.out (by have := HL.out; unfold maxLen; omega) HR.out HP.out
  go_wp2_with (refine wpList_load_mid rfl _ _ rfl W.heap.size 0 rfl (mcells m (.slice A m.stamp.length c)) _ (range_of HB14.out) hu.out rfl hia.out ?_)
  refine pr.mono ?_
  as_aux_lemma =>
  intro e w15 hres
  obtain ⟨Aw, cw, rfl, how, _, k15⟩ := enc_uni hres
  have HWT15 := Lib.hid how; have HWZ := Lib.hid (fun g hg => how.lt g hg : ∀ g, (Value.slice Aw (encB m).length cw).ownBlock = some g → w14.heap.size ≤ g ∧ g < w15.heap.size); have HS1415 := Lib.hid (show w14.heap.size ≤ w15.heap.size from k15.size)
  have HB15 := Lib.hid (HB14.out.no k15); have HIN15 := Lib.hid (HIN14.out.no k15); have HA15 := Lib.hid (HA14.out.no k15); have HV15 := Lib.hid (HV14.out.no k15); have K15 := Lib.hid (K14.out.trans k15); have HO15 := Lib.hid (own_kp HO14.out k15 (fun _ _ m => m)); have HSR15 := Lib.hid (HSR14.out.no k15); have HX15 := Lib.hid (HX14.out.no k15); have HY15 := Lib.hid (HY14.out.no k15); have HF15 := Lib.hid (HF14.out.no k15); have HPS15 := Lib.hid (own_kp HPS14.out k15 (fun _ _ m => m)); have HPB15 := Lib.hid (HPB14.out.no k15); have HQS15 := Lib.hid (own_kp HQS14.out k15 (fun _ _ m => m)); have HQB15 := Lib.hid (HQB14.out.no k15)
  clear HB14 HIN14 HA14 HV14 K14 HO14 HSR14 HX14 HY14 HF14 HPS14 HPB14 HQS14 HQB14
  clear k15 hres how pr
  go_wp2_with fail
  refine (prd _ HV15.out).mono ?_
  as_aux_lemma =>
  rintro e w16 ⟨stt, rfl, hst, k16⟩
  obtain ⟨At, ct, rfl, _⟩ := own_len hst
  have HTS16 := Lib.hid hst; have HTZ := Lib.hid (fun g hg => hst.lt g hg : ∀ g, (Value.slice At mq.stamp.length ct).ownBlock = some g → w15.heap.size ≤ g ∧ g < w16.heap.size); have HS1516 := Lib.hid (show w15.heap.size ≤ w16.heap.size from k16.size)
  have HB16 := Lib.hid (HB15.out.no k16); have HIN16 := Lib.hid (HIN15.out.no k16); have HA16 := Lib.hid (HA15.out.no k16); have HV16 := Lib.hid (HV15.out.no k16); have K16 := Lib.hid (K15.out.trans k16); have HO16 := Lib.hid (own_kp HO15.out k16 (fun _ _ m => m)); have HSR16 := Lib.hid (HSR15.out.no k16); have HX16 := Lib.hid (HX15.out.no k16); have HY16 := Lib.hid (HY15.out.no k16); have HF16 := Lib.hid (HF15.out.no k16); have HPS16 := Lib.hid (own_kp HPS15.out k16 (fun _ _ m => m)); have HPB16 := Lib.hid (HPB15.out.no k16); have HQS16 := Lib.hid (own_kp HQS15.out k16 (fun _ _ m => m)); have HQB16 := Lib.hid (HQB15.out.no k16); have HWT16 := Lib.hid (HWT15.out.no k16)
  clear HB15 HIN15 HA15 HV15 K15 HO15 HSR15 HX15 HY15 HF15 HPS15 HPB15 HQS15 HQB15 HWT15
  clear k16 hst prd
  have HTB17 := Lib.hid (show Bk (w16.alloc (.cells (mcells mq (.slice At mq.stamp.length ct)).toArray 28)) w16.heap.size 28 (mcells mq (.slice At mq.stamp.length ct)) from Bk.new' rfl rfl)
  have KI := (Kp.refl No w16).alloc (.cells (mcells mq (.slice At mq.stamp.length ct)).toArray 28)
  have HB17 := Lib.hid (HB16.out.no KI); have HIN17 := Lib.hid (HIN16.out.no KI); have HA17 := Lib.hid (HA16.out.no KI); have HV17 := Lib.hid (HV16.out.no KI); have K17 := Lib.hid (K16.out.trans KI); have HO17 := Lib.hid (own_kp HO16.out KI (fun _ _ m => m)); have HSR17 := Lib.hid (HSR16.out.no KI); have HX17 := Lib.hid (HX16.out.no KI); have HY17 := Lib.hid (HY16.out.no KI); have HF17 := Lib.hid (HF16.out.no KI); have HPS17 := Lib.hid (own_kp HPS16.out KI (fun _ _ m => m)); have HPB17 := Lib.hid (HPB16.out.no KI); have HQS17 := Lib.hid (own_kp HQS16.out KI (fun _ _ m => m)); have HQB17 := Lib.hid (HQB16.out.no KI); have HWT17 := Lib.hid (HWT16.out.no KI); have HTS17 := Lib.hid (own_kp HTS16.out KI (fun _ _ m => m))
  clear HB16 HIN16 HA16 HV16 K16 HO16 HSR16 HX16 HY16 HF16 HPS16 HPB16 HQS16 HQB16 HWT16 HTS16
  have HS1617 := Lib.hid (show w16.heap.size + 1 = (w16.alloc (.cells (mcells mq (.slice At mq.stamp.length ct)).toArray 28)).heap.size by simp)
  clear KI
  generalize hw17 : w16.alloc (.cells (mcells mq (.slice At mq.stamp.length ct)).toArray 28) = w17 at *
  simp only [mcells] at hw17 ⊢
  go_wp2_with fail
  try rw [hw17]
  have HNB := Lib.hid (show nR ≤ 17592186043910 ∧ nF ≤ 140737488351240 by have h1 := HNR.out; have h2 := HL.out; have h3 := HNF.out; have h4 := HCB.out; rw [List.length_append] at h3; simp at h3; omega)
  clear hw17 hu hia hir HPRE HA17 HV17 HSR17 HIN17 HB17 HR HS HP HL HCB
  -- the loops
  have hxz : ∀ g, (Value.slice Ax (encB m).length cx).ownBlock = some g → w4.heap.size ≤ g ∧ g < w5.heap.size := HXZ.out
  have hpz : ∀ g, (Value.slice Ap mq.stamp.length cp).ownBlock = some g → w9.heap.size ≤ g ∧ g < w10.heap.size := HPZ.out
  obtain ⟨csR, hbR, hlR, _⟩ := own_bkG HO17.out
  have hof := HF17.out
  unfold OwnB at hof
  obtain ⟨csF, hbF, hlF, _⟩ := own_bkG hof
  clear hof
  rw [← HNF.out] at hlF
  have HRL := Lib.hid hlR; have HBR := Lib.hid hbR; have HFL := Lib.hid hlF; have HBF := Lib.hid hbF; have HXZ2 := Lib.hid hxz; have HPZ2 := Lib.hid hpz
  clear hlR hbR hlF hbF hxz hpz HXZ HPZ
  go_loopw [119] (fun i wr => ∃ k : Nat, k ≤ nR ∧ i = .int .i64 k ∧ (∃ cs, Bk wr rg 3 cs ∧ nR ≤ cs.length) ∧ Kp (One rg) w17 wr) (fun i _ => nR - (intOf i).toNat)
  case atStart => exact ⟨0, Nat.zero_le _, rfl, ⟨csR, HBR.out, HRL.out⟩, Kp.refl _ _⟩
  case round =>
  obtain ⟨k, hk, rfl, ⟨cs, hb, hlc⟩, hkp⟩ := hrel
  by_cases hlt : k < nR
  · have hk0 : (0 : Int) ≤ (k : Int) := by omega
    have hbd := HNB.out.1
    have hk1 : (k : Int) < (nR : Int) := by omega
    obtain ⟨zc, z0⟩ : ∃ zc, wr.cell? ⟨rg, k, none⟩ = some zc := ⟨cs[k]'(by omega), by rw [hb.cell, List.getElem?_eq_getElem]⟩
    have zf := hb.frozen k
    have HB2 := Lib.hid hb; have HK2 := Lib.hid hkp; have HLC := Lib.hid hlc
    clear hb hkp hlc
    as_aux_lemma =>
    go_wp2
    go_roundw
    case rel => exact ⟨k + 1, by omega, by go_num, ⟨_, HB2.out.set_ k _, by rw [List.length_set]; exact HLC.out⟩, HK2.out.set (.inl rfl) k _⟩
    case measure => simp [intOf]; omega
  have hk1 : ¬ (k : Int) < (nR : Int) := by omega
  have HK1 := Lib.hid hkp
  clear hb hkp hlc hlt hk HBR HRL
  obtain ⟨wa, hwa⟩ : ∃ wa : World, wa = wr := ⟨_, rfl⟩
  subst hwa
  have HBF2 := Lib.hid (HBF.out.kp HK1.out (fun e => by have e : fg = rg := e; have s1 := HW4.out; have s2 := HS45.out; have s3 := HS56.out; have s4 := HS67.out; have s5 := HS79.out; have s6 := HS910.out; have s7 := HS1011.out; have s8 := HS1112.out; have s9 := HS1213.out; have s10 := HS1314.out; have s11 := HS1415.out; have s12 := HS1516.out; have s13 := HS1617.out; have s14 := HW1.out; have s15 := HRG.out; have s16 := HFG.out; have s17 := HS13.out; omega))
  as_aux_lemma =>
  go_wp2_with fail
  clear hk1 HBF
  go_loopw [128] (fun i wr => ∃ k : Nat, k ≤ nF ∧ i = .int .i64 k ∧ (∃ cs, Bk wr fg 5 cs ∧ nF ≤ cs.length) ∧ Kp (One fg) wa wr) (fun i _ => nF - (intOf i).toNat)
  case atStart => exact ⟨0, Nat.zero_le _, rfl, ⟨csF, HBF2.out, HFL.out⟩, Kp.refl _ _⟩
  case round =>
  obtain ⟨k2, hk, rfl, ⟨cs2, hb, hlc⟩, hkp⟩ := hrel
  by_cases hlt : k2 < nF
  · have hk0 : (0 : Int) ≤ (k2 : Int) := by omega
    have hbd := HNB.out.2
    have hk1 : (k2 : Int) < (nF : Int) := by omega
    obtain ⟨zc, z0⟩ : ∃ zc, wr.cell? ⟨fg, k2, none⟩ = some zc := ⟨cs2[k2]'(by omega), by rw [hb.cell, List.getElem?_eq_getElem]⟩
    have zf := hb.frozen k2
    have HB2 := Lib.hid hb; have HK2 := Lib.hid hkp; have HLC := Lib.hid hlc
    clear hb hkp hlc
    as_aux_lemma =>
    go_wp2
    go_roundw
    case rel => exact ⟨k2 + 1, by omega, by go_num, ⟨_, HB2.out.set_ k2 _, by rw [List.length_set]; exact HLC.out⟩, HK2.out.set (.inl rfl) k2 _⟩
    case measure => simp [intOf]; omega
  have hk1 : ¬ (k2 : Int) < (nF : Int) := by omega
  have HK2 := Lib.hid hkp
  clear hb hkp hlc hlt hk HBF2 HFL
  obtain ⟨wb, hwb⟩ : ∃ wb : World, wb = wr := ⟨_, rfl⟩
  subst hwb
  have HXb := Lib.hid ((HX17.out.kp HK1.out (fun g hg e => by have e : g = rg := e; have := HXZ2.out g hg; have s1 := HW4.out; have s2 := HS45.out; have s3 := HS56.out; have s4 := HS67.out; have s5 := HS79.out; have s6 := HS910.out; have s7 := HS1011.out; have s8 := HS1112.out; have s9 := HS1213.out; have s10 := HS1314.out; have s11 := HS1415.out; have s12 := HS1516.out; have s13 := HS1617.out; have s14 := HW1.out; have s15 := HRG.out; have s16 := HFG.out; have s17 := HS13.out; omega)).kp HK2.out (fun g hg e => by have e : g = fg := e; have := HXZ2.out g hg; have s1 := HW4.out; have s2 := HS45.out; have s3 := HS56.out; have s4 := HS67.out; have s5 := HS79.out; have s6 := HS910.out; have s7 := HS1011.out; have s8 := HS1112.out; have s9 := HS1213.out; have s10 := HS1314.out; have s11 := HS1415.out; have s12 := HS1516.out; have s13 := HS1617.out; have s14 := HW1.out; have s15 := HRG.out; have s16 := HFG.out; have s17 := HS13.out; omega))
  have HPb := Lib.hid (own_kp (own_kp HPS17.out HK1.out (fun g hg e => by have e : g = rg := e; have := HPZ2.out g hg; have s1 := HW4.out; have s2 := HS45.out; have s3 := HS56.out; have s4 := HS67.out; have s5 := HS79.out; have s6 := HS910.out; have s7 := HS1011.out; have s8 := HS1112.out; have s9 := HS1213.out; have s10 := HS1314.out; have s11 := HS1415.out; have s12 := HS1516.out; have s13 := HS1617.out; have s14 := HW1.out; have s15 := HRG.out; have s16 := HFG.out; have s17 := HS13.out; omega)) HK2.out (fun g hg e => by have e : g = fg := e; have := HPZ2.out g hg; have s1 := HW4.out; have s2 := HS45.out; have s3 := HS56.out; have s4 := HS67.out; have s5 := HS79.out; have s6 := HS910.out; have s7 := HS1011.out; have s8 := HS1112.out; have s9 := HS1213.out; have s10 := HS1314.out; have s11 := HS1415.out; have s12 := HS1516.out; have s13 := HS1617.out; have s14 := HW1.out; have s15 := HRG.out; have s16 := HFG.out; have s17 := HS13.out; omega))
  have HBb := Lib.hid ((HPB17.out.kp HK1.out (fun e => by have e : w10.heap.size = rg := e; have s1 := HW4.out; have s2 := HS45.out; have s3 := HS56.out; have s4 := HS67.out; have s5 := HS79.out; have s6 := HS910.out; have s7 := HS1011.out; have s8 := HS1112.out; have s9 := HS1213.out; have s10 := HS1314.out; have s11 := HS1415.out; have s12 := HS1516.out; have s13 := HS1617.out; have s14 := HW1.out; have s15 := HRG.out; have s16 := HFG.out; have s17 := HS13.out; omega)).kp HK2.out (fun e => by have e : w10.heap.size = fg := e; have s1 := HW4.out; have s2 := HS45.out; have s3 := HS56.out; have s4 := HS67.out; have s5 := HS79.out; have s6 := HS910.out; have s7 := HS1011.out; have s8 := HS1112.out; have s9 := HS1213.out; have s10 := HS1314.out; have s11 := HS1415.out; have s12 := HS1516.out; have s13 := HS1617.out; have s14 := HW1.out; have s15 := HRG.out; have s16 := HFG.out; have s17 := HS13.out; omega))
  as_aux_lemma =>
  go_wp2_with fail
  clear hk1
  go_loopw [137] (fun i wr => ∃ k : Nat, k ≤ (encB m).length ∧ i = .int .i64 k ∧ (∃ lx, OwnB wr w4.heap.size (.slice Ax (encB m).length cx) lx) ∧ Kp (fun g => (Value.slice Ax (encB m).length cx).ownBlock = some g) wb wr) (fun i _ => (encB m).length - (intOf i).toNat)
  case atStart => exact ⟨0, Nat.zero_le _, rfl, ⟨_, HXb.out⟩, Kp.refl _ _⟩
  case round =>
  obtain ⟨k3, hk, rfl, ⟨lx, ho⟩, hkp⟩ := hrel
  have hlx : lx.length = (encB m).length := by
    obtain ⟨_, _, e, _⟩ := own_len ho
    injection e with _ e _; exact e.symm
  by_cases hlt : k3 < (encB m).length
  · have hk0 : (0 : Int) ≤ (k3 : Int) := by omega
    have hbd := encB_len m
    have hk1 : (k3 : Int) < ((encB m).length : Int) := by omega
    obtain ⟨xg, cap, e, _, _, _⟩ := own_form ho (by omega)
    obtain rfl : Ax = some ⟨xg, 0, none⟩ := by injection e
    clear e
    obtain ⟨cs, hb, hlc, _⟩ := own_bkG ho
    obtain ⟨zc, z0⟩ : ∃ zc, wr.cell? ⟨xg, k3, none⟩ = some zc := ⟨cs[k3]'(by omega), by rw [hb.cell, List.getElem?_eq_getElem]⟩
    have zf := hb.frozen k3
    have HO2 := Lib.hid ho; have HK3 := Lib.hid hkp
    clear hb hkp hlc ho hlx
    as_aux_lemma =>
    go_wp2
    go_roundw
    case rel => exact ⟨k3 + 1, by omega, by go_num, ⟨_, HO2.out.set 122⟩, HK3.out.set (.inl rfl) k3 _⟩
    case measure => simp [intOf]; omega
  have hk1 : ¬ (k3 : Int) < ((encB m).length : Int) := by omega
  have HK3 := Lib.hid hkp
  have HXc := Lib.hid ho; have HLX := Lib.hid hlx
  clear ho hkp hlt hk hlx HXb
  obtain ⟨wc, hwc⟩ : ∃ wc : World, wc = wr := ⟨_, rfl⟩
  subst hwc
  have HPc := Lib.hid (own_kp HPb.out HK3.out (fun g hg e => by have h1 := HXZ2.out g e; have h2 := HPZ2.out g hg; have s1 := HW4.out; have s2 := HS45.out; have s3 := HS56.out; have s4 := HS67.out; have s5 := HS79.out; have s6 := HS910.out; have s7 := HS1011.out; have s8 := HS1112.out; have s9 := HS1213.out; have s10 := HS1314.out; have s11 := HS1415.out; have s12 := HS1516.out; have s13 := HS1617.out; have s14 := HW1.out; have s15 := HRG.out; have s16 := HFG.out; have s17 := HS13.out; omega))
  have HBc := Lib.hid (HBb.out.kp HK3.out (fun e => by have h1 := HXZ2.out _ e; have s1 := HW4.out; have s2 := HS45.out; have s3 := HS56.out; have s4 := HS67.out; have s5 := HS79.out; have s6 := HS910.out; have s7 := HS1011.out; have s8 := HS1112.out; have s9 := HS1213.out; have s10 := HS1314.out; have s11 := HS1415.out; have s12 := HS1516.out; have s13 := HS1617.out; have s14 := HW1.out; have s15 := HRG.out; have s16 := HFG.out; have s17 := HS13.out; omega))
  have b13 : wc.cell? ⟨w10.heap.size, 13, none⟩ = some (.slice Ap mq.stamp.length cp) := HBc.out.cell 13
  as_aux_lemma =>
  go_wp2_with fail
  clear hk1 HPb HBb b13
  go_loopw [147] (fun i wr => ∃ k : Nat, k ≤ mq.stamp.length ∧ i = .int .i64 k ∧ (∃ L, L.length = mq.stamp.length ∧ wr.ownsRow w9.heap.size 3 1 (.slice Ap mq.stamp.length cp) mq.stamp.length (ints L)) ∧ Bk wr w10.heap.size 28 (mcells mq (.slice Ap mq.stamp.length cp)) ∧ Kp (fun g => (Value.slice Ap mq.stamp.length cp).ownBlock = some g) wc wr) (fun i _ => mq.stamp.length - (intOf i).toNat)
  case atStart => exact ⟨0, Nat.zero_le _, rfl, ⟨_, rfl, HPc.out⟩, HBc.out, Kp.refl _ _⟩
  case round =>
  obtain ⟨k4, hk, rfl, ⟨L, hLl, ho⟩, hbx, hkp⟩ := hrel
  by_cases hlt : k4 < mq.stamp.length
  · have hk0 : (0 : Int) ≤ (k4 : Int) := by omega
    have hbd := HST.out
    have hk1 : (k4 : Int) < (mq.stamp.length : Int) := by omega
    have b13 : wr.cell? ⟨w10.heap.size, 13, none⟩ = some (.slice Ap mq.stamp.length cp) := hbx.cell 13
    obtain ⟨pg, cap, e, _, _, _⟩ := own_form ho (by omega)
    obtain rfl : Ap = some ⟨pg, 0, none⟩ := by injection e
    clear e
    obtain ⟨cs, hb, hlc, _⟩ := own_bkG ho
    obtain ⟨zc, z0⟩ : ∃ zc, wr.cell? ⟨pg, k4, none⟩ = some zc := ⟨cs[k4]'(by omega), by rw [hb.cell, List.getElem?_eq_getElem]⟩
    have zf := hb.frozen k4
    have HNB := Lib.hid (show w10.heap.size ≠ pg from fun e => by have h1 := HPZ2.out pg rfl; omega)
    have HO2 := Lib.hid ho; have HK4 := Lib.hid hkp; have HBX := Lib.hid hbx; have HLL := Lib.hid hLl
    clear hb hkp hlc ho hbx hLl
    as_aux_lemma =>
    go_wp2
    go_roundw
    case rel => exact ⟨k4 + 1, by omega, by go_num, ⟨_, by rw [List.length_set]; exact HLL.out, own_setI HO2.out (-5)⟩, HBX.out.far (p := ⟨pg, k4, none⟩) HNB.out _, HK4.out.set (.inl rfl) k4 _⟩
    case measure => simp [intOf]; omega
  have hk1 : ¬ (k4 : Int) < (mq.stamp.length : Int) := by omega
  have b13 : wr.cell? ⟨w10.heap.size, 13, none⟩ = some (.slice Ap mq.stamp.length cp) := hbx.cell 13
  have HK4 := Lib.hid hkp
  have HPd := Lib.hid ho; have HBd := Lib.hid hbx; have HLL := Lib.hid hLl
  clear ho hkp hlt hk hbx hLl HPc HBc
  obtain ⟨wd, hwd⟩ : ∃ wd : World, wd = wr := ⟨_, rfl⟩
  subst hwd
  have HXd := Lib.hid (HXc.out.kp HK4.out (fun g hg e => by have h1 := HXZ2.out g hg; have h2 := HPZ2.out g e; have s1 := HW4.out; have s2 := HS45.out; have s3 := HS56.out; have s4 := HS67.out; have s5 := HS79.out; have s6 := HS910.out; have s7 := HS1011.out; have s8 := HS1112.out; have s9 := HS1213.out; have s10 := HS1314.out; have s11 := HS1415.out; have s12 := HS1516.out; have s13 := HS1617.out; have s14 := HW1.out; have s15 := HRG.out; have s16 := HFG.out; have s17 := HS13.out; omega))
  as_aux_lemma =>
  go_wp2_with fail
  clear hk1 HXc b13
  obtain ⟨D, hD⟩ : ∃ D : Nat → Prop, D = fun g => (Value.slice Ax (encB m).length cx).ownBlock = some g ∨ (Value.slice Ap mq.stamp.length cp).ownBlock = some g ∨ g = w10.heap.size := ⟨_, rfl⟩
  have HD := Lib.hid hD; clear hD
  go_loopw [7, 24] (fun x i wr => ∃ k : Nat, k ≤ 40 ∧ i = .int .i64 k ∧ (∃ lx, OwnB wr 0 x lx ∧ lx.length ≤ 200 + k ∧ ∀ g, x.ownBlock = some g → D g ∨ wd.heap.size ≤ g) ∧ (∃ L A2 c2, wr.ownsRow 0 3 1 (.slice A2 L.length c2) L.length (ints L) ∧ L.length ≤ 5 + k ∧ (∀ g, (Value.slice A2 L.length c2).ownBlock = some g → D g ∨ wd.heap.size ≤ g) ∧ Bk wr w10.heap.size 28 (mcells mq (.slice A2 L.length c2))) ∧ Kp D wd wr) (fun _ i _ => 40 - (intOf i).toNat)
  case atStart =>
    refine ⟨0, Nat.zero_le _, rfl, ⟨_, HXd.out.mono (Nat.zero_le _), by have := encB_len m; have := HLX.out; omega, fun g hg => .inl (by rw [HD.out]; exact .inl hg)⟩, ⟨L, Ap, cp, ?_, by have := HST.out; have := HLL.out; omega, fun g hg => .inl (by rw [HD.out]; exact .inr (.inl (by rw [← HLL.out]; exact hg))), ?_⟩, Kp.refl _ _⟩
    · rw [HLL.out]; exact own_mono HPd.out (Nat.zero_le _)
    · rw [HLL.out]; exact HBd.out
  case round =>
  obtain ⟨k5, hk, rfl, ⟨lx5, ho, hlx, hzx⟩, ⟨L5, A5, c5, hoi, hli, hzi, hbx⟩, hkp⟩ := hrel
  obtain ⟨X5, d5, rfl, _⟩ := own_len ho
  have HXO := Lib.hid ho; have HXL := Lib.hid hlx; have HXD := Lib.hid hzx; have HIO := Lib.hid hoi; have HIL := Lib.hid hli; have HID := Lib.hid hzi; have HIB := Lib.hid hbx; have HK5 := Lib.hid hkp
  clear ho hlx hzx hoi hli hzi hbx hkp
  by_cases hlt : k5 < 40
  · have hk1 : (k5 : Int) < 40 := by omega
    have KE := Lib.hid ((Kp.refl No wr).alloc (.cells #[.int .u8 122] 5))
    have hx1 := HXL.out
    have HXE := Lib.hid (HXO.out.no KE.out)
    have hi1 := HIL.out
    go_wp2_with (first
      | (at_builtin; refine (wpList_appV _ rfl _ _ 30 rfl 0 5 _ 1 Tryz.underlying30 Tryz.infoByte rfl _ lx5.length (u8s lx5) rfl HXE.out _ 1 1 [.int .u8 122] rfl rfl (cs_new rfl rfl) (by intro u hu; cases hu with | head => rfl | tail _ h => cases h) (by omega) (by omega) (Nat.zero_le _) ?_); intro x2 w2 o2 k2 n2; have O2 := Lib.hid (show OwnB w2 0 x2 (lx5 ++ [122]) from own_of o2 rfl); have hk2 : Kp (fun g => (Value.slice X5 lx5.length d5).ownBlock = some g) (wr.alloc (.cells #[.int .u8 122] 5)) w2 := k2; have HKX := Lib.hid hk2; have HN2 := Lib.hid n2; have I2 := Lib.hid (own_kp (own_kp HIO.out KE.out (fun _ _ m => m)) hk2 (fun g e1 e2 => (own_apart_t HIO.out HXO.out (by decide)) g e1 e2)); have B2 := Lib.hid ((HIB.out.no KE.out).kp hk2 (fun e => own_ne HXO.out HIB.out (by decide) e)); have b13 : w2.cell? ⟨w10.heap.size, 13, none⟩ = some (.slice A5 L5.length c5) := B2.out.cell 13; have I2E := Lib.hid (own_kp I2.out ((Kp.refl No w2).alloc (.cells #[.int .i64 (-6)] 3)) (fun _ _ m => m)); clear o2 k2 n2 hk2)
      | (at_builtin; refine (wpList_appV _ rfl _ _ 26 rfl 0 3 _ 8 Tryz.underlying26 Tryz.infoI rfl _ L5.length (ints L5) rfl I2E.out _ 1 1 [.int .i64 (-6)] rfl rfl (cs_new rfl rfl) (by intro u hu; cases hu with | head => rfl | tail _ h => cases h) (by omega) (by omega) (Nat.zero_le _) ?_); intro y3 w3b o3 k3 n3; have hk3 : Kp (fun g => (Value.slice A5 L5.length c5).ownBlock = some g) (w2.alloc (.cells #[.int .i64 (-6)] 3)) w3b := k3; have HK3b := Lib.hid hk3; have HN3 := Lib.hid n3; have B3 := Lib.hid ((B2.out.alloc (.cells #[.int .i64 (-6)] 3)).kp hk3 (fun e => own_ne I2.out B2.out (by decide) e)); have O3 := Lib.hid ((O2.out.alloc (.cells #[.int .i64 (-6)] 3)).kp hk3 (fun g e1 e2 => (own_apart_t I2.out O2.out (by decide)) g e2 e1)); obtain ⟨A6, c6, hy3, _⟩ := own_len o3; subst hy3; have I3 := Lib.hid o3; have c13 : w3b.cell? ⟨w10.heap.size, 13, none⟩ = some (.slice A5 L5.length c5) := B3.out.cell 13; have cf := B3.out.frozen 13; clear o3 k3 n3 hk3 b13))
    go_roundw
    case rel =>
      have e6 : ints L5 ++ [.int .i64 (-6)] = ints (L5 ++ [-6]) := by simp [ints]
      have hl6 : (L5 ++ [-6]).length = L5.length + 1 := by simp
      have I4 := I3.out
      rw [e6, ← hl6] at I4
      have hne : ∀ g, (Value.slice A6 (L5.length + 1) c6).ownBlock = some g → g ≠ w10.heap.size := fun g hg e => own_ne I3.out B3.out (by decide) (by rw [hg, e])
      have kw : Kp (One w10.heap.size) w3b (w3b.setCell ⟨w10.heap.size, 13, none⟩ (.slice A6 (L5.length + 1) c6)) := (Kp.refl (One w10.heap.size) w3b).set (.inl rfl) 13 _
      refine ⟨k5 + 1, by omega, by go_num, ⟨_, O3.out.kp kw (fun g hg e => own_ne O3.out B3.out (by decide) (by rw [hg, show g = w10.heap.size from e])), by rw [List.length_append]; simp; omega, fun g hg => ?_⟩, ⟨L5 ++ [-6], A6, c6, ?_, by rw [hl6]; omega, fun g hg => ?_, ?_⟩, ?_⟩
      · rcases HN2.out g hg with h | h
        · exact HXD.out g h
        · right; have := HK5.out.size; simp at h; omega
      · rw [hl6] at I4 ⊢
        exact own_kp I4 kw (fun g hg e => hne g hg e)
      · rw [hl6] at hg
        rcases HN3.out g hg with h | h
        · exact HID.out g h
        · right; have h1 := HK5.out.size; have h2 := HKX.out.size; simp at h h2; omega
      · rw [hl6]; exact B3.out.set_ 13 _
      · refine ((((HK5.out.trans0 KE.out).then_ HKX.out fun i hi e => ?_).trans0 ((Kp.refl No w2).alloc _)).then_ HK3b.out fun i hi e => ?_).then_ kw fun i _ e => ?_
        · rcases HXD.out i e with h | h
          · exact h
          · omega
        · rcases HID.out i e with h | h
          · exact h
          · omega
        · rw [HD.out]; exact .inr (.inr e)
    case measure => simp [intOf]; omega
  as_aux_lemma =>
  have hk1 : ¬ (k5 : Int) < 40 := by omega
  have hst5 := HST.out
  have HDZ := Lib.hid (show ∀ g, (g = rg ∨ g = fg ∨ D g) → (w1.heap.size ≤ g ∧ g < w5.heap.size) ∨ (w7.heap.size ≤ g ∧ g ≤ w10.heap.size) from fun g hg => by
    rw [HD.out] at hg
    rcases hg with h | h | h | h | h
    · have s1 := HW4.out; have s2 := HS45.out; have s3 := HS56.out; have s4 := HS67.out; have s5 := HS79.out; have s6 := HS910.out; have s7 := HS1011.out; have s8 := HS1112.out; have s9 := HS1213.out; have s10 := HS1314.out; have s11 := HS1415.out; have s12 := HS1516.out; have s13 := HS1617.out; have s14 := HW1.out; have s15 := HRG.out; have s16 := HFG.out; have s17 := HS13.out; omega
    · have s1 := HW4.out; have s2 := HS45.out; have s3 := HS56.out; have s4 := HS67.out; have s5 := HS79.out; have s6 := HS910.out; have s7 := HS1011.out; have s8 := HS1112.out; have s9 := HS1213.out; have s10 := HS1314.out; have s11 := HS1415.out; have s12 := HS1516.out; have s13 := HS1617.out; have s14 := HW1.out; have s15 := HRG.out; have s16 := HFG.out; have s17 := HS13.out; omega
    · have h1 := HXZ2.out g h; have s1 := HW4.out; have s2 := HS45.out; have s3 := HS56.out; have s4 := HS67.out; have s5 := HS79.out; have s6 := HS910.out; have s7 := HS1011.out; have s8 := HS1112.out; have s9 := HS1213.out; have s10 := HS1314.out; have s11 := HS1415.out; have s12 := HS1516.out; have s13 := HS1617.out; have s14 := HW1.out; have s15 := HRG.out; have s16 := HFG.out; have s17 := HS13.out; omega
    · have h1 := HPZ2.out g h; have s1 := HW4.out; have s2 := HS45.out; have s3 := HS56.out; have s4 := HS67.out; have s5 := HS79.out; have s6 := HS910.out; have s7 := HS1011.out; have s8 := HS1112.out; have s9 := HS1213.out; have s10 := HS1314.out; have s11 := HS1415.out; have s12 := HS1516.out; have s13 := HS1617.out; have s14 := HW1.out; have s15 := HRG.out; have s16 := HFG.out; have s17 := HS13.out; omega
    · have s1 := HW4.out; have s2 := HS45.out; have s3 := HS56.out; have s4 := HS67.out; have s5 := HS79.out; have s6 := HS910.out; have s7 := HS1011.out; have s8 := HS1112.out; have s9 := HS1213.out; have s10 := HS1314.out; have s11 := HS1415.out; have s12 := HS1516.out; have s13 := HS1617.out; have s14 := HW1.out; have s15 := HRG.out; have s16 := HFG.out; have s17 := HS13.out; omega)
  have KT := Lib.hid (show Kp (fun g => g = rg ∨ g = fg ∨ D g) w17 wr from ((((HK1.out.mono fun _ _ e => .inl e).then_ HK2.out fun i _ e => .inr (.inl e)).then_ HK3.out fun i _ e => .inr (.inr (by rw [HD.out]; exact .inl e))).then_ HK4.out fun i _ e => .inr (.inr (by rw [HD.out]; exact .inr (.inl e)))).then_ HK5.out fun i _ e => .inr (.inr e))
  have hvy := conv_all (own_argB (HY17.out.kp KT.out fun g hg e => by have h1 := HYZ.out g hg; have h2 := HDZ.out g e; have s1 := HW4.out; have s2 := HS45.out; have s3 := HS56.out; have s4 := HS67.out; have s5 := HS79.out; have s6 := HS910.out; have s7 := HS1011.out; have s8 := HS1112.out; have s9 := HS1213.out; have s10 := HS1314.out; have s11 := HS1415.out; have s12 := HS1516.out; have s13 := HS1617.out; have s14 := HW1.out; have s15 := HRG.out; have s16 := HFG.out; have s17 := HS13.out; omega))
  have hvw := conv_all (own_argB (HWT17.out.kp KT.out fun g hg e => by have h1 := HWZ.out g hg; have h2 := HDZ.out g e; have s1 := HW4.out; have s2 := HS45.out; have s3 := HS56.out; have s4 := HS67.out; have s5 := HS79.out; have s6 := HS910.out; have s7 := HS1011.out; have s8 := HS1112.out; have s9 := HS1213.out; have s10 := HS1314.out; have s11 := HS1415.out; have s12 := HS1516.out; have s13 := HS1617.out; have s14 := HW1.out; have s15 := HRG.out; have s16 := HFG.out; have s17 := HS13.out; omega))
  have HQB := Lib.hid (HQB17.out.kp KT.out fun e => by have h2 := HDZ.out _ e; have s1 := HW4.out; have s2 := HS45.out; have s3 := HS56.out; have s4 := HS67.out; have s5 := HS79.out; have s6 := HS910.out; have s7 := HS1011.out; have s8 := HS1112.out; have s9 := HS1213.out; have s10 := HS1314.out; have s11 := HS1415.out; have s12 := HS1516.out; have s13 := HS1617.out; have s14 := HW1.out; have s15 := HRG.out; have s16 := HFG.out; have s17 := HS13.out; omega)
  have HTB := Lib.hid (HTB17.out.kp KT.out fun e => by have h2 := HDZ.out _ e; have s1 := HW4.out; have s2 := HS45.out; have s3 := HS56.out; have s4 := HS67.out; have s5 := HS79.out; have s6 := HS910.out; have s7 := HS1011.out; have s8 := HS1112.out; have s9 := HS1213.out; have s10 := HS1314.out; have s11 := HS1415.out; have s12 := HS1516.out; have s13 := HS1617.out; have s14 := HW1.out; have s15 := HRG.out; have s16 := HFG.out; have s17 := HS13.out; omega)
  have hqs := own_argI (own_kp HQS17.out KT.out fun g hg e => by have h1 := HQZ.out g hg; have h2 := HDZ.out g e; have s1 := HW4.out; have s2 := HS45.out; have s3 := HS56.out; have s4 := HS67.out; have s5 := HS79.out; have s6 := HS910.out; have s7 := HS1011.out; have s8 := HS1112.out; have s9 := HS1213.out; have s10 := HS1314.out; have s11 := HS1415.out; have s12 := HS1516.out; have s13 := HS1617.out; have s14 := HW1.out; have s15 := HRG.out; have s16 := HFG.out; have s17 := HS13.out; omega)
  have hts := own_argI (own_kp HTS17.out KT.out fun g hg e => by have h1 := HTZ.out g hg; have h2 := HDZ.out g e; have s1 := HW4.out; have s2 := HS45.out; have s3 := HS56.out; have s4 := HS67.out; have s5 := HS79.out; have s6 := HS910.out; have s7 := HS1011.out; have s8 := HS1112.out; have s9 := HS1213.out; have s10 := HS1314.out; have s11 := HS1415.out; have s12 := HS1516.out; have s13 := HS1617.out; have s14 := HW1.out; have s15 := HRG.out; have s16 := HFG.out; have s17 := HS13.out; omega)
  have ps := rsame_any mq mq Aq At cq ct wr hqs hts (by unfold maxLen; omega) (by unfold maxLen; omega)
  rw [decide_eq_true rfl] at ps
  have KF := Lib.hid (show Kp No W wr from K17.out.then_ KT.out fun i hi e => by have h2 := HDZ.out i e; have s1 := HW4.out; have s2 := HS45.out; have s3 := HS56.out; have s4 := HS67.out; have s5 := HS79.out; have s6 := HS910.out; have s7 := HS1011.out; have s8 := HS1112.out; have s9 := HS1213.out; have s10 := HS1314.out; have s11 := HS1415.out; have s12 := HS1516.out; have s13 := HS1617.out; have s14 := HW1.out; have s15 := HRG.out; have s16 := HFG.out; have s17 := HS13.out; omega)
  clear HXO HXL HXD HIO HIL HID HIB HK5 hqs hts hst5 hlt hk
  obtain ⟨x0, x1, x2, x3, x4, x5, x6, x7, x8, x9, x10, x11, x12, x13, x14, x15⟩ := cells16 HQB.out
  obtain ⟨y0, y1, y2, y3, y4, y5, y6, y7, y8, y9, y10, y11, y12, y13, y14, y15⟩ := cells16 HTB.out
  generalize (⟨(encB m).toArray⟩ : ByteArray) = S at *
  simp only [mcells] at ps
  go_wp2_with fail
  refine ps.mono ?_
  rintro e w9e ⟨rfl, k9⟩
  have KL := Lib.hid (KF.out.trans k9)
  clear ps k9 x0 x1 x2 x3 x4 x5 x6 x7 x8 x9 x10 x11 x12 x13 x14 x15 y0 y1 y2 y3 y4 y5 y6 y7 y8 y9 y10 y11 y12 y13 y14 y15 hvy hvw
  go_wp2
  go_ret
  exact ⟨rfl, KL.out.below (Nat.le_refl _) fun _ _ m => m⟩
/-! ### The row's step -/
set_option maxRecDepth 100000 in
theorem lifted (os : Os) (started : os.Started) (H : Type) (enc : TypeId × Value → H) :
    ReturnsInHanded {} Tryz.checked os 6 .any (Rows.wireOwnSpec.pre6 enc Tryz.prog Tryz.f6 Rows.wireOwnRow.domain false) (Rows.wireOwnSpec.post enc Tryz.prog Tryz.f6 false true false false) := by
  refine returnsInHanded_of_change_sized (C := Tryz.checked) own started (by kernel_rfl) Tryz.func6
    (ChangeSpec.witness6 (enc := enc) (C := Tryz.checked) false ⟨#[], #[.agg #[.int .i64 0, .int .i64 0, .int .i64 0, .int .i64 0, .int .i64 0, .int .i64 0, .int .i64 0, .string ⟨#[]⟩, .int .i64 0, .int .i64 0, .int .i64 0, .bool false, .int .i64 0, .slice none 0 0, .int .i64 0, .int .i64 0], .slice none 0 0], []⟩ 8 (by kernel_rfl) (by kernel_rfl) (by kernel_rfl) (by kernel_rfl)) ?_
  intro W base args ds gs before hval0 hW hcnd hsz0 _
  have hval : ∀ (j : Nat) t v, Tryz.f6.params[j]? = some t → args[j]? = some v → Value.okWide Tryz.prog W .any base t v := hval0
  have hW' := hW
  obtain ⟨p, q, hA0, hV, rfl, hfz, hnd⟩ := hW
  have hA : DataW.TrodAll enc Tryz.prog W 0 (fun _ => true) true Tryz.f6.params.toList args.toList ds p := hA0
  rw [Tryz.params6] at hA hval
  obtain ⟨v0, vs0, d0, ds0, p0, q0, hargs, rfl, rfl, h0, r0⟩ := trodAll_cons hA
  obtain ⟨v1, vs1, d1, ds1, p1, q1, rfl, rfl, rfl, h1, r1⟩ := trodAll_cons r0
  obtain ⟨rfl, rfl, rfl⟩ := trodAll_nil r1
  obtain rfl : args = #[v0, v1] := by cases args; simp_all
  obtain ⟨rfl, rfl⟩ := trodVars_none hV
  have hsz : ∀ (j : Nat) (t : TypeId) (d : DataW H), ([28, 30] : List TypeId)[j]? = some t → [d0, d1][j]? = some d → ∀ n ∈ d.weights Tryz.prog t, n ≤ reachBytes := by
    intro j t d ht hd n hn
    have hsz1 : (DataW.weightsEach Tryz.prog ([28, 30] : List TypeId) [d0, d1]).all (· ≤ reachBytes) = true := hsz0
    have := List.all_eq_true.1 hsz1 n (DataW.weights_mem_each ht hd n hn)
    simpa using this
  have k0 := h0
  have lt0 : ∀ x ∈ p0, x.block < W.heap.size := by obtain ⟨m, hm⟩ := k0; exact DataW.trod_lt m _ _ _ hm
  obtain ⟨m0, A0, c0, rfl, a0, r0x, s0, z0, p0⟩ := open_msg2 (hval 0 28 v0 rfl rfl) h0 (hsz 0 28 _ rfl rfl)
  have k1 := h1
  have lt1 : ∀ x ∈ p1, x.block < W.heap.size := by obtain ⟨m, hm⟩ := k1; exact DataW.trod_lt m _ _ _ hm
  obtain ⟨A1, n1, c1, l1, rfl, a1, z1⟩ := open_bytesA Tryz.underlying30 Tryz.underlying5 (by kernel_rfl) (by kernel_rfl) (hval 1 30 v1 rfl rfl) h1 (hsz 1 30 _ rfl rfl)
  refine (walk m0 A0 c0 A1 n1 c1 l1 W a0 r0x s0 z0 p0 a1 z1).mono fun e W' ⟨he, bel⟩ => ?_
  subst he
  exact ⟨_, rfl, _, _, _, [], _, [], hW', trodAll_mk1 (shut_bool Tryz.underlying4 _), (trodAll_cons_mk (Below.trod laidOut (by kernel_rfl) (of_decide_eq_true (by kernel_rfl)) k0 bel lt0) (trodAll_cons_mk (Below.trod laidOut (by kernel_rfl) (of_decide_eq_true (by kernel_rfl)) k1 bel lt1) trodAll_mk0)), rfl, bel.frame _, fun h => by cases h⟩

theorem over : Rows.wireOwnRow.holds Tryz.pinned (OpenSpec.ofChange Rows.wireOwnSpec) :=
  OpenClaim.holds_of_wide 6 Tryz.f6 rfl rfl rfl rfl rfl rfl rfl ⟨rfl, rfl, rfl, rfl, rfl⟩ rfl rfl rfl rfl rfl (by kernel_rfl) Tryz.func6 (by kernel_rfl)
    (of_decide_eq_true (by kernel_rfl)) (by unfold Func.isWrapper; first | (rw [if_pos (by decide +kernel)]; kernel_rfl) | (rw [if_neg (by decide +kernel)]; exact ⟨rfl, rfl⟩))
    (fun os started H enc _ => lifted os started H enc)

theorem proved : Rows.WireOwnSaid := over
#print axioms proved
end Go.Proofs.YtbnpdghfbiacaaaGreat.wireOwn
