/- BookBack: decoding an encoded record gives it back, and bytes that are decoded are the only ones of their record, for every record and every list of bytes. No condition. -/
import Derived.Test.YtifdceofglocdaaB21
import Derived.Test.YtifdceofglocdaaB19
import Derived.Test.YtifdceofglocdaaB22
import Derived.Deep.CutBlock
import Derived.Deep.MidRow
import Derived.ProofKit
import Derived.OpenShut
import Derived.ShutString
import Derived.ChangeOld
import Derived.SizedLaws
import Derived.Below
namespace Go.Proofs.Ytifdceofglocdaa.bookBack
open Go.ChangeShapes Go.WideShapes Go.ChangeAt Go.RowKit
open Go.ChangeMaps (open_string shut_string)

theorem own : ownKnob Try.prog.godebug = none := by kernel_rfl
theorem laidOut : laidOutB Try.prog = true := by kernel_rfl
theorem dec_sh (l : List UInt8) : (decRec l).grant.path.length ≤ l.length ∧ (decRec l).grant.stamp.length ≤ 5 ∧ (decRec l).stamp.length ≤ 5 := by
  unfold decRec decR
  split
  · exact takeR_sh _ _
  · exact ⟨Nat.zero_le _, Nat.zero_le _, Nat.zero_le _⟩
theorem dec_of {l : List UInt8} {m : Rcd} (h : decR l = some m) : decRec l = m ∧ decErr l = 0 := by unfold decRec decErr; rw [h]; exact ⟨rfl, rfl⟩
theorem dec_no {l : List UInt8} (h : decR l = none) : decRec l = {} ∧ decErr l = 43 := by unfold decRec decErr; rw [h]; exact ⟨rfl, rfl⟩
/-- what Encode answers, in one piece -/
theorem EncR.one {W w' : World} {r : Rcd} {e : Ending} (h : EncR W r e w') :
    ∃ (xv : Value) (ev : Int), e = .returned (.tuple #[xv, .int .i64 ev]) ∧ ((encR r = none ∧ ev = 43 ∧ xv = .slice none 0 0) ∨ ∃ b, encR r = some b ∧ ev = 0 ∧ OwnB w' W.heap.size xv b) ∧ Kp No W w' := by
  obtain ⟨⟨h1, rfl⟩ | ⟨v, b, h1, rfl, h2⟩, k⟩ := h
  · exact ⟨_, _, rfl, .inl ⟨h1, rfl, rfl⟩, k⟩
  · exact ⟨_, _, rfl, .inr ⟨b, h1, rfl, h2⟩, k⟩
set_option maxRecDepth 100000 in
set_option maxHeartbeats 8000000 in
theorem walk (r : Rcd) (gv rv : Value) (A : Option Addr) (n c : Nat) (l : List UInt8) (W : World) (hg : ArgInts W gv r.grant.stamp) (hr : ArgInts W rv r.stamp) (hs : ShRin r) (ha : ArgB W (.slice A n c) l) (hc : c ≤ 140737488351232) :
    Calls Try.prog 7 #[.agg (rC r gv rv).toArray, .slice A n c] W fun e w' => e = .returned (.bool true) ∧ Below W.heap.size W w' := by
  obtain ⟨_, hnl, hnc⟩ := ha.cs
  subst hnl
  obtain ⟨Ag, cg, rfl, _⟩ := ints_of _ _ _ hg
  obtain ⟨Ar, cr, rfl, _⟩ := ints_of _ _ _ hr
  obtain ⟨w0, hw0⟩ : ∃ w0, w0 = W.alloc (.cells (rC r (.slice Ag r.grant.stamp.length cg) (.slice Ar r.stamp.length cr)).toArray 32) := ⟨_, rfl⟩
  have HB0 := Lib.hid (show Bk w0 W.heap.size 32 (rC r (.slice Ag r.grant.stamp.length cg) (.slice Ar r.stamp.length cr)) by rw [hw0]; exact Bk.new' rfl rfl)
  have K0 := Lib.hid (show Kp No W w0 by rw [hw0]; exact (Kp.refl No W).alloc _)
  have HG0 := Lib.hid (hg.no K0.out); have HR0 := Lib.hid (hr.no K0.out); have HA0 := Lib.hid (ha.no K0.out)
  have HAW := Lib.hid ha
  have HW := Lib.hid hw0
  have HNC := Lib.hid (show l.length ≤ 140737488351232 by omega)
  have HS := Lib.hid hs
  have pa := awake_any w0
  clear hw0 hg hr ha hs
  go_enter Try.func7, Try.ntmps7
  go_upto_region 1 with (fail)
  unfold rC at HW ⊢
  rw [← HW.out]
  clear HW
  go_wp2_with fail
  refine pa.mono ?_
  rintro e w1 ⟨rfl, k1⟩
  have HB1 := Lib.hid (HB0.out.no k1); have HG1 := Lib.hid (HG0.out.no k1); have HR1 := Lib.hid (HR0.out.no k1); have HA1 := Lib.hid (HA0.out.no k1); have K1 := Lib.hid (K0.out.trans k1)
  clear pa k1 HB0 HG0 HR0 HA0 K0
  have po := ownRec_any r _ _ w1 HG1.out HR1.out HS.out.1.2 HS.out.2
  obtain ⟨C, hC⟩ : ∃ C, C = rC r (.slice Ag r.grant.stamp.length cg) (.slice Ar r.stamp.length cr) := ⟨_, rfl⟩
  rw [← hC] at po
  have HC := Lib.hid hC
  have HX := Lib.hid (show Bk w1 W.heap.size 32 C by rw [hC]; exact HB1.out)
  have HU := Lib.hid Try.underlying32
  have HI := Lib.hid (rec_size (show C.length = 12 by rw [hC]; rfl))
  clear hC
  go_wp2_with (with_reducible refine wpList_load_mid rfl _ _ rfl W.heap.size 0 rfl C _ (bk_range HX.out) HU.out rfl HI.out ?_)
  refine po.mono ?_
  rintro e w2 ⟨gv2, rv2, rfl, og, or_, k2⟩
  have K2 := Lib.hid k2
  have pe := bencode_any r gv2 rv2 w2 (own_slI og) (own_slI or_) HS.out.1.sh (by have := HS.out.2; unfold maxLen; omega)
  clear po og or_ k2 HX HI HC
  go_wp2_with fail
  refine pe.mono ?_
  rintro e w3 hx
  obtain ⟨xv, ev, rfl, hx, k3⟩ := EncR.one hx
  have K3 := Lib.hid (K2.out.trans k3)
  have HX := Lib.hid hx
  clear pe k3 hx K2
  go_upto_if 22 with (fail)
  go_cut [4] (fun s wx => s = .bool false ∧ Kp No w1 wx)
  case first =>
    rcases HX.out with ⟨_, rfl, rfl⟩ | ⟨b, hb, rfl, ho⟩
    · clear HX
      go_wp2
      go_meet
      case rel => exact ⟨rfl, K3.out⟩
    · obtain ⟨hd, hl1, hl2⟩ := decR_encR hb
      obtain ⟨A4, c4, rfl, _⟩ := own_len ho
      have pd := bdecode_any A4 c4 b w3 (own_argB ho) (by omega)
      have hdd := dec_of hd
      unfold DecR at pd
      rw [hdd.1, hdd.2] at pd
      have g1 : (1 : Int) ≤ (b.length : Int) := by omega
      have g2 : (b.length : Int) ≤ 188 := by omega
      clear HX hb ho hd hdd hl1 hl2
      go_upto_region 6 with (go_at_call 25; refine pd.mono ?_; rintro e w4 ⟨gv4, rv4, rfl, og, or_, k4⟩; obtain ⟨A5, c5, rfl, _⟩ := own_len og; obtain ⟨A6, c6, rfl, _⟩ := own_len or_; have HG4 := Lib.hid og; have HR4 := Lib.hid or_; have K4 := Lib.hid (K3.out.trans k4); clear og or_ k4; unfold rC)
      have kM : Kp No w4 (w4.alloc (.cells (rC r (.slice A5 r.grant.stamp.length c5) (.slice A6 r.stamp.length c6)).toArray 32)) := (Kp.refl No w4).alloc _
      have K5 := Lib.hid (K4.out.trans kM)
      have HB5 := Lib.hid (HB1.out.no K5.out)
      have ps := rsameRec_any r r (.slice A5 r.grant.stamp.length c5) (.slice A6 r.stamp.length c6) (.slice Ag r.grant.stamp.length cg) (.slice Ar r.stamp.length cr) _ ((own_argI HG4.out).no kM) ((own_argI HR4.out).no kM) (HG1.out.no K5.out) (HR1.out.no K5.out)
        HS.out.1.sh.2 (by have := HS.out.2; unfold maxLen; omega) HS.out.1.sh.2 (by have := HS.out.2; unfold maxLen; omega)
      rw [decide_eq_true (rfl : r = r)] at ps
      clear pd kM
      unfold rC at ps K5 HB5
      have z0 : (w4.alloc (.cells #[.int .i64 r.kind, .int .i64 r.grant.id, .int .i64 r.grant.holder, .string ⟨r.grant.path.toArray⟩, .int .i64 r.grant.mode, .slice A5 r.grant.stamp.length c5, .int .i64 r.grant.term, .int .i64 r.id, .slice A6 r.stamp.length c6, .int .i64 r.next, .int .i64 r.boots, .int .i64 r.longest] 32)).cell? ⟨W.heap.size, 0, none⟩ = some (.int .i64 r.kind) := HB5.out.cell 0
      have z1 : (w4.alloc (.cells #[.int .i64 r.kind, .int .i64 r.grant.id, .int .i64 r.grant.holder, .string ⟨r.grant.path.toArray⟩, .int .i64 r.grant.mode, .slice A5 r.grant.stamp.length c5, .int .i64 r.grant.term, .int .i64 r.id, .slice A6 r.stamp.length c6, .int .i64 r.next, .int .i64 r.boots, .int .i64 r.longest] 32)).cell? ⟨W.heap.size, 1, none⟩ = some (.int .i64 r.grant.id) := HB5.out.cell 1
      have z2 : (w4.alloc (.cells #[.int .i64 r.kind, .int .i64 r.grant.id, .int .i64 r.grant.holder, .string ⟨r.grant.path.toArray⟩, .int .i64 r.grant.mode, .slice A5 r.grant.stamp.length c5, .int .i64 r.grant.term, .int .i64 r.id, .slice A6 r.stamp.length c6, .int .i64 r.next, .int .i64 r.boots, .int .i64 r.longest] 32)).cell? ⟨W.heap.size, 2, none⟩ = some (.int .i64 r.grant.holder) := HB5.out.cell 2
      have z3 : (w4.alloc (.cells #[.int .i64 r.kind, .int .i64 r.grant.id, .int .i64 r.grant.holder, .string ⟨r.grant.path.toArray⟩, .int .i64 r.grant.mode, .slice A5 r.grant.stamp.length c5, .int .i64 r.grant.term, .int .i64 r.id, .slice A6 r.stamp.length c6, .int .i64 r.next, .int .i64 r.boots, .int .i64 r.longest] 32)).cell? ⟨W.heap.size, 3, none⟩ = some (.string ⟨r.grant.path.toArray⟩) := HB5.out.cell 3
      have z4 : (w4.alloc (.cells #[.int .i64 r.kind, .int .i64 r.grant.id, .int .i64 r.grant.holder, .string ⟨r.grant.path.toArray⟩, .int .i64 r.grant.mode, .slice A5 r.grant.stamp.length c5, .int .i64 r.grant.term, .int .i64 r.id, .slice A6 r.stamp.length c6, .int .i64 r.next, .int .i64 r.boots, .int .i64 r.longest] 32)).cell? ⟨W.heap.size, 4, none⟩ = some (.int .i64 r.grant.mode) := HB5.out.cell 4
      have z5 : (w4.alloc (.cells #[.int .i64 r.kind, .int .i64 r.grant.id, .int .i64 r.grant.holder, .string ⟨r.grant.path.toArray⟩, .int .i64 r.grant.mode, .slice A5 r.grant.stamp.length c5, .int .i64 r.grant.term, .int .i64 r.id, .slice A6 r.stamp.length c6, .int .i64 r.next, .int .i64 r.boots, .int .i64 r.longest] 32)).cell? ⟨W.heap.size, 5, none⟩ = some (.slice Ag r.grant.stamp.length cg) := HB5.out.cell 5
      have z6 : (w4.alloc (.cells #[.int .i64 r.kind, .int .i64 r.grant.id, .int .i64 r.grant.holder, .string ⟨r.grant.path.toArray⟩, .int .i64 r.grant.mode, .slice A5 r.grant.stamp.length c5, .int .i64 r.grant.term, .int .i64 r.id, .slice A6 r.stamp.length c6, .int .i64 r.next, .int .i64 r.boots, .int .i64 r.longest] 32)).cell? ⟨W.heap.size, 6, none⟩ = some (.int .i64 r.grant.term) := HB5.out.cell 6
      have z7 : (w4.alloc (.cells #[.int .i64 r.kind, .int .i64 r.grant.id, .int .i64 r.grant.holder, .string ⟨r.grant.path.toArray⟩, .int .i64 r.grant.mode, .slice A5 r.grant.stamp.length c5, .int .i64 r.grant.term, .int .i64 r.id, .slice A6 r.stamp.length c6, .int .i64 r.next, .int .i64 r.boots, .int .i64 r.longest] 32)).cell? ⟨W.heap.size, 7, none⟩ = some (.int .i64 r.id) := HB5.out.cell 7
      have z8 : (w4.alloc (.cells #[.int .i64 r.kind, .int .i64 r.grant.id, .int .i64 r.grant.holder, .string ⟨r.grant.path.toArray⟩, .int .i64 r.grant.mode, .slice A5 r.grant.stamp.length c5, .int .i64 r.grant.term, .int .i64 r.id, .slice A6 r.stamp.length c6, .int .i64 r.next, .int .i64 r.boots, .int .i64 r.longest] 32)).cell? ⟨W.heap.size, 8, none⟩ = some (.slice Ar r.stamp.length cr) := HB5.out.cell 8
      have z9 : (w4.alloc (.cells #[.int .i64 r.kind, .int .i64 r.grant.id, .int .i64 r.grant.holder, .string ⟨r.grant.path.toArray⟩, .int .i64 r.grant.mode, .slice A5 r.grant.stamp.length c5, .int .i64 r.grant.term, .int .i64 r.id, .slice A6 r.stamp.length c6, .int .i64 r.next, .int .i64 r.boots, .int .i64 r.longest] 32)).cell? ⟨W.heap.size, 9, none⟩ = some (.int .i64 r.next) := HB5.out.cell 9
      have z10 : (w4.alloc (.cells #[.int .i64 r.kind, .int .i64 r.grant.id, .int .i64 r.grant.holder, .string ⟨r.grant.path.toArray⟩, .int .i64 r.grant.mode, .slice A5 r.grant.stamp.length c5, .int .i64 r.grant.term, .int .i64 r.id, .slice A6 r.stamp.length c6, .int .i64 r.next, .int .i64 r.boots, .int .i64 r.longest] 32)).cell? ⟨W.heap.size, 10, none⟩ = some (.int .i64 r.boots) := HB5.out.cell 10
      have z11 : (w4.alloc (.cells #[.int .i64 r.kind, .int .i64 r.grant.id, .int .i64 r.grant.holder, .string ⟨r.grant.path.toArray⟩, .int .i64 r.grant.mode, .slice A5 r.grant.stamp.length c5, .int .i64 r.grant.term, .int .i64 r.id, .slice A6 r.stamp.length c6, .int .i64 r.next, .int .i64 r.boots, .int .i64 r.longest] 32)).cell? ⟨W.heap.size, 11, none⟩ = some (.int .i64 r.longest) := HB5.out.cell 11
      go_wp2_with fail
      refine ps.mono ?_
      rintro e w6 ⟨rfl, k6⟩
      have K6 := Lib.hid (K5.out.trans k6)
      clear ps k6 z0 z1 z2 z3 z4 z5 z6 z7 z8 z9 z10 z11
      go_wp2
      go_meet
      case rel => exact ⟨rfl, K6.out⟩
  case rest =>
    obtain ⟨rfl, hk⟩ := hcut
    have KC := Lib.hid (K1.out.trans hk)
    have HAc := Lib.hid (HA1.out.no hk)
    clear hk HX K3 HB1 HG1 HR1 HA1 K1
    have HO0 := Lib.hid (own_fresh wc W.heap.size 5 KC.out.size)
    have K2 := Lib.hid (KC.out.alloc (.cells #[] 5))
    have HA2 := Lib.hid (HAc.out.no ((Kp.refl No wc).alloc (.cells #[] 5)))
    have hsz1 : W.heap.size ≤ (wc.alloc (.cells #[] 5)).heap.size := K2.out.size
    go_wp2_with (at_builtin; refine (wpList_appV _ rfl _ _ 46 rfl W.heap.size 5 _ 1 Try.underlying46 Try.infoByte rfl _ 0 [] rfl HO0.out A l.length c (u8s l) rfl (by simp) HA2.out.cs.1 (u8s_one _) (by omega) (by omega) hsz1 ?_); intro v2 w2 o2 k2 _; have O2 : OwnB w2 W.heap.size v2 l := own_of (l := []) o2 rfl; have K5 := Lib.hid (kp_own HO0.out K2.out k2); obtain ⟨A2, c2, hv2, _⟩ := own_len O2; subst hv2; have HO2 := Lib.hid O2; clear o2 k2 O2)
    have pd := bdecode_any A2 c2 l _ (own_argB HO2.out) (by have := HNC.out; omega)
    refine pd.mono ?_
    rintro e w7 ⟨gv7, rv7, rfl, og, or_, k7⟩
    obtain ⟨A7, c7, rfl, _⟩ := own_len og
    obtain ⟨A8, c8, rfl, _⟩ := own_len or_
    have K7 := Lib.hid (K5.out.trans k7)
    have HG7 := Lib.hid og; have HR7 := Lib.hid or_
    clear pd k7 og or_ HO2 K2 HA2 HO0 K5
    cases hd : decR l with
    | none =>
      obtain ⟨e1, e2⟩ := dec_no hd
      rw [e1] at HG7 HR7 ⊢
      rw [e2]
      have ps : ∀ W2, Kp No w7 W2 → Calls Try.prog 27 #[.agg (rC {} (.slice A7 ({} : Rcd).grant.stamp.length c7) (.slice A8 ({} : Rcd).stamp.length c8)).toArray, .agg (rC {} (.slice none 0 0) (.slice none 0 0)).toArray] W2 fun e w' => e = .returned (.bool true) ∧ Kp No w7 w' := fun W2 k =>
        (rsameRec_any {} {} _ _ _ _ W2 ((own_argI HG7.out).no k) ((own_argI HR7.out).no k) (ArgInts.nil _ _ _) (ArgInts.nil _ _ _) (Nat.zero_le _) (Nat.zero_le _) (Nat.zero_le _) (Nat.zero_le _)).mono fun e w' ⟨h, k2⟩ => ⟨by rw [h]; simp, k.trans k2⟩
      simp only [rC, List.length_nil] at ps ⊢
      clear hd e1 e2 HG7 HR7
      go_wp2_with (go_at_call 27; (with_reducible refine (ps _ (by with_reducible repeat (first | exact Kp.refl _ _ | refine Kp.alloc ?_ _))).mono ?_); rintro e w9 ⟨rfl, k9⟩; have K9 := Lib.hid (K7.out.trans k9); clear k9)
      go_ret
      exact ⟨rfl, K9.out.below (Nat.le_refl _) fun _ _ m => m⟩
    | some m =>
      obtain ⟨e1, e2⟩ := dec_of hd
      have HEN := Lib.hid (encR_decR hd)
      have hsh := dec_sh l
      rw [e1] at HG7 HR7 hsh ⊢
      rw [e2]
      have kM : Kp No w7 (w7.alloc (.cells (rC m (.slice A7 m.grant.stamp.length c7) (.slice A8 m.stamp.length c8)).toArray 32)) := (Kp.refl No w7).alloc _
      have pe := bencode_any m (.slice A7 m.grant.stamp.length c7) (.slice A8 m.stamp.length c8) _ ((own_slI HG7.out).no kM) ((own_slI HR7.out).no kM) ⟨by have := HNC.out; have := hsh.1; unfold maxLen; omega, by have := hsh.2.1; unfold maxLen; omega⟩ (by have := hsh.2.2; unfold maxLen; omega)
      have K8 := Lib.hid (K7.out.trans kM)
      have HNE := Lib.hid (show l ≠ [] from fun h => by have := (decR_encR HEN.out).2.1; rw [h] at this; simp at this)
      clear hd e1 e2 kM hsh HG7 HR7
      simp only [rC] at pe K8 ⊢
      go_wp2_with fail
      refine pe.mono ?_
      rintro e w9 ⟨hr9, k9⟩
      have K9 := Lib.hid (K8.out.trans k9)
      clear k9 pe
      rcases hr9 with ⟨h, _⟩ | ⟨v, b, h, rfl, ho⟩
      · rw [HEN.out] at h; cases h
      obtain rfl : l = b := by rw [HEN.out] at h; exact Option.some.inj h
      have hc1 := conv_any (own_argB ho) HNE.out
      have hc2 := conv_any (HAW.out.no K9.out) HNE.out
      obtain ⟨A6, c6, rfl, _⟩ := own_len ho
      clear h ho
      generalize (⟨l.toArray⟩ : ByteArray) = S1 at *
      go_wp2
      go_ret
      exact ⟨rfl, K9.out.below (Nat.le_refl _) fun _ _ m => m⟩
/-! ### The row's step -/
set_option maxRecDepth 100000 in
theorem lifted (os : Os) (started : os.Started) (H : Type) (enc : TypeId × Value → H) :
    ReturnsInHanded {} Try.checked os 7 .any (Rows.bookBackSpec.pre6 enc Try.prog Try.f7 Rows.bookBackRow.domain false) (Rows.bookBackSpec.post enc Try.prog Try.f7 false true false false) := by
  refine returnsInHanded_of_change_sized (C := Try.checked) own started (by kernel_rfl) Try.func7
    (ChangeSpec.witness6 (enc := enc) (C := Try.checked) false ⟨#[], #[.agg #[.int .i64 0, .int .i64 0, .int .i64 0, .string ⟨#[]⟩, .int .i64 0, .slice none 0 0, .int .i64 0, .int .i64 0, .slice none 0 0, .int .i64 0, .int .i64 0, .int .i64 0], .slice none 0 0], []⟩ 8 (by kernel_rfl) (by kernel_rfl) (by kernel_rfl) (by kernel_rfl)) ?_
  intro W base args ds gs before hval0 hW hcnd hsz0 _
  have hval : ∀ (j : Nat) t v, Try.f7.params[j]? = some t → args[j]? = some v → Value.okWide Try.prog W .any base t v := hval0
  have hW' := hW
  obtain ⟨p, q, hA0, hV, rfl, hfz, hnd⟩ := hW
  have hA : DataW.TrodAll enc Try.prog W 0 (fun _ => true) true Try.f7.params.toList args.toList ds p := hA0
  rw [Try.params7] at hA hval
  obtain ⟨v0, vs0, d0, ds0, p0, q0, hargs, rfl, rfl, h0, r0⟩ := trodAll_cons hA
  obtain ⟨v1, vs1, d1, ds1, p1, q1, rfl, rfl, rfl, h1, r1⟩ := trodAll_cons r0
  obtain ⟨rfl, rfl, rfl⟩ := trodAll_nil r1
  obtain rfl : args = #[v0, v1] := by cases args; simp_all
  obtain ⟨rfl, rfl⟩ := trodVars_none hV
  have hsz : ∀ (j : Nat) (t : TypeId) (d : DataW H), ([32, 46] : List TypeId)[j]? = some t → [d0, d1][j]? = some d → ∀ n ∈ d.weights Try.prog t, n ≤ reachBytes := by
    intro j t d ht hd n hn
    have hsz1 : (DataW.weightsEach Try.prog ([32, 46] : List TypeId) [d0, d1]).all (· ≤ reachBytes) = true := hsz0
    have := List.all_eq_true.1 hsz1 n (DataW.weights_mem_each ht hd n hn)
    simpa using this
  have k0 := h0
  have lt0 : ∀ x ∈ p0, x.block < W.heap.size := by obtain ⟨m, hm⟩ := k0; exact DataW.trod_lt m _ _ _ hm
  obtain ⟨r0r, g0v, r0v, rfl, ag0, ar0, s0⟩ := open_rec (hval 0 32 v0 rfl rfl) h0 (hsz 0 32 _ rfl rfl)
  have k1 := h1
  have lt1 : ∀ x ∈ p1, x.block < W.heap.size := by obtain ⟨m, hm⟩ := k1; exact DataW.trod_lt m _ _ _ hm
  obtain ⟨A1, n1, c1, l1, rfl, a1, z1⟩ := open_bytesA Try.underlying46 Try.underlying5 (by kernel_rfl) (by kernel_rfl) (hval 1 46 v1 rfl rfl) h1 (hsz 1 46 _ rfl rfl)
  refine (walk r0r g0v r0v A1 n1 c1 l1 W ag0 ar0 s0 a1 z1).mono fun e W' ⟨he, bel⟩ => ?_
  subst he
  exact ⟨_, rfl, _, _, _, [], _, [], hW', trodAll_mk1 (shut_bool Try.underlying4 _), (trodAll_cons_mk (Below.trod laidOut (by kernel_rfl) (of_decide_eq_true (by kernel_rfl)) k0 bel lt0) (trodAll_cons_mk (Below.trod laidOut (by kernel_rfl) (of_decide_eq_true (by kernel_rfl)) k1 bel lt1) trodAll_mk0)), rfl, bel.frame _, fun h => by cases h⟩

theorem over : Rows.bookBackRow.holds Try.pinned (OpenSpec.ofChange Rows.bookBackSpec) :=
  OpenClaim.holds_of_wide 7 Try.f7 rfl rfl rfl rfl rfl rfl rfl ⟨rfl, rfl, rfl, rfl, rfl⟩ rfl rfl rfl rfl rfl (by kernel_rfl) Try.func7 (by kernel_rfl)
    (of_decide_eq_true (by kernel_rfl)) (by unfold Func.isWrapper; first | (rw [if_pos (by decide +kernel)]; kernel_rfl) | (rw [if_neg (by decide +kernel)]; exact ⟨rfl, rfl⟩))
    (fun os started H enc _ => lifted os started H enc)

theorem proved : Rows.BookBackSaid := over
#print axioms proved
end Go.Proofs.Ytifdceofglocdaa.bookBack
