/- WireSame: the walk, by whether the two messages are one. No condition beyond what each theorem states. -/
import Derived.Test.YtbnpdghfbiacaaaGreatLsa
import Derived.Test.YtbnpdghfbiacaaaGreatB46
import Derived.Test.YtbnpdghfbiacaaaGreatB26
import Derived.Test.YtbnpdghfbiacaaaGreatB18
import Derived.Deep.RegionHeld3
import Derived.Deep.Cut
import Derived.Deep.CutRange
import Derived.Deep.DeepCutAuto
import Derived.Below
namespace Go.Proofs.YtbnpdghfbiacaaaGreat.wireSame
open Go Go.RowKit Go.PlainAid Go.Proofs.YtbnpdghfbiacaaaGreat

theorem enc_inj {m n : Msg} (h1 : encE m = 0) (h2 : encE n = 0) (hb : encB m = encB n) : m = n := by
  unfold encE at h1 h2
  unfold encB at hb
  cases e1 : encS vpP m with
  | none => rw [e1] at h1; simp at h1
  | some b =>
    cases e2 : encS vpP n with
    | none => rw [e2] at h2; simp at h2
    | some b2 =>
      rw [e1, e2] at hb
      have hb : b = b2 := hb
      subst hb
      have d1 := dec_enc vpP_len e1 (enc_len vpP_len e1).2
      have d2 := dec_enc vpP_len e2 (enc_len vpP_len e2).2
      rw [d1] at d2
      exact Option.some.inj d2
set_option maxRecDepth 100000 in
set_option maxHeartbeats 16000000 in
theorem walk_ne (m n : Msg) (A : Option Addr) (c : Nat) (B : Option Addr) (d : Nat) (W : World) (ha : ArgInts W (.slice A m.stamp.length c) m.stamp) (hr : Rng m) (hs : Short maxLen m) (hl : m.stamp.length ≤ 17592186043904) (hb : ArgInts W (.slice B n.stamp.length d) n.stamp) (hr2 : Rng n) (hs2 : Short maxLen n) (hl2 : n.stamp.length ≤ 17592186043904) (hne : m ≠ n) :
    Calls Tryz.prog 5 #[.agg (mcells m (.slice A m.stamp.length c)).toArray, .agg (mcells n (.slice B n.stamp.length d)).toArray] W fun e w' => e = .returned (.bool true) ∧ Below W.heap.size W w' := by
  have kA : Kp No W ((W.alloc (.cells (mcells m (.slice A m.stamp.length c)).toArray 28)).alloc (.cells (mcells n (.slice B n.stamp.length d)).toArray 28)) := ((Kp.refl No W).alloc _).alloc _
  have hB1 : Bk ((W.alloc (.cells (mcells m (.slice A m.stamp.length c)).toArray 28)).alloc (.cells (mcells n (.slice B n.stamp.length d)).toArray 28)) W.heap.size 28 (mcells m (.slice A m.stamp.length c)) := (Bk.new' rfl rfl).alloc _
  have hB2 : Bk ((W.alloc (.cells (mcells m (.slice A m.stamp.length c)).toArray 28)).alloc (.cells (mcells n (.slice B n.stamp.length d)).toArray 28)) (W.heap.size + 1) 28 (mcells n (.slice B n.stamp.length d)) := Bk.new' (by simp) rfl
  have pa := awake_any ((W.alloc (.cells (mcells m (.slice A m.stamp.length c)).toArray 28)).alloc (.cells (mcells n (.slice B n.stamp.length d)).toArray 28))
  have HA := Lib.hid (ha.no kA); have HB := Lib.hid (hb.no kA); have HBA := Lib.hid hB1; have HBB := Lib.hid hB2; have HK := Lib.hid kA
  have HRm := Lib.hid hr; have HSm := Lib.hid hs; have HLm := Lib.hid hl
  have HRn := Lib.hid hr2; have HSn := Lib.hid hs2; have HLn := Lib.hid hl2
  have HNE := Lib.hid hne
  clear ha hb hB1 hB2 kA hr hs hl hr2 hs2 hl2 hne
  have hu := Lib.hid Tryz.underlying28
  have hia : Hid ((Tryz.prog.info? 28).map (·.size) = some (mcells m (.slice A m.stamp.length c)).length) := Lib.hid (by kernel_rfl)
  have hib : Hid ((Tryz.prog.info? 28).map (·.size) = some (mcells n (.slice B n.stamp.length d)).length) := Lib.hid (by kernel_rfl)
  simp only [mcells] at pa HK HA HB
  have HBA0 := Lib.hid (show Bk _ W.heap.size 28 (mcells m (.slice A m.stamp.length c)) from HBA.out); have HBB0 := Lib.hid (show Bk _ (W.heap.size + 1) 28 (mcells n (.slice B n.stamp.length d)) from HBB.out)
  clear HBA HBB
  unfold mcells
  go_enter Tryz.func5, Tryz.ntmps5
  go_wp2_with fail
  refine pa.mono ?_
  rintro e w1 ⟨rfl, k1⟩
  have K1 := Lib.hid (HK.out.trans k1); have HA1 := Lib.hid (HA.out.no k1); have HB1 := Lib.hid (HB.out.no k1)
  have HBA1 := Lib.hid (show Bk w1 W.heap.size 28 (mcells m (.slice A m.stamp.length c)) from HBA0.out.no k1); have HBB1 := Lib.hid (show Bk w1 (W.heap.size + 1) 28 (mcells n (.slice B n.stamp.length d)) from HBB0.out.no k1)
  clear pa k1 HA HB HBA0 HBB0 HK
  go_upto_region 3 with (fail)
  go_cut [5] (fun s wx => s = .bool false ∧ Kp No w1 wx)
  case first =>
    as_aux_lemma =>
    have qa : ∀ W2, Kp No w1 W2 → Calls Tryz.prog 9 #[.agg #[.int .i64 m.kind, .int .i64 m.from_, .int .i64 m.dest, .int .i64 m.boot, .int .i64 m.seq, .int .i64 m.low, .int .i64 m.verb, .string ⟨m.path.toArray⟩, .int .i64 m.mode, .int .i64 m.term, .int .i64 m.id, .bool m.fresh, .int .i64 m.code, .slice A m.stamp.length c, .int .i64 m.origin, .int .i64 m.number]] W2 fun e w' => ∃ A9 c9, e = .returned (.agg (mcells m (.slice A9 m.stamp.length c9)).toArray) ∧ SlI w' (.slice A9 m.stamp.length c9) m.stamp ∧ Kp No w1 w' ∧ Kp No W2 w' := fun W2 k =>
      (own_any m (.slice A m.stamp.length c) W2 (HA1.out.no k) (by have := HLm.out; omega)).mono fun e w' h => by
        obtain ⟨sv, rfl, ho, k2⟩ := h
        have hs := own_slI ho
        obtain ⟨A9, c9, rfl, _⟩ := own_len ho
        exact ⟨A9, c9, rfl, hs, k.trans k2, k2⟩
    have qb : ∀ W2, Kp No w1 W2 → Calls Tryz.prog 9 #[.agg #[.int .i64 n.kind, .int .i64 n.from_, .int .i64 n.dest, .int .i64 n.boot, .int .i64 n.seq, .int .i64 n.low, .int .i64 n.verb, .string ⟨n.path.toArray⟩, .int .i64 n.mode, .int .i64 n.term, .int .i64 n.id, .bool n.fresh, .int .i64 n.code, .slice B n.stamp.length d, .int .i64 n.origin, .int .i64 n.number]] W2 fun e w' => ∃ A9 c9, e = .returned (.agg (mcells n (.slice A9 n.stamp.length c9)).toArray) ∧ SlI w' (.slice A9 n.stamp.length c9) n.stamp ∧ Kp No w1 w' ∧ Kp No W2 w' := fun W2 k =>
      (own_any n (.slice B n.stamp.length d) W2 (HB1.out.no k) (by have := HLn.out; omega)).mono fun e w' h => by
        obtain ⟨sv, rfl, ho, k2⟩ := h
        have hs := own_slI ho
        obtain ⟨A9, c9, rfl, _⟩ := own_len ho
        exact ⟨A9, c9, rfl, hs, k.trans k2, k2⟩
    have qmm : ∀ W2 A8 c8 A9 c9, Kp No w1 W2 → SlI W2 (.slice A8 m.stamp.length c8) m.stamp → SlI W2 (.slice A9 m.stamp.length c9) m.stamp → Calls Tryz.prog 16 #[.agg (mcells m (.slice A8 m.stamp.length c8)).toArray, .agg (mcells m (.slice A9 m.stamp.length c9)).toArray] W2 fun e w' => e = .returned (.bool true) ∧ Kp No w1 w' := fun W2 A8 c8 A9 c9 k h8 h9 =>
      (same_any m m _ _ W2 h8.arg h9.arg (by have := HLm.out; unfold maxLen; omega) (by have := HLm.out; unfold maxLen; omega)).mono fun e w' h => ⟨by rw [h.1]; simp, k.trans h.2⟩
    have qmn : ∀ W2 A8 c8 A9 c9, Kp No w1 W2 → SlI W2 (.slice A8 m.stamp.length c8) m.stamp → SlI W2 (.slice A9 n.stamp.length c9) n.stamp → Calls Tryz.prog 16 #[.agg (mcells m (.slice A8 m.stamp.length c8)).toArray, .agg (mcells n (.slice A9 n.stamp.length c9)).toArray] W2 fun e w' => e = .returned (.bool false) ∧ Kp No w1 w' := fun W2 A8 c8 A9 c9 k h8 h9 =>
      (same_any m n _ _ W2 h8.arg h9.arg (by have := HLm.out; unfold maxLen; omega) (by have := HLn.out; unfold maxLen; omega)).mono fun e w' h => ⟨by rw [h.1]; simp [HNE.out], k.trans h.2⟩
    have qnm : ∀ W2 A8 c8 A9 c9, Kp No w1 W2 → SlI W2 (.slice A8 n.stamp.length c8) n.stamp → SlI W2 (.slice A9 m.stamp.length c9) m.stamp → Calls Tryz.prog 16 #[.agg (mcells n (.slice A8 n.stamp.length c8)).toArray, .agg (mcells m (.slice A9 m.stamp.length c9)).toArray] W2 fun e w' => e = .returned (.bool false) ∧ Kp No w1 w' := fun W2 A8 c8 A9 c9 k h8 h9 =>
      (same_any n m _ _ W2 h8.arg h9.arg (by have := HLn.out; unfold maxLen; omega) (by have := HLm.out; unfold maxLen; omega)).mono fun e w' h => ⟨by rw [h.1]; simp [Ne.symm HNE.out], k.trans h.2⟩

    have sk : ∀ W2, Kp No w1 W2 → W2.cell? ⟨W.heap.size, 0, none⟩ = some (.int .i64 m.kind) ∧ W2.cell? ⟨W.heap.size, 1, none⟩ = some (.int .i64 m.from_) ∧ W2.cell? ⟨W.heap.size, 2, none⟩ = some (.int .i64 m.dest) ∧ W2.cell? ⟨W.heap.size, 3, none⟩ = some (.int .i64 m.boot) ∧ W2.cell? ⟨W.heap.size, 4, none⟩ = some (.int .i64 m.seq) ∧ W2.cell? ⟨W.heap.size, 5, none⟩ = some (.int .i64 m.low) ∧ W2.cell? ⟨W.heap.size, 6, none⟩ = some (.int .i64 m.verb) ∧ W2.cell? ⟨W.heap.size, 7, none⟩ = some (.string ⟨m.path.toArray⟩) ∧ W2.cell? ⟨W.heap.size, 8, none⟩ = some (.int .i64 m.mode) ∧ W2.cell? ⟨W.heap.size, 9, none⟩ = some (.int .i64 m.term) ∧ W2.cell? ⟨W.heap.size, 10, none⟩ = some (.int .i64 m.id) ∧ W2.cell? ⟨W.heap.size, 11, none⟩ = some (.bool m.fresh) ∧ W2.cell? ⟨W.heap.size, 12, none⟩ = some (.int .i64 m.code) ∧ W2.cell? ⟨W.heap.size, 13, none⟩ = some (.slice A m.stamp.length c) ∧ W2.cell? ⟨W.heap.size, 14, none⟩ = some (.int .i64 m.origin) ∧ W2.cell? ⟨W.heap.size, 15, none⟩ = some (.int .i64 m.number) ∧ W2.cell? ⟨W.heap.size + 1, 0, none⟩ = some (.int .i64 n.kind) ∧ W2.cell? ⟨W.heap.size + 1, 1, none⟩ = some (.int .i64 n.from_) ∧ W2.cell? ⟨W.heap.size + 1, 2, none⟩ = some (.int .i64 n.dest) ∧ W2.cell? ⟨W.heap.size + 1, 3, none⟩ = some (.int .i64 n.boot) ∧ W2.cell? ⟨W.heap.size + 1, 4, none⟩ = some (.int .i64 n.seq) ∧ W2.cell? ⟨W.heap.size + 1, 5, none⟩ = some (.int .i64 n.low) ∧ W2.cell? ⟨W.heap.size + 1, 6, none⟩ = some (.int .i64 n.verb) ∧ W2.cell? ⟨W.heap.size + 1, 7, none⟩ = some (.string ⟨n.path.toArray⟩) ∧ W2.cell? ⟨W.heap.size + 1, 8, none⟩ = some (.int .i64 n.mode) ∧ W2.cell? ⟨W.heap.size + 1, 9, none⟩ = some (.int .i64 n.term) ∧ W2.cell? ⟨W.heap.size + 1, 10, none⟩ = some (.int .i64 n.id) ∧ W2.cell? ⟨W.heap.size + 1, 11, none⟩ = some (.bool n.fresh) ∧ W2.cell? ⟨W.heap.size + 1, 12, none⟩ = some (.int .i64 n.code) ∧ W2.cell? ⟨W.heap.size + 1, 13, none⟩ = some (.slice B n.stamp.length d) ∧ W2.cell? ⟨W.heap.size + 1, 14, none⟩ = some (.int .i64 n.origin) ∧ W2.cell? ⟨W.heap.size + 1, 15, none⟩ = some (.int .i64 n.number) := fun W2 k => ⟨(HBA1.out.no k).cell 0, (HBA1.out.no k).cell 1, (HBA1.out.no k).cell 2, (HBA1.out.no k).cell 3, (HBA1.out.no k).cell 4, (HBA1.out.no k).cell 5, (HBA1.out.no k).cell 6, (HBA1.out.no k).cell 7, (HBA1.out.no k).cell 8, (HBA1.out.no k).cell 9, (HBA1.out.no k).cell 10, (HBA1.out.no k).cell 11, (HBA1.out.no k).cell 12, (HBA1.out.no k).cell 13, (HBA1.out.no k).cell 14, (HBA1.out.no k).cell 15, (HBB1.out.no k).cell 0, (HBB1.out.no k).cell 1, (HBB1.out.no k).cell 2, (HBB1.out.no k).cell 3, (HBB1.out.no k).cell 4, (HBB1.out.no k).cell 5, (HBB1.out.no k).cell 6, (HBB1.out.no k).cell 7, (HBB1.out.no k).cell 8, (HBB1.out.no k).cell 9, (HBB1.out.no k).cell 10, (HBB1.out.no k).cell 11, (HBB1.out.no k).cell 12, (HBB1.out.no k).cell 13, (HBB1.out.no k).cell 14, (HBB1.out.no k).cell 15⟩
    first
      | (go_region_held3 (fun W2 => W2.cell? ⟨W.heap.size, 0, none⟩ = some (.int .i64 m.kind) ∧ W2.cell? ⟨W.heap.size, 1, none⟩ = some (.int .i64 m.from_) ∧ W2.cell? ⟨W.heap.size, 2, none⟩ = some (.int .i64 m.dest) ∧ W2.cell? ⟨W.heap.size, 3, none⟩ = some (.int .i64 m.boot) ∧ W2.cell? ⟨W.heap.size, 4, none⟩ = some (.int .i64 m.seq) ∧ W2.cell? ⟨W.heap.size, 5, none⟩ = some (.int .i64 m.low) ∧ W2.cell? ⟨W.heap.size, 6, none⟩ = some (.int .i64 m.verb) ∧ W2.cell? ⟨W.heap.size, 7, none⟩ = some (.string ⟨m.path.toArray⟩) ∧ W2.cell? ⟨W.heap.size, 8, none⟩ = some (.int .i64 m.mode) ∧ W2.cell? ⟨W.heap.size, 9, none⟩ = some (.int .i64 m.term) ∧ W2.cell? ⟨W.heap.size, 10, none⟩ = some (.int .i64 m.id) ∧ W2.cell? ⟨W.heap.size, 11, none⟩ = some (.bool m.fresh) ∧ W2.cell? ⟨W.heap.size, 12, none⟩ = some (.int .i64 m.code) ∧ W2.cell? ⟨W.heap.size, 13, none⟩ = some (.slice A m.stamp.length c) ∧ W2.cell? ⟨W.heap.size, 14, none⟩ = some (.int .i64 m.origin) ∧ W2.cell? ⟨W.heap.size, 15, none⟩ = some (.int .i64 m.number) ∧ W2.cell? ⟨W.heap.size + 1, 0, none⟩ = some (.int .i64 n.kind) ∧ W2.cell? ⟨W.heap.size + 1, 1, none⟩ = some (.int .i64 n.from_) ∧ W2.cell? ⟨W.heap.size + 1, 2, none⟩ = some (.int .i64 n.dest) ∧ W2.cell? ⟨W.heap.size + 1, 3, none⟩ = some (.int .i64 n.boot) ∧ W2.cell? ⟨W.heap.size + 1, 4, none⟩ = some (.int .i64 n.seq) ∧ W2.cell? ⟨W.heap.size + 1, 5, none⟩ = some (.int .i64 n.low) ∧ W2.cell? ⟨W.heap.size + 1, 6, none⟩ = some (.int .i64 n.verb) ∧ W2.cell? ⟨W.heap.size + 1, 7, none⟩ = some (.string ⟨n.path.toArray⟩) ∧ W2.cell? ⟨W.heap.size + 1, 8, none⟩ = some (.int .i64 n.mode) ∧ W2.cell? ⟨W.heap.size + 1, 9, none⟩ = some (.int .i64 n.term) ∧ W2.cell? ⟨W.heap.size + 1, 10, none⟩ = some (.int .i64 n.id) ∧ W2.cell? ⟨W.heap.size + 1, 11, none⟩ = some (.bool n.fresh) ∧ W2.cell? ⟨W.heap.size + 1, 12, none⟩ = some (.int .i64 n.code) ∧ W2.cell? ⟨W.heap.size + 1, 13, none⟩ = some (.slice B n.stamp.length d) ∧ W2.cell? ⟨W.heap.size + 1, 14, none⟩ = some (.int .i64 n.origin) ∧ W2.cell? ⟨W.heap.size + 1, 15, none⟩ = some (.int .i64 n.number)) (first | (go_keep; done) | exact sk _ (by with_reducible repeat (first | assumption | exact Kp.refl _ _ | refine Kp.drew ?_ | refine Kp.drewN ?_ _)))
      (first
        | (go_at_call 9; (with_reducible refine (qa _ (by with_reducible repeat (first | assumption | exact Kp.refl _ _ | refine Kp.drew ?_ | refine Kp.drewN ?_ _))).mono ?_); rintro e w7 ⟨A9, c9, rfl, hs9, k7, kr7⟩)
        | (go_at_call 9; (with_reducible refine (qb _ (by with_reducible repeat (first | assumption | exact Kp.refl _ _ | refine Kp.drew ?_ | refine Kp.drewN ?_ _))).mono ?_); rintro e w7 ⟨A9, c9, rfl, hs9, k7, kr7⟩)
        | (go_at_call 16; (with_reducible refine (qmm _ _ _ _ _ (by with_reducible repeat (first | assumption | exact Kp.refl _ _ | refine Kp.drew ?_ | refine Kp.drewN ?_ _)) (by first | assumption | exact SlI.no (by assumption) (by assumption)) (by first | assumption | exact SlI.no (by assumption) (by assumption))).mono ?_); rintro e w8 ⟨rfl, k8⟩)
        | (go_at_call 16; (with_reducible refine (qmn _ _ _ _ _ (by with_reducible repeat (first | assumption | exact Kp.refl _ _ | refine Kp.drew ?_ | refine Kp.drewN ?_ _)) (by first | assumption | exact SlI.no (by assumption) (by assumption)) (by first | assumption | exact SlI.no (by assumption) (by assumption))).mono ?_); rintro e w8 ⟨rfl, k8⟩)
        | (go_at_call 16; (with_reducible refine (qnm _ _ _ _ _ (by with_reducible repeat (first | assumption | exact Kp.refl _ _ | refine Kp.drew ?_ | refine Kp.drewN ?_ _)) (by first | assumption | exact SlI.no (by assumption) (by assumption)) (by first | assumption | exact SlI.no (by assumption) (by assumption))).mono ?_); rintro e w8 ⟨rfl, k8⟩)))
      | fail "region"
    all_goals
      go_wp2_with fail
      go_meet
      exact ⟨rfl, by assumption⟩
  case rest =>
  obtain ⟨rfl, k2⟩ := hcut
  have K2 := Lib.hid (K1.out.trans k2); have HA2 := Lib.hid (HA1.out.no k2); have HB2 := Lib.hid (HB1.out.no k2); have HBA2 := Lib.hid (HBA1.out.no k2); have HBB2 := Lib.hid (HBB1.out.no k2)
  clear k2 K1 HA1 HB1 HBA1 HBB1
  have po := fun W9 (h : ArgInts W9 (.slice A m.stamp.length c) m.stamp) => own_any m (.slice A m.stamp.length c) W9 h (by have := HLm.out; omega)
  go_wp2_with (refine wpList_load_mid rfl _ _ rfl W.heap.size 0 rfl (mcells m (.slice A m.stamp.length c)) _ (range_of HBA2.out) hu.out rfl hia.out ?_)
  refine (po _ HA2.out).mono ?_
  rintro e w3 ⟨sv, rfl, ho, k3⟩
  have K3 := Lib.hid (K2.out.trans k3); have HA3 := Lib.hid (HA2.out.no k3); have HB3 := Lib.hid (HB2.out.no k3); have HBA3 := Lib.hid (HBA2.out.no k3); have HBB3 := Lib.hid (HBB2.out.no k3)
  have pe := encode_any m sv w3 (own_slI ho) HRm.out HSm.out
  skip
  clear po ho k3 K2 HA2 HB2 HBA2 HBB2
  go_wp2_with fail
  refine pe.mono ?_
  intro e w4 hres
  obtain ⟨A4, c4, rfl, hob, hcm, k4⟩ := enc_uni hres
  have K4 := Lib.hid (K3.out.trans k4); have HA4 := Lib.hid (HA3.out.no k4); have HB4 := Lib.hid (HB3.out.no k4); have HBA4 := Lib.hid (HBA3.out.no k4); have HBB4 := Lib.hid (HBB3.out.no k4)
  have HCm := Lib.hid hcm
  clear hcm pe hres hob k4 K3 HA3 HB3 HBA3 HBB3
  have po := fun W9 (h : ArgInts W9 (.slice B n.stamp.length d) n.stamp) => own_any n (.slice B n.stamp.length d) W9 h (by have := HLn.out; omega)
  go_wp2_with (refine wpList_load_mid rfl _ _ rfl (W.heap.size + 1) 0 rfl (mcells n (.slice B n.stamp.length d)) _ (range_of HBB4.out) hu.out rfl hib.out ?_)
  refine (po _ HB4.out).mono ?_
  rintro e w5 ⟨sv, rfl, ho, k5⟩
  have K5 := Lib.hid (K4.out.trans k5); have HA5 := Lib.hid (HA4.out.no k5); have HB5 := Lib.hid (HB4.out.no k5); have HBA5 := Lib.hid (HBA4.out.no k5); have HBB5 := Lib.hid (HBB4.out.no k5)
  have pe := encode_any n sv w5 (own_slI ho) HRn.out HSn.out
  have kk1 := k5
  clear po ho k5 K4 HA4 HB4 HBA4 HBB4
  go_wp2_with fail
  refine pe.mono ?_
  intro e w6 hres
  obtain ⟨A6, c6, rfl, hob, hcn, k6⟩ := enc_uni hres
  have K6 := Lib.hid (K5.out.trans k6); have HA6 := Lib.hid (HA5.out.no k6); have HB6 := Lib.hid (HB5.out.no k6); have HBA6 := Lib.hid (HBA5.out.no k6); have HBB6 := Lib.hid (HBB5.out.no k6)
  have HCn := Lib.hid hcn; have HKK := Lib.hid (kk1.trans k6)
  clear hcn pe hres hob k6 kk1 K5 HA5 HB5 HBA5 HBB5
  have hc1 := fun W9 (k : Kp No w6 W9) => HCm.out W9 (HKK.out.trans k)
  have hc2 := fun W9 (k : Kp No w6 W9) => HCn.out W9 k
  clear HCm HCn HKK
  have qa : ∀ W2, Kp No w6 W2 → Calls Tryz.prog 9 #[.agg (mcells m (.slice A m.stamp.length c)).toArray] W2 fun e w' => ∃ A9 c9, e = .returned (.agg (mcells m (.slice A9 m.stamp.length c9)).toArray) ∧ SlI w' (.slice A9 m.stamp.length c9) m.stamp ∧ Kp No w6 w' ∧ Kp No W2 w' := fun W2 k =>
    (own_any m (.slice A m.stamp.length c) W2 (HA6.out.no k) (by have := HLm.out; omega)).mono fun e w' h => by
      obtain ⟨sv, rfl, ho, k2⟩ := h
      have hs := own_slI ho
      obtain ⟨A9, c9, rfl, _⟩ := own_len ho
      exact ⟨A9, c9, rfl, hs, k.trans k2, k2⟩
  have qb : ∀ W2, Kp No w6 W2 → Calls Tryz.prog 9 #[.agg (mcells n (.slice B n.stamp.length d)).toArray] W2 fun e w' => ∃ A9 c9, e = .returned (.agg (mcells n (.slice A9 n.stamp.length c9)).toArray) ∧ SlI w' (.slice A9 n.stamp.length c9) n.stamp ∧ Kp No w6 w' ∧ Kp No W2 w' := fun W2 k =>
    (own_any n (.slice B n.stamp.length d) W2 (HB6.out.no k) (by have := HLn.out; omega)).mono fun e w' h => by
      obtain ⟨sv, rfl, ho, k2⟩ := h
      have hs := own_slI ho
      obtain ⟨A9, c9, rfl, _⟩ := own_len ho
      exact ⟨A9, c9, rfl, hs, k.trans k2, k2⟩
  have qmm : ∀ W2 A8 c8 A9 c9, Kp No w6 W2 → SlI W2 (.slice A8 m.stamp.length c8) m.stamp → SlI W2 (.slice A9 m.stamp.length c9) m.stamp → Calls Tryz.prog 16 #[.agg (mcells m (.slice A8 m.stamp.length c8)).toArray, .agg (mcells m (.slice A9 m.stamp.length c9)).toArray] W2 fun e w' => e = .returned (.bool true) ∧ Kp No w6 w' := fun W2 A8 c8 A9 c9 k h8 h9 =>
    (same_any m m _ _ W2 h8.arg h9.arg (by have := HLm.out; unfold maxLen; omega) (by have := HLm.out; unfold maxLen; omega)).mono fun e w' h => ⟨by rw [h.1]; simp, k.trans h.2⟩
  have qmn : ∀ W2 A8 c8 A9 c9, Kp No w6 W2 → SlI W2 (.slice A8 m.stamp.length c8) m.stamp → SlI W2 (.slice A9 n.stamp.length c9) n.stamp → Calls Tryz.prog 16 #[.agg (mcells m (.slice A8 m.stamp.length c8)).toArray, .agg (mcells n (.slice A9 n.stamp.length c9)).toArray] W2 fun e w' => e = .returned (.bool false) ∧ Kp No w6 w' := fun W2 A8 c8 A9 c9 k h8 h9 =>
    (same_any m n _ _ W2 h8.arg h9.arg (by have := HLm.out; unfold maxLen; omega) (by have := HLn.out; unfold maxLen; omega)).mono fun e w' h => ⟨by rw [h.1]; simp [HNE.out], k.trans h.2⟩
  have qnm : ∀ W2 A8 c8 A9 c9, Kp No w6 W2 → SlI W2 (.slice A8 n.stamp.length c8) n.stamp → SlI W2 (.slice A9 m.stamp.length c9) m.stamp → Calls Tryz.prog 16 #[.agg (mcells n (.slice A8 n.stamp.length c8)).toArray, .agg (mcells m (.slice A9 m.stamp.length c9)).toArray] W2 fun e w' => e = .returned (.bool false) ∧ Kp No w6 w' := fun W2 A8 c8 A9 c9 k h8 h9 =>
    (same_any n m _ _ W2 h8.arg h9.arg (by have := HLn.out; unfold maxLen; omega) (by have := HLm.out; unfold maxLen; omega)).mono fun e w' h => ⟨by rw [h.1]; simp [Ne.symm HNE.out], k.trans h.2⟩
  have qf : ∀ W2, Kp No w6 W2 → Calls Tryz.prog 15 #[.agg (mcells m (.slice A m.stamp.length c)).toArray, .agg (mcells n (.slice B n.stamp.length d)).toArray] W2 fun e w' => e = .returned (.bool false) ∧ Kp No w6 w' := fun W2 k =>
    (rsame_any m n A B c d W2 (HA6.out.no k) (HB6.out.no k) (by have := HLm.out; unfold maxLen; omega) (by have := HLn.out; unfold maxLen; omega)).mono fun e w' h => ⟨by rw [h.1]; simp [HNE.out], k.trans h.2⟩
  have hd : (encE m = 0 ∧ encE n = 0 ∧ encB m ≠ encB n) ∨ encE m ≠ 0 ∨ (encE m = 0 ∧ encE n ≠ 0) := by
    by_cases h1 : encE m = 0
    · by_cases h2 : encE n = 0
      · refine .inl ⟨h1, h2, fun hb => HNE.out ?_⟩
        exact enc_inj h1 h2 hb
      · exact .inr (.inr ⟨h1, h2⟩)
    · exact .inr (.inl h1)
  have hstr : encB m ≠ encB n → ((⟨(encB m).toArray⟩ : ByteArray).toList == (⟨(encB n).toArray⟩ : ByteArray).toList) = false ∧ ¬ (⟨(encB m).toArray⟩ : ByteArray).toList = (⟨(encB n).toArray⟩ : ByteArray).toList := fun h => by
    refine ⟨?_, ?_⟩
    · rw [beq_eq_false_iff_ne, ByteArray.toList_eq, ByteArray.toList_eq]; simpa using h
    · rw [ByteArray.toList_eq, ByteArray.toList_eq]; simpa using h
  have HSTR := Lib.hid hstr; clear hstr
  have hne0 : ∀ x y : Int, x = y → x = y := fun _ _ h => h
  clear hne0
  rcases hd with ⟨h1, h2, h3⟩ | h1 | ⟨h1, h2⟩
  · obtain ⟨s1, s2⟩ := HSTR.out h3
    clear h3 HSTR
    rw [h1, h2]
    clear h1 h2
    generalize (⟨(encB m).toArray⟩ : ByteArray) = S1 at *
    generalize (⟨(encB n).toArray⟩ : ByteArray) = S2 at *
    generalize (encB m).length = n4 at *
    generalize (encB n).length = n5 at *
    as_aux_lemma =>
    have hF : Kp No w6 w6.drew := (Kp.refl No w6).drew
    go_upto_region 6 with (fail)
    refine rg_begin (fun W2 => Kp No w6 W2) 39 (by kernel_rfl) ?_
    refine rg_take (i := 0) (v := ?vp0) (by simp only [List.getElem?_toArray, List.getElem?_cons_zero]; rfl) (by kernel_rfl) (by exact fun _ _ _ h => h) (by rfl) ?rp0 hF ?sp0
    case rp0 => (intro W hW; clear hW; go_simp; try with_reducible rfl)
    try simp only [Act.put, List.setIfInBounds_toArray, List.set_cons_zero, List.set_cons_succ]
    refine rg_take (i := 1) (v := ?vp1) (by simp only [List.getElem?_toArray, List.getElem?_cons_succ, List.getElem?_cons_zero]; rfl) (by kernel_rfl) (by exact fun _ _ _ h => h) (by rfl) ?rp1 hF ?sp1
    case rp1 => (intro W9 hW; refine exec_load_mid W9 28 (.tmp 2) ?_ W.heap.size 0 ?_ (mcells m (.slice A m.stamp.length c)) _ (range_of (HBA6.out.no hW)) hu.out ?_ hia.out; exact rfl; exact rfl; exact rfl)
    try simp only [Act.put, List.setIfInBounds_toArray, List.set_cons_zero, List.set_cons_succ]
    refine rg_take (i := 2) (v := ?vp2) (by simp only [List.getElem?_toArray, List.getElem?_cons_succ, List.getElem?_cons_zero]; rfl) (by kernel_rfl) (by exact fun _ _ _ h => h) (by rfl) ?rp2 hF ?sp2
    case rp2 => (intro W9 hW; refine exec_load_mid W9 28 (.tmp 3) ?_ (W.heap.size + 1) 0 ?_ (mcells n (.slice B n.stamp.length d)) _ (range_of (HBB6.out.no hW)) hu.out ?_ hib.out; exact rfl; exact rfl; exact rfl)
    try simp only [Act.put, List.setIfInBounds_toArray, List.set_cons_zero, List.set_cons_succ]
    refine rg_one (i := 3) (oi := ?op3) ?ap3 ?bp3 ?cp3 ?dp3
    case ap3 => (simp only [List.getElem?_toArray, List.getElem?_cons_succ, List.getElem?_cons_zero]; rfl)
    case bp3 => kernel_rfl
    case cp3 => rfl
    intro K hK
    (go_simp; refine (qf _ (Kp.refl No w6).drew).mono ?_; rintro e wA ⟨rfl, kA⟩)
    refine rg_use hK (kA) (fun hF => ?_)
    clear hK K
    try simp only [Act.put, List.setIfInBounds_toArray, List.set_cons_zero, List.set_cons_succ]
    refine rg_take (i := 4) (v := ?vp4) (by simp only [List.getElem?_toArray, List.getElem?_cons_succ, List.getElem?_cons_zero]; rfl) (by kernel_rfl) (by exact fun _ _ _ h => h) (by rfl) ?rp4 hF ?sp4
    case rp4 => (intro W hW; clear hW; go_simp; try with_reducible rfl)
    try simp only [Act.put, List.setIfInBounds_toArray, List.set_cons_zero, List.set_cons_succ]
    refine rg_take (i := 5) (v := ?vp5) (by simp only [List.getElem?_toArray, List.getElem?_cons_succ, List.getElem?_cons_zero]; rfl) (by kernel_rfl) (by exact fun _ _ _ h => h) (by rfl) ?rp5 hF ?sp5
    case rp5 => (intro W hW; clear hW; go_simp; try with_reducible rfl)
    try simp only [Act.put, List.setIfInBounds_toArray, List.set_cons_zero, List.set_cons_succ]
    refine rg_take (i := 6) (v := ?vp6) (by simp only [List.getElem?_toArray, List.getElem?_cons_succ, List.getElem?_cons_zero]; rfl) (by kernel_rfl) (by exact fun _ _ _ h => h) (by rfl) ?rp6 hF ?sp6
    case rp6 => (intro W9 hW; refine exec_load_mid W9 28 (.tmp 2) ?_ W.heap.size 0 ?_ (mcells m (.slice A m.stamp.length c)) _ (range_of (HBA6.out.no hW)) hu.out ?_ hia.out; exact rfl; exact rfl; exact rfl)
    try simp only [Act.put, List.setIfInBounds_toArray, List.set_cons_zero, List.set_cons_succ]
    refine rg_take (i := 8) (v := ?vp8) (by simp only [List.getElem?_toArray, List.getElem?_cons_succ, List.getElem?_cons_zero]; rfl) (by kernel_rfl) (by exact fun _ _ _ h => h) (by rfl) ?rp8 hF ?sp8
    case rp8 => (intro W9 hW; refine exec_load_mid W9 28 (.tmp 2) ?_ W.heap.size 0 ?_ (mcells m (.slice A m.stamp.length c)) _ (range_of (HBA6.out.no hW)) hu.out ?_ hia.out; exact rfl; exact rfl; exact rfl)
    try simp only [Act.put, List.setIfInBounds_toArray, List.set_cons_zero, List.set_cons_succ]
    refine rg_one (i := 7) (oi := ?op7) ?ap7 ?bp7 ?cp7 ?dp7
    case ap7 => (simp only [List.getElem?_toArray, List.getElem?_cons_succ, List.getElem?_cons_zero]; rfl)
    case bp7 => kernel_rfl
    case cp7 => rfl
    intro K hK
    (go_simp; refine (qa _ kA).mono ?_; rintro e wB ⟨A7, c7, rfl, h7, kB, rB⟩)
    refine rg_use hK (kB) (fun hF => ?_)
    clear hK K
    try simp only [Act.put, List.setIfInBounds_toArray, List.set_cons_zero, List.set_cons_succ]
    refine rg_one (i := 9) (oi := ?op9) ?ap9 ?bp9 ?cp9 ?dp9
    case ap9 => (simp only [List.getElem?_toArray, List.getElem?_cons_succ, List.getElem?_cons_zero]; rfl)
    case bp9 => kernel_rfl
    case cp9 => rfl
    intro K hK
    (go_simp; refine (qa _ kB).mono ?_; rintro e wC ⟨A8, c8, rfl, h8, kC, rC⟩)
    refine rg_use hK (kC) (fun hF => ?_)
    clear hK K
    try simp only [Act.put, List.setIfInBounds_toArray, List.set_cons_zero, List.set_cons_succ]
    refine rg_one (i := 10) (oi := ?op10) ?ap10 ?bp10 ?cp10 ?dp10
    case ap10 => (simp only [List.getElem?_toArray, List.getElem?_cons_succ, List.getElem?_cons_zero]; rfl)
    case bp10 => kernel_rfl
    case cp10 => rfl
    intro K hK
    (go_simp; refine (qmm _ _ _ _ _ kC (h7.no rC) h8).mono ?_; rintro e wD ⟨rfl, kD⟩)
    refine rg_use hK (kD) (fun hF => ?_)
    clear hK K
    try simp only [Act.put, List.setIfInBounds_toArray, List.set_cons_zero, List.set_cons_succ]
    refine rg_take (i := 11) (v := ?vp11) (by simp only [List.getElem?_toArray, List.getElem?_cons_succ, List.getElem?_cons_zero]; rfl) (by kernel_rfl) (by exact fun _ _ _ h => h) (by rfl) ?rp11 hF ?sp11
    case rp11 => (intro W hW; clear hW; go_simp; try with_reducible rfl)
    try simp only [Act.put, List.setIfInBounds_toArray, List.set_cons_zero, List.set_cons_succ]
    refine rg_take (i := 12) (v := ?vp12) (by simp only [List.getElem?_toArray, List.getElem?_cons_succ, List.getElem?_cons_zero]; rfl) (by kernel_rfl) (by exact fun _ _ _ h => h) (by rfl) ?rp12 hF ?sp12
    case rp12 => (intro W hW; clear hW; go_simp; try with_reducible rfl)
    try simp only [Act.put, List.setIfInBounds_toArray, List.set_cons_zero, List.set_cons_succ]
    refine rg_take (i := 13) (v := ?vp13) (by simp only [List.getElem?_toArray, List.getElem?_cons_succ, List.getElem?_cons_zero]; rfl) (by kernel_rfl) (by exact fun _ _ _ h => h) (by rfl) ?rp13 hF ?sp13
    case rp13 => (intro W hW; clear hW; go_simp; try with_reducible rfl)
    try simp only [Act.put, List.setIfInBounds_toArray, List.set_cons_zero, List.set_cons_succ]
    refine rg_take (i := 14) (v := ?vp14) (by simp only [List.getElem?_toArray, List.getElem?_cons_succ, List.getElem?_cons_zero]; rfl) (by kernel_rfl) (by exact fun _ _ _ h => h) (by rfl) ?rp14 hF ?sp14
    case rp14 => (intro W9 hW; refine exec_load_mid W9 28 (.tmp 3) ?_ (W.heap.size + 1) 0 ?_ (mcells n (.slice B n.stamp.length d)) _ (range_of (HBB6.out.no hW)) hu.out ?_ hib.out; exact rfl; exact rfl; exact rfl)
    try simp only [Act.put, List.setIfInBounds_toArray, List.set_cons_zero, List.set_cons_succ]
    refine rg_take (i := 16) (v := ?vp16) (by simp only [List.getElem?_toArray, List.getElem?_cons_succ, List.getElem?_cons_zero]; rfl) (by kernel_rfl) (by exact fun _ _ _ h => h) (by rfl) ?rp16 hF ?sp16
    case rp16 => (intro W9 hW; refine exec_load_mid W9 28 (.tmp 2) ?_ W.heap.size 0 ?_ (mcells m (.slice A m.stamp.length c)) _ (range_of (HBA6.out.no hW)) hu.out ?_ hia.out; exact rfl; exact rfl; exact rfl)
    try simp only [Act.put, List.setIfInBounds_toArray, List.set_cons_zero, List.set_cons_succ]
    refine rg_one (i := 15) (oi := ?op15) ?ap15 ?bp15 ?cp15 ?dp15
    case ap15 => (simp only [List.getElem?_toArray, List.getElem?_cons_succ, List.getElem?_cons_zero]; rfl)
    case bp15 => kernel_rfl
    case cp15 => rfl
    intro K hK
    (go_simp; refine (qb _ kD).mono ?_; rintro e wE ⟨A9, c9, rfl, h9, kE, rE⟩)
    refine rg_use hK (kE) (fun hF => ?_)
    clear hK K
    try simp only [Act.put, List.setIfInBounds_toArray, List.set_cons_zero, List.set_cons_succ]
    refine rg_one (i := 17) (oi := ?op17) ?ap17 ?bp17 ?cp17 ?dp17
    case ap17 => (simp only [List.getElem?_toArray, List.getElem?_cons_succ, List.getElem?_cons_zero]; rfl)
    case bp17 => kernel_rfl
    case cp17 => rfl
    intro K hK
    (go_simp; refine (qa _ kE).mono ?_; rintro e wF ⟨A0, c0, rfl, h0, kF, rF⟩)
    refine rg_use hK (kF) (fun hF => ?_)
    clear hK K
    try simp only [Act.put, List.setIfInBounds_toArray, List.set_cons_zero, List.set_cons_succ]
    refine rg_one (i := 18) (oi := ?op18) ?ap18 ?bp18 ?cp18 ?dp18
    case ap18 => (simp only [List.getElem?_toArray, List.getElem?_cons_succ, List.getElem?_cons_zero]; rfl)
    case bp18 => kernel_rfl
    case cp18 => rfl
    intro K hK
    (go_simp; refine (qnm _ _ _ _ _ kF (h9.no rF) h0).mono ?_; rintro e wG ⟨rfl, kG⟩)
    refine rg_use hK (kG) (fun hF => ?_)
    clear hK K
    try simp only [Act.put, List.setIfInBounds_toArray, List.set_cons_zero, List.set_cons_succ]
    refine rg_take (i := 19) (v := ?vp19) (by simp only [List.getElem?_toArray, List.getElem?_cons_succ, List.getElem?_cons_zero]; rfl) (by kernel_rfl) (by exact fun _ _ _ h => h) (by rfl) ?rp19 hF ?sp19
    case rp19 => (intro W hW; clear hW; go_simp; try with_reducible rfl)
    try simp only [Act.put, List.setIfInBounds_toArray, List.set_cons_zero, List.set_cons_succ]
    refine rg_take (i := 20) (v := ?vp20) (by simp only [List.getElem?_toArray, List.getElem?_cons_succ, List.getElem?_cons_zero]; rfl) (by kernel_rfl) (by exact fun _ _ _ h => h) (by rfl) ?rp20 hF ?sp20
    case rp20 => (intro W hW; clear hW; go_simp; try with_reducible rfl)
    try simp only [Act.put, List.setIfInBounds_toArray, List.set_cons_zero, List.set_cons_succ]
    refine rg_take (i := 21) (v := ?vp21) (by simp only [List.getElem?_toArray, List.getElem?_cons_succ, List.getElem?_cons_zero]; rfl) (by kernel_rfl) (by exact fun _ _ _ h => h) (by rfl) ?rp21 hF ?sp21
    case rp21 => (intro W hW; clear hW; go_simp; try with_reducible rfl)
    try simp only [Act.put, List.setIfInBounds_toArray, List.set_cons_zero, List.set_cons_succ]
    refine rg_take (i := 22) (v := ?vp22) (by simp only [List.getElem?_toArray, List.getElem?_cons_succ, List.getElem?_cons_zero]; rfl) (by kernel_rfl) (by exact fun _ _ _ h => h) (by rfl) ?rp22 hF ?sp22
    case rp22 => (intro W hW; clear hW; go_simp; try with_reducible rfl)
    try simp only [Act.put, List.setIfInBounds_toArray, List.set_cons_zero, List.set_cons_succ]
    refine rg_take (i := 23) (v := ?vp23) (by simp only [List.getElem?_toArray, List.getElem?_cons_succ, List.getElem?_cons_zero]; rfl) (by kernel_rfl) (by exact fun _ _ _ h => h) (by rfl) ?rp23 hF ?sp23
    case rp23 => (intro W hW; clear hW; go_simp; try with_reducible rfl)
    try simp only [Act.put, List.setIfInBounds_toArray, List.set_cons_zero, List.set_cons_succ]
    refine rg_take (i := 24) (v := ?vp24) (by simp only [List.getElem?_toArray, List.getElem?_cons_succ, List.getElem?_cons_zero]; rfl) (by kernel_rfl) (by exact fun _ _ _ h => h) (by rfl) ?rp24 hF ?sp24
    case rp24 => (intro W hW; clear hW; go_simp; try with_reducible rfl)
    try simp only [Act.put, List.setIfInBounds_toArray, List.set_cons_zero, List.set_cons_succ]
    refine rg_take (i := 25) (v := ?vp25) (by simp only [List.getElem?_toArray, List.getElem?_cons_succ, List.getElem?_cons_zero]; rfl) (by kernel_rfl) (by exact fun _ _ _ h => h) (by rfl) ?rp25 hF ?sp25
    case rp25 => (intro W hW; clear hW; go_simp; try with_reducible rfl)
    try simp only [Act.put, List.setIfInBounds_toArray, List.set_cons_zero, List.set_cons_succ]
    refine rg_take (i := 26) (v := ?vp26) (by simp only [List.getElem?_toArray, List.getElem?_cons_succ, List.getElem?_cons_zero]; rfl) (by kernel_rfl) (by exact fun _ _ _ h => h) (by rfl) ?rp26 hF ?sp26
    case rp26 => (intro W hW; clear hW; go_simp; try with_reducible rfl)
    try simp only [Act.put, List.setIfInBounds_toArray, List.set_cons_zero, List.set_cons_succ]
    refine rg_take (i := 27) (v := ?vp27) (by simp only [List.getElem?_toArray, List.getElem?_cons_succ, List.getElem?_cons_zero]; rfl) (by kernel_rfl) (by exact fun _ _ _ h => h) (by rfl) ?rp27 hF ?sp27
    case rp27 => (intro W hW; clear hW; go_simp; try with_reducible rfl)
    try simp only [Act.put, List.setIfInBounds_toArray, List.set_cons_zero, List.set_cons_succ]
    refine rg_take (i := 28) (v := ?vp28) (by simp only [List.getElem?_toArray, List.getElem?_cons_succ, List.getElem?_cons_zero]; rfl) (by kernel_rfl) (by exact fun _ _ _ h => h) (by rfl) ?rp28 hF ?sp28
    case rp28 => (intro W hW; clear hW; go_simp; try with_reducible rfl)
    try simp only [Act.put, List.setIfInBounds_toArray, List.set_cons_zero, List.set_cons_succ]
    refine rg_take (i := 29) (v := ?vp29) (by simp only [List.getElem?_toArray, List.getElem?_cons_succ, List.getElem?_cons_zero]; rfl) (by kernel_rfl) (by exact fun _ _ _ h => h) (by rfl) ?rp29 hF ?sp29
    case rp29 => (intro W hW; clear hW; go_simp; try with_reducible rfl)
    try simp only [Act.put, List.setIfInBounds_toArray, List.set_cons_zero, List.set_cons_succ]
    refine rg_take (i := 30) (v := ?vp30) (by simp only [List.getElem?_toArray, List.getElem?_cons_succ, List.getElem?_cons_zero]; rfl) (by kernel_rfl) (by exact fun _ _ _ h => h) (by rfl) ?rp30 hF ?sp30
    case rp30 => (intro W9 hW; have h1 := hc1 W9 hW; go_simp; try with_reducible rfl)
    try simp only [Act.put, List.setIfInBounds_toArray, List.set_cons_zero, List.set_cons_succ]
    refine rg_take (i := 31) (v := ?vp31) (by simp only [List.getElem?_toArray, List.getElem?_cons_succ, List.getElem?_cons_zero]; rfl) (by kernel_rfl) (by exact fun _ _ _ h => h) (by rfl) ?rp31 hF ?sp31
    case rp31 => (intro W hW; clear hW; go_simp; try with_reducible rfl)
    try simp only [Act.put, List.setIfInBounds_toArray, List.set_cons_zero, List.set_cons_succ]
    refine rg_take (i := 32) (v := ?vp32) (by simp only [List.getElem?_toArray, List.getElem?_cons_succ, List.getElem?_cons_zero]; rfl) (by kernel_rfl) (by exact fun _ _ _ h => h) (by rfl) ?rp32 hF ?sp32
    case rp32 => (intro W9 hW; have h1 := hc2 W9 hW; go_simp; try with_reducible rfl)
    try simp only [Act.put, List.setIfInBounds_toArray, List.set_cons_zero, List.set_cons_succ]
    refine rg_take (i := 33) (v := ?vp33) (by simp only [List.getElem?_toArray, List.getElem?_cons_succ, List.getElem?_cons_zero]; rfl) (by kernel_rfl) (by exact fun _ _ _ h => h) (by rfl) ?rp33 hF ?sp33
    case rp33 => (intro W hW; clear hW; go_simp; try with_reducible rfl)
    try simp only [Act.put, List.setIfInBounds_toArray, List.set_cons_zero, List.set_cons_succ]
    refine rg_take (i := 34) (v := ?vp34) (by simp only [List.getElem?_toArray, List.getElem?_cons_succ, List.getElem?_cons_zero]; rfl) (by kernel_rfl) (by exact fun _ _ _ h => h) (by rfl) ?rp34 hF ?sp34
    case rp34 => (intro W hW; clear hW; go_simp; try with_reducible rfl)
    try simp only [Act.put, List.setIfInBounds_toArray, List.set_cons_zero, List.set_cons_succ]
    refine rg_take (i := 35) (v := ?vp35) (by simp only [List.getElem?_toArray, List.getElem?_cons_succ, List.getElem?_cons_zero]; rfl) (by kernel_rfl) (by exact fun _ _ _ h => h) (by rfl) ?rp35 hF ?sp35
    case rp35 => (intro W hW; clear hW; go_simp; try with_reducible rfl)
    try simp only [Act.put, List.setIfInBounds_toArray, List.set_cons_zero, List.set_cons_succ]
    refine rg_take (i := 36) (v := ?vp36) (by simp only [List.getElem?_toArray, List.getElem?_cons_succ, List.getElem?_cons_zero]; rfl) (by kernel_rfl) (by exact fun _ _ _ h => h) (by rfl) ?rp36 hF ?sp36
    case rp36 => (intro W hW; clear hW; go_simp; try with_reducible rfl)
    try simp only [Act.put, List.setIfInBounds_toArray, List.set_cons_zero, List.set_cons_succ]
    refine rg_take (i := 37) (v := ?vp37) (by simp only [List.getElem?_toArray, List.getElem?_cons_succ, List.getElem?_cons_zero]; rfl) (by kernel_rfl) (by exact fun _ _ _ h => h) (by rfl) ?rp37 hF ?sp37
    case rp37 => (intro W hW; clear hW; go_simp; try with_reducible rfl)
    try simp only [Act.put, List.setIfInBounds_toArray, List.set_cons_zero, List.set_cons_succ]
    refine rg_take (i := 38) (v := ?vp38) (by simp only [List.getElem?_toArray, List.getElem?_cons_succ, List.getElem?_cons_zero]; rfl) (by kernel_rfl) (by exact fun _ _ _ h => h) (by rfl) ?rp38 hF ?sp38
    case rp38 => (intro W hW; clear hW; go_simp; try with_reducible rfl)
    try simp only [Act.put, List.setIfInBounds_toArray, List.set_cons_zero, List.set_cons_succ]
    refine rg_done (by kernel_rfl) ?_
    have K9 := Lib.hid (K6.out.trans kG)
    clear hF qa qb qmm qf qmn qnm kA kB kC kD kE kF kG rB rC rE rF h7 h8 h9 h0 hc1 hc2
    go_wp2
    go_ret
    exact ⟨rfl, K9.out.below (Nat.le_refl _) fun _ _ m => m⟩
  · have hd1 : (encE m != 0) = true := by rw [bne_iff_ne]; exact h1
    clear HSTR h1
    generalize encE m = er1 at *
    generalize encE n = er2 at *
    generalize (⟨(encB m).toArray⟩ : ByteArray) = S1 at *
    generalize (⟨(encB n).toArray⟩ : ByteArray) = S2 at *
    generalize (encB m).length = n4 at *
    generalize (encB n).length = n5 at *
    as_aux_lemma =>
    have hF : Kp No w6 w6.drew := (Kp.refl No w6).drew
    go_upto_region 6 with (fail)
    refine rg_begin (fun W2 => Kp No w6 W2) 39 (by kernel_rfl) ?_
    refine rg_take (i := 0) (v := ?vq0) (by simp only [List.getElem?_toArray, List.getElem?_cons_zero]; rfl) (by kernel_rfl) (by exact fun _ _ _ h => h) (by rfl) ?rq0 hF ?sq0
    case rq0 => (intro W hW; clear hW; go_simp; try with_reducible rfl)
    try simp only [Act.put, List.setIfInBounds_toArray, List.set_cons_zero, List.set_cons_succ]
    refine rg_take (i := 1) (v := ?vq1) (by simp only [List.getElem?_toArray, List.getElem?_cons_succ, List.getElem?_cons_zero]; rfl) (by kernel_rfl) (by exact fun _ _ _ h => h) (by rfl) ?rq1 hF ?sq1
    case rq1 => (intro W9 hW; refine exec_load_mid W9 28 (.tmp 2) ?_ W.heap.size 0 ?_ (mcells m (.slice A m.stamp.length c)) _ (range_of (HBA6.out.no hW)) hu.out ?_ hia.out; exact rfl; exact rfl; exact rfl)
    try simp only [Act.put, List.setIfInBounds_toArray, List.set_cons_zero, List.set_cons_succ]
    refine rg_take (i := 2) (v := ?vq2) (by simp only [List.getElem?_toArray, List.getElem?_cons_succ, List.getElem?_cons_zero]; rfl) (by kernel_rfl) (by exact fun _ _ _ h => h) (by rfl) ?rq2 hF ?sq2
    case rq2 => (intro W9 hW; refine exec_load_mid W9 28 (.tmp 3) ?_ (W.heap.size + 1) 0 ?_ (mcells n (.slice B n.stamp.length d)) _ (range_of (HBB6.out.no hW)) hu.out ?_ hib.out; exact rfl; exact rfl; exact rfl)
    try simp only [Act.put, List.setIfInBounds_toArray, List.set_cons_zero, List.set_cons_succ]
    refine rg_one (i := 3) (oi := ?oq3) ?aq3 ?bq3 ?cq3 ?dq3
    case aq3 => (simp only [List.getElem?_toArray, List.getElem?_cons_succ, List.getElem?_cons_zero]; rfl)
    case bq3 => kernel_rfl
    case cq3 => rfl
    intro K hK
    (go_simp; refine (qf _ (Kp.refl No w6).drew).mono ?_; rintro e wA ⟨rfl, kA⟩)
    refine rg_use hK (kA) (fun hF => ?_)
    clear hK K
    try simp only [Act.put, List.setIfInBounds_toArray, List.set_cons_zero, List.set_cons_succ]
    refine rg_take (i := 4) (v := ?vq4) (by simp only [List.getElem?_toArray, List.getElem?_cons_succ, List.getElem?_cons_zero]; rfl) (by kernel_rfl) (by exact fun _ _ _ h => h) (by rfl) ?rq4 hF ?sq4
    case rq4 => (intro W hW; clear hW; go_simp; try with_reducible rfl)
    try simp only [Act.put, List.setIfInBounds_toArray, List.set_cons_zero, List.set_cons_succ]
    refine rg_take (i := 5) (v := ?vq5) (by simp only [List.getElem?_toArray, List.getElem?_cons_succ, List.getElem?_cons_zero]; rfl) (by kernel_rfl) (by exact fun _ _ _ h => h) (by rfl) ?rq5 hF ?sq5
    case rq5 => (intro W hW; clear hW; go_simp; try with_reducible rfl)
    try simp only [Act.put, List.setIfInBounds_toArray, List.set_cons_zero, List.set_cons_succ]
    refine rg_take (i := 6) (v := ?vq6) (by simp only [List.getElem?_toArray, List.getElem?_cons_succ, List.getElem?_cons_zero]; rfl) (by kernel_rfl) (by exact fun _ _ _ h => h) (by rfl) ?rq6 hF ?sq6
    case rq6 => (intro W9 hW; refine exec_load_mid W9 28 (.tmp 2) ?_ W.heap.size 0 ?_ (mcells m (.slice A m.stamp.length c)) _ (range_of (HBA6.out.no hW)) hu.out ?_ hia.out; exact rfl; exact rfl; exact rfl)
    try simp only [Act.put, List.setIfInBounds_toArray, List.set_cons_zero, List.set_cons_succ]
    refine rg_take (i := 8) (v := ?vq8) (by simp only [List.getElem?_toArray, List.getElem?_cons_succ, List.getElem?_cons_zero]; rfl) (by kernel_rfl) (by exact fun _ _ _ h => h) (by rfl) ?rq8 hF ?sq8
    case rq8 => (intro W9 hW; refine exec_load_mid W9 28 (.tmp 2) ?_ W.heap.size 0 ?_ (mcells m (.slice A m.stamp.length c)) _ (range_of (HBA6.out.no hW)) hu.out ?_ hia.out; exact rfl; exact rfl; exact rfl)
    try simp only [Act.put, List.setIfInBounds_toArray, List.set_cons_zero, List.set_cons_succ]
    refine rg_one (i := 7) (oi := ?oq7) ?aq7 ?bq7 ?cq7 ?dq7
    case aq7 => (simp only [List.getElem?_toArray, List.getElem?_cons_succ, List.getElem?_cons_zero]; rfl)
    case bq7 => kernel_rfl
    case cq7 => rfl
    intro K hK
    (go_simp; refine (qa _ kA).mono ?_; rintro e wB ⟨A7, c7, rfl, h7, kB, rB⟩)
    refine rg_use hK (kB) (fun hF => ?_)
    clear hK K
    try simp only [Act.put, List.setIfInBounds_toArray, List.set_cons_zero, List.set_cons_succ]
    refine rg_one (i := 9) (oi := ?oq9) ?aq9 ?bq9 ?cq9 ?dq9
    case aq9 => (simp only [List.getElem?_toArray, List.getElem?_cons_succ, List.getElem?_cons_zero]; rfl)
    case bq9 => kernel_rfl
    case cq9 => rfl
    intro K hK
    (go_simp; refine (qa _ kB).mono ?_; rintro e wC ⟨A8, c8, rfl, h8, kC, rC⟩)
    refine rg_use hK (kC) (fun hF => ?_)
    clear hK K
    try simp only [Act.put, List.setIfInBounds_toArray, List.set_cons_zero, List.set_cons_succ]
    refine rg_one (i := 10) (oi := ?oq10) ?aq10 ?bq10 ?cq10 ?dq10
    case aq10 => (simp only [List.getElem?_toArray, List.getElem?_cons_succ, List.getElem?_cons_zero]; rfl)
    case bq10 => kernel_rfl
    case cq10 => rfl
    intro K hK
    (go_simp; refine (qmm _ _ _ _ _ kC (h7.no rC) h8).mono ?_; rintro e wD ⟨rfl, kD⟩)
    refine rg_use hK (kD) (fun hF => ?_)
    clear hK K
    try simp only [Act.put, List.setIfInBounds_toArray, List.set_cons_zero, List.set_cons_succ]
    refine rg_take (i := 11) (v := ?vq11) (by simp only [List.getElem?_toArray, List.getElem?_cons_succ, List.getElem?_cons_zero]; rfl) (by kernel_rfl) (by exact fun _ _ _ h => h) (by rfl) ?rq11 hF ?sq11
    case rq11 => (intro W hW; clear hW; go_simp; try with_reducible rfl)
    try simp only [Act.put, List.setIfInBounds_toArray, List.set_cons_zero, List.set_cons_succ]
    refine rg_take (i := 12) (v := ?vq12) (by simp only [List.getElem?_toArray, List.getElem?_cons_succ, List.getElem?_cons_zero]; rfl) (by kernel_rfl) (by exact fun _ _ _ h => h) (by rfl) ?rq12 hF ?sq12
    case rq12 => (intro W hW; clear hW; go_simp; try with_reducible rfl)
    try simp only [Act.put, List.setIfInBounds_toArray, List.set_cons_zero, List.set_cons_succ]
    refine rg_take (i := 13) (v := ?vq13) (by simp only [List.getElem?_toArray, List.getElem?_cons_succ, List.getElem?_cons_zero]; rfl) (by kernel_rfl) (by exact fun _ _ _ h => h) (by rfl) ?rq13 hF ?sq13
    case rq13 => (intro W hW; clear hW; go_simp; try with_reducible rfl)
    try simp only [Act.put, List.setIfInBounds_toArray, List.set_cons_zero, List.set_cons_succ]
    refine rg_take (i := 14) (v := ?vq14) (by simp only [List.getElem?_toArray, List.getElem?_cons_succ, List.getElem?_cons_zero]; rfl) (by kernel_rfl) (by exact fun _ _ _ h => h) (by rfl) ?rq14 hF ?sq14
    case rq14 => (intro W9 hW; refine exec_load_mid W9 28 (.tmp 3) ?_ (W.heap.size + 1) 0 ?_ (mcells n (.slice B n.stamp.length d)) _ (range_of (HBB6.out.no hW)) hu.out ?_ hib.out; exact rfl; exact rfl; exact rfl)
    try simp only [Act.put, List.setIfInBounds_toArray, List.set_cons_zero, List.set_cons_succ]
    refine rg_take (i := 16) (v := ?vq16) (by simp only [List.getElem?_toArray, List.getElem?_cons_succ, List.getElem?_cons_zero]; rfl) (by kernel_rfl) (by exact fun _ _ _ h => h) (by rfl) ?rq16 hF ?sq16
    case rq16 => (intro W9 hW; refine exec_load_mid W9 28 (.tmp 2) ?_ W.heap.size 0 ?_ (mcells m (.slice A m.stamp.length c)) _ (range_of (HBA6.out.no hW)) hu.out ?_ hia.out; exact rfl; exact rfl; exact rfl)
    try simp only [Act.put, List.setIfInBounds_toArray, List.set_cons_zero, List.set_cons_succ]
    refine rg_one (i := 15) (oi := ?oq15) ?aq15 ?bq15 ?cq15 ?dq15
    case aq15 => (simp only [List.getElem?_toArray, List.getElem?_cons_succ, List.getElem?_cons_zero]; rfl)
    case bq15 => kernel_rfl
    case cq15 => rfl
    intro K hK
    (go_simp; refine (qb _ kD).mono ?_; rintro e wE ⟨A9, c9, rfl, h9, kE, rE⟩)
    refine rg_use hK (kE) (fun hF => ?_)
    clear hK K
    try simp only [Act.put, List.setIfInBounds_toArray, List.set_cons_zero, List.set_cons_succ]
    refine rg_one (i := 17) (oi := ?oq17) ?aq17 ?bq17 ?cq17 ?dq17
    case aq17 => (simp only [List.getElem?_toArray, List.getElem?_cons_succ, List.getElem?_cons_zero]; rfl)
    case bq17 => kernel_rfl
    case cq17 => rfl
    intro K hK
    (go_simp; refine (qa _ kE).mono ?_; rintro e wF ⟨A0, c0, rfl, h0, kF, rF⟩)
    refine rg_use hK (kF) (fun hF => ?_)
    clear hK K
    try simp only [Act.put, List.setIfInBounds_toArray, List.set_cons_zero, List.set_cons_succ]
    refine rg_one (i := 18) (oi := ?oq18) ?aq18 ?bq18 ?cq18 ?dq18
    case aq18 => (simp only [List.getElem?_toArray, List.getElem?_cons_succ, List.getElem?_cons_zero]; rfl)
    case bq18 => kernel_rfl
    case cq18 => rfl
    intro K hK
    (go_simp; refine (qnm _ _ _ _ _ kF (h9.no rF) h0).mono ?_; rintro e wG ⟨rfl, kG⟩)
    refine rg_use hK (kG) (fun hF => ?_)
    clear hK K
    try simp only [Act.put, List.setIfInBounds_toArray, List.set_cons_zero, List.set_cons_succ]
    refine rg_take (i := 19) (v := ?vq19) (by simp only [List.getElem?_toArray, List.getElem?_cons_succ, List.getElem?_cons_zero]; rfl) (by kernel_rfl) (by exact fun _ _ _ h => h) (by rfl) ?rq19 hF ?sq19
    case rq19 => (intro W hW; clear hW; go_simp; try with_reducible rfl)
    try simp only [Act.put, List.setIfInBounds_toArray, List.set_cons_zero, List.set_cons_succ]
    refine rg_take (i := 20) (v := ?vq20) (by simp only [List.getElem?_toArray, List.getElem?_cons_succ, List.getElem?_cons_zero]; rfl) (by kernel_rfl) (by exact fun _ _ _ h => h) (by rfl) ?rq20 hF ?sq20
    case rq20 => (intro W hW; clear hW; go_simp; try with_reducible rfl)
    try simp only [Act.put, List.setIfInBounds_toArray, List.set_cons_zero, List.set_cons_succ]
    refine rg_take (i := 21) (v := ?vq21) (by simp only [List.getElem?_toArray, List.getElem?_cons_succ, List.getElem?_cons_zero]; rfl) (by kernel_rfl) (by exact fun _ _ _ h => h) (by rfl) ?rq21 hF ?sq21
    case rq21 => (intro W hW; clear hW; go_simp; try with_reducible rfl)
    try simp only [Act.put, List.setIfInBounds_toArray, List.set_cons_zero, List.set_cons_succ]
    refine rg_take (i := 22) (v := ?vq22) (by simp only [List.getElem?_toArray, List.getElem?_cons_succ, List.getElem?_cons_zero]; rfl) (by kernel_rfl) (by exact fun _ _ _ h => h) (by rfl) ?rq22 hF ?sq22
    case rq22 => (intro W hW; clear hW; go_simp; try with_reducible rfl)
    try simp only [Act.put, List.setIfInBounds_toArray, List.set_cons_zero, List.set_cons_succ]
    refine rg_take (i := 23) (v := ?vq23) (by simp only [List.getElem?_toArray, List.getElem?_cons_succ, List.getElem?_cons_zero]; rfl) (by kernel_rfl) (by exact fun _ _ _ h => h) (by rfl) ?rq23 hF ?sq23
    case rq23 => (intro W hW; clear hW; go_simp; try with_reducible rfl)
    try simp only [Act.put, List.setIfInBounds_toArray, List.set_cons_zero, List.set_cons_succ]
    refine rg_take (i := 24) (v := ?vq24) (by simp only [List.getElem?_toArray, List.getElem?_cons_succ, List.getElem?_cons_zero]; rfl) (by kernel_rfl) (by exact fun _ _ _ h => h) (by rfl) ?rq24 hF ?sq24
    case rq24 => (intro W hW; clear hW; go_simp; try with_reducible rfl)
    try simp only [Act.put, List.setIfInBounds_toArray, List.set_cons_zero, List.set_cons_succ]
    refine rg_pass (i := 25) (by simp only [List.getElem?_toArray, List.getElem?_cons_succ, List.getElem?_cons_zero]; rfl) (by kernel_rfl) (by exact fun _ _ _ h => h) (by rfl) hF ?_
    try simp only [Act.put, List.setIfInBounds_toArray, List.set_cons_zero, List.set_cons_succ]
    refine rg_pass (i := 26) (by simp only [List.getElem?_toArray, List.getElem?_cons_succ, List.getElem?_cons_zero]; rfl) (by kernel_rfl) (by exact fun _ _ _ h => h) (by rfl) hF ?_
    try simp only [Act.put, List.setIfInBounds_toArray, List.set_cons_zero, List.set_cons_succ]
    refine rg_take (i := 27) (v := ?vq27) (by simp only [List.getElem?_toArray, List.getElem?_cons_succ, List.getElem?_cons_zero]; rfl) (by kernel_rfl) (by exact fun _ _ _ h => h) (by rfl) ?rq27 hF ?sq27
    case rq27 => (intro W hW; clear hW; go_simp; try with_reducible rfl)
    try simp only [Act.put, List.setIfInBounds_toArray, List.set_cons_zero, List.set_cons_succ]
    refine rg_take (i := 28) (v := ?vq28) (by simp only [List.getElem?_toArray, List.getElem?_cons_succ, List.getElem?_cons_zero]; rfl) (by kernel_rfl) (by exact fun _ _ _ h => h) (by rfl) ?rq28 hF ?sq28
    case rq28 => (intro W hW; clear hW; go_simp; try with_reducible rfl)
    try simp only [Act.put, List.setIfInBounds_toArray, List.set_cons_zero, List.set_cons_succ]
    refine rg_pass (i := 29) (by simp only [List.getElem?_toArray, List.getElem?_cons_succ, List.getElem?_cons_zero]; rfl) (by kernel_rfl) (by exact fun _ _ _ h => h) (by rfl) hF ?_
    try simp only [Act.put, List.setIfInBounds_toArray, List.set_cons_zero, List.set_cons_succ]
    refine rg_pass (i := 30) (by simp only [List.getElem?_toArray, List.getElem?_cons_succ, List.getElem?_cons_zero]; rfl) (by kernel_rfl) (by exact fun _ _ _ h => h) (by rfl) hF ?_
    try simp only [Act.put, List.setIfInBounds_toArray, List.set_cons_zero, List.set_cons_succ]
    refine rg_pass (i := 31) (by simp only [List.getElem?_toArray, List.getElem?_cons_succ, List.getElem?_cons_zero]; rfl) (by kernel_rfl) (by exact fun _ _ _ h => h) (by rfl) hF ?_
    try simp only [Act.put, List.setIfInBounds_toArray, List.set_cons_zero, List.set_cons_succ]
    refine rg_pass (i := 32) (by simp only [List.getElem?_toArray, List.getElem?_cons_succ, List.getElem?_cons_zero]; rfl) (by kernel_rfl) (by exact fun _ _ _ h => h) (by rfl) hF ?_
    try simp only [Act.put, List.setIfInBounds_toArray, List.set_cons_zero, List.set_cons_succ]
    refine rg_pass (i := 33) (by simp only [List.getElem?_toArray, List.getElem?_cons_succ, List.getElem?_cons_zero]; rfl) (by kernel_rfl) (by exact fun _ _ _ h => h) (by rfl) hF ?_
    try simp only [Act.put, List.setIfInBounds_toArray, List.set_cons_zero, List.set_cons_succ]
    refine rg_pass (i := 34) (by simp only [List.getElem?_toArray, List.getElem?_cons_succ, List.getElem?_cons_zero]; rfl) (by kernel_rfl) (by exact fun _ _ _ h => h) (by rfl) hF ?_
    try simp only [Act.put, List.setIfInBounds_toArray, List.set_cons_zero, List.set_cons_succ]
    refine rg_pass (i := 35) (by simp only [List.getElem?_toArray, List.getElem?_cons_succ, List.getElem?_cons_zero]; rfl) (by kernel_rfl) (by exact fun _ _ _ h => h) (by rfl) hF ?_
    try simp only [Act.put, List.setIfInBounds_toArray, List.set_cons_zero, List.set_cons_succ]
    refine rg_take (i := 36) (v := ?vq36) (by simp only [List.getElem?_toArray, List.getElem?_cons_succ, List.getElem?_cons_zero]; rfl) (by kernel_rfl) (by exact fun _ _ _ h => h) (by rfl) ?rq36 hF ?sq36
    case rq36 => (intro W hW; clear hW; go_simp; try with_reducible rfl)
    try simp only [Act.put, List.setIfInBounds_toArray, List.set_cons_zero, List.set_cons_succ]
    refine rg_take (i := 37) (v := ?vq37) (by simp only [List.getElem?_toArray, List.getElem?_cons_succ, List.getElem?_cons_zero]; rfl) (by kernel_rfl) (by exact fun _ _ _ h => h) (by rfl) ?rq37 hF ?sq37
    case rq37 => (intro W hW; clear hW; go_simp; try with_reducible rfl)
    try simp only [Act.put, List.setIfInBounds_toArray, List.set_cons_zero, List.set_cons_succ]
    refine rg_take (i := 38) (v := ?vq38) (by simp only [List.getElem?_toArray, List.getElem?_cons_succ, List.getElem?_cons_zero]; rfl) (by kernel_rfl) (by exact fun _ _ _ h => h) (by rfl) ?rq38 hF ?sq38
    case rq38 => (intro W hW; clear hW; go_simp; try with_reducible rfl)
    try simp only [Act.put, List.setIfInBounds_toArray, List.set_cons_zero, List.set_cons_succ]
    refine rg_done (by kernel_rfl) ?_
    have K9 := Lib.hid (K6.out.trans kG)
    clear hF qa qb qmm qf qmn qnm kA kB kC kD kE kF kG rB rC rE rF h7 h8 h9 h0 hc1 hc2
    go_wp2
    go_ret
    exact ⟨rfl, K9.out.below (Nat.le_refl _) fun _ _ m => m⟩
  · have hd1 : (encE n != 0) = true := by rw [bne_iff_ne]; exact h2
    rw [h1]
    clear HSTR h1 h2
    generalize encE n = er2 at *
    generalize (⟨(encB m).toArray⟩ : ByteArray) = S1 at *
    generalize (⟨(encB n).toArray⟩ : ByteArray) = S2 at *
    generalize (encB m).length = n4 at *
    generalize (encB n).length = n5 at *
    as_aux_lemma =>
    have hF : Kp No w6 w6.drew := (Kp.refl No w6).drew
    go_upto_region 6 with (fail)
    refine rg_begin (fun W2 => Kp No w6 W2) 39 (by kernel_rfl) ?_
    refine rg_take (i := 0) (v := ?vr0) (by simp only [List.getElem?_toArray, List.getElem?_cons_zero]; rfl) (by kernel_rfl) (by exact fun _ _ _ h => h) (by rfl) ?rr0 hF ?sr0
    case rr0 => (intro W hW; clear hW; go_simp; try with_reducible rfl)
    try simp only [Act.put, List.setIfInBounds_toArray, List.set_cons_zero, List.set_cons_succ]
    refine rg_take (i := 1) (v := ?vr1) (by simp only [List.getElem?_toArray, List.getElem?_cons_succ, List.getElem?_cons_zero]; rfl) (by kernel_rfl) (by exact fun _ _ _ h => h) (by rfl) ?rr1 hF ?sr1
    case rr1 => (intro W9 hW; refine exec_load_mid W9 28 (.tmp 2) ?_ W.heap.size 0 ?_ (mcells m (.slice A m.stamp.length c)) _ (range_of (HBA6.out.no hW)) hu.out ?_ hia.out; exact rfl; exact rfl; exact rfl)
    try simp only [Act.put, List.setIfInBounds_toArray, List.set_cons_zero, List.set_cons_succ]
    refine rg_take (i := 2) (v := ?vr2) (by simp only [List.getElem?_toArray, List.getElem?_cons_succ, List.getElem?_cons_zero]; rfl) (by kernel_rfl) (by exact fun _ _ _ h => h) (by rfl) ?rr2 hF ?sr2
    case rr2 => (intro W9 hW; refine exec_load_mid W9 28 (.tmp 3) ?_ (W.heap.size + 1) 0 ?_ (mcells n (.slice B n.stamp.length d)) _ (range_of (HBB6.out.no hW)) hu.out ?_ hib.out; exact rfl; exact rfl; exact rfl)
    try simp only [Act.put, List.setIfInBounds_toArray, List.set_cons_zero, List.set_cons_succ]
    refine rg_one (i := 3) (oi := ?or3) ?ar3 ?br3 ?cr3 ?dr3
    case ar3 => (simp only [List.getElem?_toArray, List.getElem?_cons_succ, List.getElem?_cons_zero]; rfl)
    case br3 => kernel_rfl
    case cr3 => rfl
    intro K hK
    (go_simp; refine (qf _ (Kp.refl No w6).drew).mono ?_; rintro e wA ⟨rfl, kA⟩)
    refine rg_use hK (kA) (fun hF => ?_)
    clear hK K
    try simp only [Act.put, List.setIfInBounds_toArray, List.set_cons_zero, List.set_cons_succ]
    refine rg_take (i := 4) (v := ?vr4) (by simp only [List.getElem?_toArray, List.getElem?_cons_succ, List.getElem?_cons_zero]; rfl) (by kernel_rfl) (by exact fun _ _ _ h => h) (by rfl) ?rr4 hF ?sr4
    case rr4 => (intro W hW; clear hW; go_simp; try with_reducible rfl)
    try simp only [Act.put, List.setIfInBounds_toArray, List.set_cons_zero, List.set_cons_succ]
    refine rg_take (i := 5) (v := ?vr5) (by simp only [List.getElem?_toArray, List.getElem?_cons_succ, List.getElem?_cons_zero]; rfl) (by kernel_rfl) (by exact fun _ _ _ h => h) (by rfl) ?rr5 hF ?sr5
    case rr5 => (intro W hW; clear hW; go_simp; try with_reducible rfl)
    try simp only [Act.put, List.setIfInBounds_toArray, List.set_cons_zero, List.set_cons_succ]
    refine rg_take (i := 6) (v := ?vr6) (by simp only [List.getElem?_toArray, List.getElem?_cons_succ, List.getElem?_cons_zero]; rfl) (by kernel_rfl) (by exact fun _ _ _ h => h) (by rfl) ?rr6 hF ?sr6
    case rr6 => (intro W9 hW; refine exec_load_mid W9 28 (.tmp 2) ?_ W.heap.size 0 ?_ (mcells m (.slice A m.stamp.length c)) _ (range_of (HBA6.out.no hW)) hu.out ?_ hia.out; exact rfl; exact rfl; exact rfl)
    try simp only [Act.put, List.setIfInBounds_toArray, List.set_cons_zero, List.set_cons_succ]
    refine rg_take (i := 8) (v := ?vr8) (by simp only [List.getElem?_toArray, List.getElem?_cons_succ, List.getElem?_cons_zero]; rfl) (by kernel_rfl) (by exact fun _ _ _ h => h) (by rfl) ?rr8 hF ?sr8
    case rr8 => (intro W9 hW; refine exec_load_mid W9 28 (.tmp 2) ?_ W.heap.size 0 ?_ (mcells m (.slice A m.stamp.length c)) _ (range_of (HBA6.out.no hW)) hu.out ?_ hia.out; exact rfl; exact rfl; exact rfl)
    try simp only [Act.put, List.setIfInBounds_toArray, List.set_cons_zero, List.set_cons_succ]
    refine rg_one (i := 7) (oi := ?or7) ?ar7 ?br7 ?cr7 ?dr7
    case ar7 => (simp only [List.getElem?_toArray, List.getElem?_cons_succ, List.getElem?_cons_zero]; rfl)
    case br7 => kernel_rfl
    case cr7 => rfl
    intro K hK
    (go_simp; refine (qa _ kA).mono ?_; rintro e wB ⟨A7, c7, rfl, h7, kB, rB⟩)
    refine rg_use hK (kB) (fun hF => ?_)
    clear hK K
    try simp only [Act.put, List.setIfInBounds_toArray, List.set_cons_zero, List.set_cons_succ]
    refine rg_one (i := 9) (oi := ?or9) ?ar9 ?br9 ?cr9 ?dr9
    case ar9 => (simp only [List.getElem?_toArray, List.getElem?_cons_succ, List.getElem?_cons_zero]; rfl)
    case br9 => kernel_rfl
    case cr9 => rfl
    intro K hK
    (go_simp; refine (qa _ kB).mono ?_; rintro e wC ⟨A8, c8, rfl, h8, kC, rC⟩)
    refine rg_use hK (kC) (fun hF => ?_)
    clear hK K
    try simp only [Act.put, List.setIfInBounds_toArray, List.set_cons_zero, List.set_cons_succ]
    refine rg_one (i := 10) (oi := ?or10) ?ar10 ?br10 ?cr10 ?dr10
    case ar10 => (simp only [List.getElem?_toArray, List.getElem?_cons_succ, List.getElem?_cons_zero]; rfl)
    case br10 => kernel_rfl
    case cr10 => rfl
    intro K hK
    (go_simp; refine (qmm _ _ _ _ _ kC (h7.no rC) h8).mono ?_; rintro e wD ⟨rfl, kD⟩)
    refine rg_use hK (kD) (fun hF => ?_)
    clear hK K
    try simp only [Act.put, List.setIfInBounds_toArray, List.set_cons_zero, List.set_cons_succ]
    refine rg_take (i := 11) (v := ?vr11) (by simp only [List.getElem?_toArray, List.getElem?_cons_succ, List.getElem?_cons_zero]; rfl) (by kernel_rfl) (by exact fun _ _ _ h => h) (by rfl) ?rr11 hF ?sr11
    case rr11 => (intro W hW; clear hW; go_simp; try with_reducible rfl)
    try simp only [Act.put, List.setIfInBounds_toArray, List.set_cons_zero, List.set_cons_succ]
    refine rg_take (i := 12) (v := ?vr12) (by simp only [List.getElem?_toArray, List.getElem?_cons_succ, List.getElem?_cons_zero]; rfl) (by kernel_rfl) (by exact fun _ _ _ h => h) (by rfl) ?rr12 hF ?sr12
    case rr12 => (intro W hW; clear hW; go_simp; try with_reducible rfl)
    try simp only [Act.put, List.setIfInBounds_toArray, List.set_cons_zero, List.set_cons_succ]
    refine rg_take (i := 13) (v := ?vr13) (by simp only [List.getElem?_toArray, List.getElem?_cons_succ, List.getElem?_cons_zero]; rfl) (by kernel_rfl) (by exact fun _ _ _ h => h) (by rfl) ?rr13 hF ?sr13
    case rr13 => (intro W hW; clear hW; go_simp; try with_reducible rfl)
    try simp only [Act.put, List.setIfInBounds_toArray, List.set_cons_zero, List.set_cons_succ]
    refine rg_take (i := 14) (v := ?vr14) (by simp only [List.getElem?_toArray, List.getElem?_cons_succ, List.getElem?_cons_zero]; rfl) (by kernel_rfl) (by exact fun _ _ _ h => h) (by rfl) ?rr14 hF ?sr14
    case rr14 => (intro W9 hW; refine exec_load_mid W9 28 (.tmp 3) ?_ (W.heap.size + 1) 0 ?_ (mcells n (.slice B n.stamp.length d)) _ (range_of (HBB6.out.no hW)) hu.out ?_ hib.out; exact rfl; exact rfl; exact rfl)
    try simp only [Act.put, List.setIfInBounds_toArray, List.set_cons_zero, List.set_cons_succ]
    refine rg_take (i := 16) (v := ?vr16) (by simp only [List.getElem?_toArray, List.getElem?_cons_succ, List.getElem?_cons_zero]; rfl) (by kernel_rfl) (by exact fun _ _ _ h => h) (by rfl) ?rr16 hF ?sr16
    case rr16 => (intro W9 hW; refine exec_load_mid W9 28 (.tmp 2) ?_ W.heap.size 0 ?_ (mcells m (.slice A m.stamp.length c)) _ (range_of (HBA6.out.no hW)) hu.out ?_ hia.out; exact rfl; exact rfl; exact rfl)
    try simp only [Act.put, List.setIfInBounds_toArray, List.set_cons_zero, List.set_cons_succ]
    refine rg_one (i := 15) (oi := ?or15) ?ar15 ?br15 ?cr15 ?dr15
    case ar15 => (simp only [List.getElem?_toArray, List.getElem?_cons_succ, List.getElem?_cons_zero]; rfl)
    case br15 => kernel_rfl
    case cr15 => rfl
    intro K hK
    (go_simp; refine (qb _ kD).mono ?_; rintro e wE ⟨A9, c9, rfl, h9, kE, rE⟩)
    refine rg_use hK (kE) (fun hF => ?_)
    clear hK K
    try simp only [Act.put, List.setIfInBounds_toArray, List.set_cons_zero, List.set_cons_succ]
    refine rg_one (i := 17) (oi := ?or17) ?ar17 ?br17 ?cr17 ?dr17
    case ar17 => (simp only [List.getElem?_toArray, List.getElem?_cons_succ, List.getElem?_cons_zero]; rfl)
    case br17 => kernel_rfl
    case cr17 => rfl
    intro K hK
    (go_simp; refine (qa _ kE).mono ?_; rintro e wF ⟨A0, c0, rfl, h0, kF, rF⟩)
    refine rg_use hK (kF) (fun hF => ?_)
    clear hK K
    try simp only [Act.put, List.setIfInBounds_toArray, List.set_cons_zero, List.set_cons_succ]
    refine rg_one (i := 18) (oi := ?or18) ?ar18 ?br18 ?cr18 ?dr18
    case ar18 => (simp only [List.getElem?_toArray, List.getElem?_cons_succ, List.getElem?_cons_zero]; rfl)
    case br18 => kernel_rfl
    case cr18 => rfl
    intro K hK
    (go_simp; refine (qnm _ _ _ _ _ kF (h9.no rF) h0).mono ?_; rintro e wG ⟨rfl, kG⟩)
    refine rg_use hK (kG) (fun hF => ?_)
    clear hK K
    try simp only [Act.put, List.setIfInBounds_toArray, List.set_cons_zero, List.set_cons_succ]
    refine rg_take (i := 19) (v := ?vr19) (by simp only [List.getElem?_toArray, List.getElem?_cons_succ, List.getElem?_cons_zero]; rfl) (by kernel_rfl) (by exact fun _ _ _ h => h) (by rfl) ?rr19 hF ?sr19
    case rr19 => (intro W hW; clear hW; go_simp; try with_reducible rfl)
    try simp only [Act.put, List.setIfInBounds_toArray, List.set_cons_zero, List.set_cons_succ]
    refine rg_take (i := 20) (v := ?vr20) (by simp only [List.getElem?_toArray, List.getElem?_cons_succ, List.getElem?_cons_zero]; rfl) (by kernel_rfl) (by exact fun _ _ _ h => h) (by rfl) ?rr20 hF ?sr20
    case rr20 => (intro W hW; clear hW; go_simp; try with_reducible rfl)
    try simp only [Act.put, List.setIfInBounds_toArray, List.set_cons_zero, List.set_cons_succ]
    refine rg_take (i := 21) (v := ?vr21) (by simp only [List.getElem?_toArray, List.getElem?_cons_succ, List.getElem?_cons_zero]; rfl) (by kernel_rfl) (by exact fun _ _ _ h => h) (by rfl) ?rr21 hF ?sr21
    case rr21 => (intro W hW; clear hW; go_simp; try with_reducible rfl)
    try simp only [Act.put, List.setIfInBounds_toArray, List.set_cons_zero, List.set_cons_succ]
    refine rg_take (i := 22) (v := ?vr22) (by simp only [List.getElem?_toArray, List.getElem?_cons_succ, List.getElem?_cons_zero]; rfl) (by kernel_rfl) (by exact fun _ _ _ h => h) (by rfl) ?rr22 hF ?sr22
    case rr22 => (intro W hW; clear hW; go_simp; try with_reducible rfl)
    try simp only [Act.put, List.setIfInBounds_toArray, List.set_cons_zero, List.set_cons_succ]
    refine rg_take (i := 23) (v := ?vr23) (by simp only [List.getElem?_toArray, List.getElem?_cons_succ, List.getElem?_cons_zero]; rfl) (by kernel_rfl) (by exact fun _ _ _ h => h) (by rfl) ?rr23 hF ?sr23
    case rr23 => (intro W hW; clear hW; go_simp; try with_reducible rfl)
    try simp only [Act.put, List.setIfInBounds_toArray, List.set_cons_zero, List.set_cons_succ]
    refine rg_take (i := 24) (v := ?vr24) (by simp only [List.getElem?_toArray, List.getElem?_cons_succ, List.getElem?_cons_zero]; rfl) (by kernel_rfl) (by exact fun _ _ _ h => h) (by rfl) ?rr24 hF ?sr24
    case rr24 => (intro W hW; clear hW; go_simp; try with_reducible rfl)
    try simp only [Act.put, List.setIfInBounds_toArray, List.set_cons_zero, List.set_cons_succ]
    refine rg_take (i := 25) (v := ?vr25) (by simp only [List.getElem?_toArray, List.getElem?_cons_succ, List.getElem?_cons_zero]; rfl) (by kernel_rfl) (by exact fun _ _ _ h => h) (by rfl) ?rr25 hF ?sr25
    case rr25 => (intro W hW; clear hW; go_simp; try with_reducible rfl)
    try simp only [Act.put, List.setIfInBounds_toArray, List.set_cons_zero, List.set_cons_succ]
    refine rg_take (i := 26) (v := ?vr26) (by simp only [List.getElem?_toArray, List.getElem?_cons_succ, List.getElem?_cons_zero]; rfl) (by kernel_rfl) (by exact fun _ _ _ h => h) (by rfl) ?rr26 hF ?sr26
    case rr26 => (intro W hW; clear hW; go_simp; try with_reducible rfl)
    try simp only [Act.put, List.setIfInBounds_toArray, List.set_cons_zero, List.set_cons_succ]
    refine rg_take (i := 27) (v := ?vr27) (by simp only [List.getElem?_toArray, List.getElem?_cons_succ, List.getElem?_cons_zero]; rfl) (by kernel_rfl) (by exact fun _ _ _ h => h) (by rfl) ?rr27 hF ?sr27
    case rr27 => (intro W hW; clear hW; go_simp; try with_reducible rfl)
    try simp only [Act.put, List.setIfInBounds_toArray, List.set_cons_zero, List.set_cons_succ]
    refine rg_take (i := 28) (v := ?vr28) (by simp only [List.getElem?_toArray, List.getElem?_cons_succ, List.getElem?_cons_zero]; rfl) (by kernel_rfl) (by exact fun _ _ _ h => h) (by rfl) ?rr28 hF ?sr28
    case rr28 => (intro W hW; clear hW; go_simp; try with_reducible rfl)
    try simp only [Act.put, List.setIfInBounds_toArray, List.set_cons_zero, List.set_cons_succ]
    refine rg_pass (i := 29) (by simp only [List.getElem?_toArray, List.getElem?_cons_succ, List.getElem?_cons_zero]; rfl) (by kernel_rfl) (by exact fun _ _ _ h => h) (by rfl) hF ?_
    try simp only [Act.put, List.setIfInBounds_toArray, List.set_cons_zero, List.set_cons_succ]
    refine rg_pass (i := 30) (by simp only [List.getElem?_toArray, List.getElem?_cons_succ, List.getElem?_cons_zero]; rfl) (by kernel_rfl) (by exact fun _ _ _ h => h) (by rfl) hF ?_
    try simp only [Act.put, List.setIfInBounds_toArray, List.set_cons_zero, List.set_cons_succ]
    refine rg_pass (i := 31) (by simp only [List.getElem?_toArray, List.getElem?_cons_succ, List.getElem?_cons_zero]; rfl) (by kernel_rfl) (by exact fun _ _ _ h => h) (by rfl) hF ?_
    try simp only [Act.put, List.setIfInBounds_toArray, List.set_cons_zero, List.set_cons_succ]
    refine rg_pass (i := 32) (by simp only [List.getElem?_toArray, List.getElem?_cons_succ, List.getElem?_cons_zero]; rfl) (by kernel_rfl) (by exact fun _ _ _ h => h) (by rfl) hF ?_
    try simp only [Act.put, List.setIfInBounds_toArray, List.set_cons_zero, List.set_cons_succ]
    refine rg_pass (i := 33) (by simp only [List.getElem?_toArray, List.getElem?_cons_succ, List.getElem?_cons_zero]; rfl) (by kernel_rfl) (by exact fun _ _ _ h => h) (by rfl) hF ?_
    try simp only [Act.put, List.setIfInBounds_toArray, List.set_cons_zero, List.set_cons_succ]
    refine rg_pass (i := 34) (by simp only [List.getElem?_toArray, List.getElem?_cons_succ, List.getElem?_cons_zero]; rfl) (by kernel_rfl) (by exact fun _ _ _ h => h) (by rfl) hF ?_
    try simp only [Act.put, List.setIfInBounds_toArray, List.set_cons_zero, List.set_cons_succ]
    refine rg_pass (i := 35) (by simp only [List.getElem?_toArray, List.getElem?_cons_succ, List.getElem?_cons_zero]; rfl) (by kernel_rfl) (by exact fun _ _ _ h => h) (by rfl) hF ?_
    try simp only [Act.put, List.setIfInBounds_toArray, List.set_cons_zero, List.set_cons_succ]
    refine rg_take (i := 36) (v := ?vr36) (by simp only [List.getElem?_toArray, List.getElem?_cons_succ, List.getElem?_cons_zero]; rfl) (by kernel_rfl) (by exact fun _ _ _ h => h) (by rfl) ?rr36 hF ?sr36
    case rr36 => (intro W hW; clear hW; go_simp; try with_reducible rfl)
    try simp only [Act.put, List.setIfInBounds_toArray, List.set_cons_zero, List.set_cons_succ]
    refine rg_take (i := 37) (v := ?vr37) (by simp only [List.getElem?_toArray, List.getElem?_cons_succ, List.getElem?_cons_zero]; rfl) (by kernel_rfl) (by exact fun _ _ _ h => h) (by rfl) ?rr37 hF ?sr37
    case rr37 => (intro W hW; clear hW; go_simp; try with_reducible rfl)
    try simp only [Act.put, List.setIfInBounds_toArray, List.set_cons_zero, List.set_cons_succ]
    refine rg_take (i := 38) (v := ?vr38) (by simp only [List.getElem?_toArray, List.getElem?_cons_succ, List.getElem?_cons_zero]; rfl) (by kernel_rfl) (by exact fun _ _ _ h => h) (by rfl) ?rr38 hF ?sr38
    case rr38 => (intro W hW; clear hW; go_simp; try with_reducible rfl)
    try simp only [Act.put, List.setIfInBounds_toArray, List.set_cons_zero, List.set_cons_succ]
    refine rg_done (by kernel_rfl) ?_
    have K9 := Lib.hid (K6.out.trans kG)
    clear hF qa qb qmm qf qmn qnm kA kB kC kD kE kF kG rB rC rE rF h7 h8 h9 h0 hc1 hc2
    go_wp2
    go_ret
    exact ⟨rfl, K9.out.below (Nat.le_refl _) fun _ _ m => m⟩
end Go.Proofs.YtbnpdghfbiacaaaGreat.wireSame
