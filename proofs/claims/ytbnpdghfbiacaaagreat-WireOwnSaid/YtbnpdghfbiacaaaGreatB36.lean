/- The document's Valid by contract. No condition beyond what each theorem states. -/
import Derived.Test.YtbnpdghfbiacaaaGreatB26
import Derived.Test.YtbnpdghfbiacaaaGreatB31
import Derived.Test.YtbnpdghfbiacaaaGreatB32
import Derived.Test.YtbnpdghfbiacaaaGreatB18
import Derived.Deep.Cut
import Derived.Deep.CutRange
import Derived.Deep.DeepCutAuto
import Derived.Deep.RegionWith
namespace Go.Proofs.YtbnpdghfbiacaaaGreat
open Go Go.RowKit Go.PlainAid

set_option maxRecDepth 100000 in
set_option maxHeartbeats 8000000 in
theorem rvalid_op (m : Msg) (A : Option Addr) (c : Nat) (W : World) (hs : ArgInts W (.slice A m.stamp.length c) m.stamp) (hl : m.stamp.length ≤ maxLen) (hp : m.path.length ≤ 140737488355328) (h1 : usedS m = m) (h2 : nodeI m.from_) (h3 : m.from_ ≠ m.dest) (hk : m.kind = 5) :
    Calls Tryz.prog 12 #[.agg (mcells m (.slice A m.stamp.length c)).toArray] W fun e w' => e = .returned (.bool (decide (mayS vpP m))) ∧ Kp No W w' := by
  have HFI : Hid (mayS vpP m ↔ fineS vpP m) := Lib.hid ⟨fun h => h.2.2.2, fun h => ⟨h1, h2, h3, h⟩⟩
  have d2 : decide (nodeI m.from_) = true := by simpa using h2
  have d3 : (m.from_ == m.dest) = false := by rw [beq_eq_false_iff_ne]; exact h3
  have HU := Lib.hid h1
  have HS := Lib.hid hs
  have HP := Lib.hid (rpath_any m.path hp)
  have kA : Kp No W (W.alloc (.cells (mcells m (.slice A m.stamp.length c)).toArray 28)) := (Kp.refl No W).alloc _
  have hB : Bk (W.alloc (.cells (mcells m (.slice A m.stamp.length c)).toArray 28)) W.heap.size 28 (mcells m (.slice A m.stamp.length c)) := Bk.new' rfl rfl
  obtain ⟨A2, c2, hu, ha2, hl2⟩ := usedV_arg (hs.no kA)
  generalize hw0 : W.alloc (.cells (mcells m (.slice A m.stamp.length c)).toArray 28) = w0 at kA hB ha2
  have qu : ∀ W2, Kp No w0 W2 → Calls Tryz.prog 30 #[.agg #[.int .i64 m.kind, .int .i64 m.from_, .int .i64 m.dest, .int .i64 m.boot, .int .i64 m.seq, .int .i64 m.low, .int .i64 m.verb, .string ⟨m.path.toArray⟩, .int .i64 m.mode, .int .i64 m.term, .int .i64 m.id, .bool m.fresh, .int .i64 m.code, .slice A m.stamp.length c, .int .i64 m.origin, .int .i64 m.number]] W2 fun e w' => e = .returned (.agg (mcells (usedS m) (.slice A2 (usedS m).stamp.length c2)).toArray) ∧ Kp No w0 w' := fun W2 k => by
    have h := used_any m A c W2
    rw [hu] at h
    exact h.mono fun e w' h => ⟨h.1, k.trans h.2⟩
  have qs : ∀ W2, Kp No w0 W2 → Calls Tryz.prog 15 #[.agg (mcells (usedS m) (.slice A2 (usedS m).stamp.length c2)).toArray, .agg #[.int .i64 m.kind, .int .i64 m.from_, .int .i64 m.dest, .int .i64 m.boot, .int .i64 m.seq, .int .i64 m.low, .int .i64 m.verb, .string ⟨m.path.toArray⟩, .int .i64 m.mode, .int .i64 m.term, .int .i64 m.id, .bool m.fresh, .int .i64 m.code, .slice A m.stamp.length c, .int .i64 m.origin, .int .i64 m.number]] W2 fun e w' => e = .returned (.bool (decide (usedS m = m))) ∧ Kp No w0 w' := fun W2 k => by
    have h := rsame_any (usedS m) m A2 A c2 c W2 (ha2.no k) ((hs.no kA).no k) (Nat.le_trans hl2 hl) hl
    exact h.mono fun e w' h => ⟨h.1, k.trans h.2⟩
  have sk : ∀ W2, Kp No w0 W2 → Bk W2 W.heap.size 28 (mcells m (.slice A m.stamp.length c)) := fun W2 k => hB.no k
  rw [decide_eq_true h1] at qs
  clear h1 h2 h3 hp
  have HKD := Lib.hid hk; clear hk
  have HKA := Lib.hid kA; have HBA := Lib.hid hB
  clear hs hu ha2 hB kA
  unfold mcells at hw0 ⊢
  go_enter Tryz.func12, Tryz.ntmps12
  go_upto_region 1 with (fail)
  try rw [hw0]
  clear hw0
  obtain ⟨z0, z1, z2, z3, z4, z5, z6, z7, z8, z9, z10, z11, z12, z13, z14, z15⟩ := cells16 HBA.out
  clear z0 z1 z2 z3 z4 z5 z6 z7 z8 z9 z10 z11 z12 z13 z14 z15
  go_cut [21] (fun s wx => s = .bool false ∧ Kp No w0 wx)
  case first =>
    obtain ⟨z0, z1, z2, z3, z4, z5, z6, z7, z8, z9, z10, z11, z12, z13, z14, z15⟩ := cells16 HBA.out
    first
      | (go_region_with (first | (go_at_call 30; (with_reducible refine (qu _ (by with_reducible repeat (first | assumption | exact Kp.refl _ _ | refine Kp.drew ?_ | refine Kp.drewN ?_ _))).mono ?_); rintro e w2 ⟨rfl, k2⟩; clear z0 z1 z2 z3 z4 z5 z6 z7 z8 z9 z10 z11 z12 z13 z14 z15; obtain ⟨z0, z1, z2, z3, z4, z5, z6, z7, z8, z9, z10, z11, z12, z13, z14, z15⟩ := cells16 (sk _ k2)) | (go_at_call 15; (with_reducible refine (qs _ (by with_reducible repeat (first | assumption | exact Kp.refl _ _ | refine Kp.drew ?_ | refine Kp.drewN ?_ _))).mono ?_); rintro e w3 ⟨rfl, k3⟩; clear z0 z1 z2 z3 z4 z5 z6 z7 z8 z9 z10 z11 z12 z13 z14 z15; obtain ⟨z0, z1, z2, z3, z4, z5, z6, z7, z8, z9, z10, z11, z12, z13, z14, z15⟩ := cells16 (sk _ k3)) | (go_at_call 31; refine (rnode_any _ _).mono ?_; rintro e w' ⟨rfl, rfl⟩; rw [d2])))
    all_goals
      go_wp2_with fail
      go_meet
      exact ⟨rfl, by assumption⟩
  case rest =>
    obtain ⟨rfl, kx⟩ := hcut
    have HBX := Lib.hid (HBA.out.no kx); have HKX := Lib.hid (HKA.out.trans kx)
    clear kx qu qs sk
    obtain ⟨z0, z1, z2, z3, z4, z5, z6, z7, z8, z9, z10, z11, z12, z13, z14, z15⟩ := cells16 HBX.out
    have hk := HKD.out
    have dk : (m.kind == 5) = true := by simpa using hk
    have HF := Lib.hid (show mayS vpP m ↔ (8 ≤ m.dest ∧ m.dest < 12 ∧ vpP m.path = true ∧ modeI m.mode ∧ stampI m.stamp) from by
      rw [HFI.out]; unfold fineS; rw [if_neg (by omega), if_neg (by omega), if_neg (by omega), if_neg (by omega), if_pos hk])
    clear hk
    have HE4 : Hid (8 ≤ m.dest ∨ ¬ 8 ≤ m.dest) := Lib.hid (Decidable.em _)
    rcases HE4.out with h4 | h4
    rotate_left
    · skip
      have d4 : decide (8 ≤ m.dest) = false := by simpa using h4
      have H4 := Lib.hid h4; clear h4
      have HX := Lib.hid (show decide (mayS vpP m) = false by rw [decide_eq_false_iff_not, HF.out]; exact fun h => H4.out h.1)
      go_wp2_with ((first | (go_at_call 32; refine (HP.out _).mono ?_; rintro e w1 ⟨rfl, k1⟩; have HB1 := Lib.hid (HBX.out.no k1); have HK1 := Lib.hid (HKX.out.trans k1); have HS1 := Lib.hid (rstamp_any _ m.stamp _ (HS.out.no HK1.out) hl); clear z0 z1 z2 z3 z4 z5 z6 z7 z8 z9 z10 z11 z12 z13 z14 z15; obtain ⟨z0, z1, z2, z3, z4, z5, z6, z7, z8, z9, z10, z11, z12, z13, z14, z15⟩ := cells16 HB1.out) | (go_at_call 33; refine (rmode_any _ _).mono ?_; rintro e w' ⟨rfl, rfl⟩) | (go_at_call 34; refine HS1.out.mono ?_; rintro e w' ⟨rfl, rfl⟩)))
      go_ret
      exact ⟨ret_bool rfl HX.out.symm, HK1.out⟩
    have d4 : decide (8 ≤ m.dest) = true := by simpa using h4
    have H4 := Lib.hid h4; clear h4
    have HE5 : Hid (m.dest < 12 ∨ ¬ m.dest < 12) := Lib.hid (Decidable.em _)
    rcases HE5.out with h5 | h5
    rotate_left
    · skip
      have d5 : decide (m.dest < 12) = false := by simpa using h5
      have H5 := Lib.hid h5; clear h5
      have HX := Lib.hid (show decide (mayS vpP m) = false by rw [decide_eq_false_iff_not, HF.out]; exact fun h => H5.out h.2.1)
      go_wp2_with ((first | (go_at_call 32; refine (HP.out _).mono ?_; rintro e w1 ⟨rfl, k1⟩; have HB1 := Lib.hid (HBX.out.no k1); have HK1 := Lib.hid (HKX.out.trans k1); have HS1 := Lib.hid (rstamp_any _ m.stamp _ (HS.out.no HK1.out) hl); clear z0 z1 z2 z3 z4 z5 z6 z7 z8 z9 z10 z11 z12 z13 z14 z15; obtain ⟨z0, z1, z2, z3, z4, z5, z6, z7, z8, z9, z10, z11, z12, z13, z14, z15⟩ := cells16 HB1.out) | (go_at_call 33; refine (rmode_any _ _).mono ?_; rintro e w' ⟨rfl, rfl⟩) | (go_at_call 34; refine HS1.out.mono ?_; rintro e w' ⟨rfl, rfl⟩)))
      go_ret
      exact ⟨ret_bool rfl HX.out.symm, HK1.out⟩
    have d5 : decide (m.dest < 12) = true := by simpa using h5
    have H5 := Lib.hid h5; clear h5
    cases dp : vpP m.path
    · skip
      have HX := Lib.hid (show decide (mayS vpP m) = false by rw [decide_eq_false_iff_not, HF.out]; rintro ⟨_, _, h, _⟩; rw [dp] at h; cases h)
      go_wp2_with ((first | (go_at_call 32; refine (HP.out _).mono ?_; rintro e w1 ⟨rfl, k1⟩; have HB1 := Lib.hid (HBX.out.no k1); have HK1 := Lib.hid (HKX.out.trans k1); have HS1 := Lib.hid (rstamp_any _ m.stamp _ (HS.out.no HK1.out) hl); clear z0 z1 z2 z3 z4 z5 z6 z7 z8 z9 z10 z11 z12 z13 z14 z15; obtain ⟨z0, z1, z2, z3, z4, z5, z6, z7, z8, z9, z10, z11, z12, z13, z14, z15⟩ := cells16 HB1.out) | (go_at_call 33; refine (rmode_any _ _).mono ?_; rintro e w' ⟨rfl, rfl⟩) | (go_at_call 34; refine HS1.out.mono ?_; rintro e w' ⟨rfl, rfl⟩)); first | rw [dp] | skip)
      go_ret
      exact ⟨ret_bool rfl HX.out.symm, HK1.out⟩
    have HPV := Lib.hid dp
    have HE6 : Hid (modeI m.mode ∨ ¬ modeI m.mode) := Lib.hid (Decidable.em _)
    rcases HE6.out with h6 | h6
    rotate_left
    · skip
      have d6 : decide (modeI m.mode) = false := by simpa using h6
      have H6 := Lib.hid h6; clear h6
      have HX := Lib.hid (show decide (mayS vpP m) = false by rw [decide_eq_false_iff_not, HF.out]; exact fun h => H6.out h.2.2.2.1)
      go_wp2_with ((first | (go_at_call 32; refine (HP.out _).mono ?_; rintro e w1 ⟨rfl, k1⟩; have HB1 := Lib.hid (HBX.out.no k1); have HK1 := Lib.hid (HKX.out.trans k1); have HS1 := Lib.hid (rstamp_any _ m.stamp _ (HS.out.no HK1.out) hl); clear z0 z1 z2 z3 z4 z5 z6 z7 z8 z9 z10 z11 z12 z13 z14 z15; obtain ⟨z0, z1, z2, z3, z4, z5, z6, z7, z8, z9, z10, z11, z12, z13, z14, z15⟩ := cells16 HB1.out) | (go_at_call 33; refine (rmode_any _ _).mono ?_; rintro e w' ⟨rfl, rfl⟩) | (go_at_call 34; refine HS1.out.mono ?_; rintro e w' ⟨rfl, rfl⟩)); first | rw [dp] | rw [d6] | skip)
      go_ret
      exact ⟨ret_bool rfl HX.out.symm, HK1.out⟩
    have d6 : decide (modeI m.mode) = true := by simpa using h6
    have H6 := Lib.hid h6; clear h6
    have HE7 : Hid (stampI m.stamp ∨ ¬ stampI m.stamp) := Lib.hid (Decidable.em _)
    rcases HE7.out with h7 | h7
    rotate_left
    · skip
      have d7 : decide (stampI m.stamp) = false := by simpa using h7
      have H7 := Lib.hid h7; clear h7
      have HX := Lib.hid (show decide (mayS vpP m) = false by rw [decide_eq_false_iff_not, HF.out]; exact fun h => H7.out h.2.2.2.2)
      go_wp2_with ((first | (go_at_call 32; refine (HP.out _).mono ?_; rintro e w1 ⟨rfl, k1⟩; have HB1 := Lib.hid (HBX.out.no k1); have HK1 := Lib.hid (HKX.out.trans k1); have HS1 := Lib.hid (rstamp_any _ m.stamp _ (HS.out.no HK1.out) hl); clear z0 z1 z2 z3 z4 z5 z6 z7 z8 z9 z10 z11 z12 z13 z14 z15; obtain ⟨z0, z1, z2, z3, z4, z5, z6, z7, z8, z9, z10, z11, z12, z13, z14, z15⟩ := cells16 HB1.out) | (go_at_call 33; refine (rmode_any _ _).mono ?_; rintro e w' ⟨rfl, rfl⟩) | (go_at_call 34; refine HS1.out.mono ?_; rintro e w' ⟨rfl, rfl⟩)); first | rw [dp] | rw [d6] | rw [d7] | skip)
      go_ret
      exact ⟨ret_bool rfl HX.out.symm, HK1.out⟩
    have d7 : decide (stampI m.stamp) = true := by simpa using h7
    have H7 := Lib.hid h7; clear h7
    have HX := Lib.hid (show decide (mayS vpP m) = true by rw [decide_eq_true_iff, HF.out]; exact ⟨H4.out, H5.out, HPV.out, H6.out, H7.out⟩)
    go_wp2_with ((first | (go_at_call 32; refine (HP.out _).mono ?_; rintro e w1 ⟨rfl, k1⟩; have HB1 := Lib.hid (HBX.out.no k1); have HK1 := Lib.hid (HKX.out.trans k1); have HS1 := Lib.hid (rstamp_any _ m.stamp _ (HS.out.no HK1.out) hl); clear z0 z1 z2 z3 z4 z5 z6 z7 z8 z9 z10 z11 z12 z13 z14 z15; obtain ⟨z0, z1, z2, z3, z4, z5, z6, z7, z8, z9, z10, z11, z12, z13, z14, z15⟩ := cells16 HB1.out) | (go_at_call 33; refine (rmode_any _ _).mono ?_; rintro e w' ⟨rfl, rfl⟩) | (go_at_call 34; refine HS1.out.mono ?_; rintro e w' ⟨rfl, rfl⟩)); first | rw [dp] | rw [d6] | rw [d7] | skip)
    go_ret
    exact ⟨ret_bool rfl HX.out.symm, HK1.out⟩
end Go.Proofs.YtbnpdghfbiacaaaGreat
