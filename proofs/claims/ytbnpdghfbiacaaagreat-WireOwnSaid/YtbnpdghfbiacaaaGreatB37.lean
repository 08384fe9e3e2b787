/- Several texts of this claim in one. No condition beyond what each theorem states. -/
import Derived.Test.YtbnpdghfbiacaaaGreatB26
import Derived.Test.YtbnpdghfbiacaaaGreatB31
import Derived.Test.YtbnpdghfbiacaaaGreatB32
import Derived.Test.YtbnpdghfbiacaaaGreatB18
import Derived.Deep.Cut
import Derived.Deep.CutRange
import Derived.Deep.DeepCutAuto
import Derived.Deep.RegionWith
import Derived.Test.YtbnpdghfbiacaaaGreatB33
import Derived.Test.YtbnpdghfbiacaaaGreatB34
import Derived.Test.YtbnpdghfbiacaaaGreatB35
import Derived.Test.YtbnpdghfbiacaaaGreatB36
/- The document's Valid by contract. No condition beyond what each theorem states. -/
namespace Go.Proofs.YtbnpdghfbiacaaaGreat
open Go Go.RowKit Go.PlainAid

set_option maxRecDepth 100000 in
set_option maxHeartbeats 8000000 in
theorem rvalid_most (m : Msg) (A : Option Addr) (c : Nat) (W : World) (hs : ArgInts W (.slice A m.stamp.length c) m.stamp) (hl : m.stamp.length ≤ maxLen) (hp : m.path.length ≤ 140737488355328) (h1 : usedS m = m) (h2 : nodeI m.from_) (h3 : m.from_ ≠ m.dest) (hk5 : m.kind ≠ 5) :
    Calls Tryz.prog 12 #[.agg (mcells m (.slice A m.stamp.length c)).toArray] W fun e w' => e = .returned (.bool (decide (mayS vpP m))) ∧ Kp No W w' := by
  have HFI : Hid (mayS vpP m ↔ fineS vpP m) := Lib.hid ⟨fun h => h.2.2.2, fun h => ⟨h1, h2, h3, h⟩⟩
  have d2 : decide (nodeI m.from_) = true := by simpa using h2
  have d3 : (m.from_ == m.dest) = false := by rw [beq_eq_false_iff_ne]; exact h3
  have HU := Lib.hid h1
  have HS := Lib.hid hs
  have HP := Lib.hid (rpath_any m.path hp); have HPL := Lib.hid hp
  have kA : Kp No W (W.alloc (.cells (mcells m (.slice A m.stamp.length c)).toArray 28)) := (Kp.refl No W).alloc _
  have hB : Bk (W.alloc (.cells (mcells m (.slice A m.stamp.length c)).toArray 28)) W.heap.size 28 (mcells m (.slice A m.stamp.length c)) := Bk.new' rfl rfl
  obtain ⟨A2, c2, hu, ha2, hl2⟩ := usedV_arg (hs.no kA)
  generalize hw0 : W.alloc (.cells (mcells m (.slice A m.stamp.length c)).toArray 28) = w0 at kA hB ha2
  have qu : ∀ W2, Kp No w0 W2 → Calls Tryz.prog 30 #[.agg #[.int .i64 m.kind, .int .i64 m.from_, .int .i64 m.dest, .int .i64 m.boot, .int .i64 m.seq, .int .i64 m.low, .int .i64 m.verb, .string ⟨m.path.toArray⟩, .int .i64 m.mode, .int .i64 m.term, .int .i64 m.id, .bool m.fresh, .int .i64 m.code, .slice A m.stamp.length c, .int .i64 m.origin, .int .i64 m.number]] W2 fun e w' => e = .returned (.agg (mcells (usedS m) (.slice A2 (usedS m).stamp.length c2)).toArray) ∧ Kp No w0 w' := fun W2 k => by
    have h := used_any m A c W2
    rw [hu] at h
    exact h.mono fun e w' h => ⟨h.1, k.trans h.2⟩
  have qs : ∀ W2, Kp No w0 W2 → Calls Tryz.prog 15 #[.agg (mcells (usedS m) (.slice A2 (usedS m).stamp.length c2)).toArray, .agg #[.int .i64 m.kind, .int .i64 m.from_, .int .i64 m.dest, .int .i64 m.boot, .int .i64 m.seq, .int .i64 m.low, .int .i64 m.verb, .string ⟨m.path.toArray⟩, .int .i64 m.mode, .int .i64 m.term, .int .i64 m.id, .bool m.fresh, .int .i64 m.code, .slice A m.stamp.length c, .int .i64 m.origin, .int .i64 m.number]] W2 fun e w' => e = .returned (.bool (decide (usedS m = m))) ∧ Kp No w0 w' := fun W2 k => by
    have h := rsame_any (usedS m) m A2 A c2 c W2 (ha2.no k) ((hs.no kA).no k) (Nat.le_trans hl2 hl) hl
    exact h.mono fun e w' h => ⟨h.1, k.trans h.2⟩
  have sk : ∀ W2, Kp No w0 W2 → Bk W2 W.heap.size 28 (mcells m (.slice A m.stamp.length c)) := fun W2 k => hB.no k
  rw [decide_eq_true h1] at qs
  clear h1 h2 h3 hp
  have HKD := Lib.hid hk5; clear hk5
  have HKA := Lib.hid kA; have HBA := Lib.hid hB
  clear hs hu ha2 hB kA
  unfold mcells at hw0 ⊢
  go_enter Tryz.func12, Tryz.ntmps12
  go_upto_region 1 with (fail)
  try rw [hw0]
  clear hw0
  obtain ⟨z0, z1, z2, z3, z4, z5, z6, z7, z8, z9, z10, z11, z12, z13, z14, z15⟩ := cells16 HBA.out
  clear z0 z1 z2 z3 z4 z5 z6 z7 z8 z9 z10 z11 z12 z13 z14 z15
  go_cut [21] (fun s wx => s = .bool false ∧ Kp No w0 wx)
  case first =>
    obtain ⟨z0, z1, z2, z3, z4, z5, z6, z7, z8, z9, z10, z11, z12, z13, z14, z15⟩ := cells16 HBA.out
    first
      | (go_region_with (first | (go_at_call 30; (with_reducible refine (qu _ (by with_reducible repeat (first | assumption | exact Kp.refl _ _ | refine Kp.drew ?_ | refine Kp.drewN ?_ _))).mono ?_); rintro e w2 ⟨rfl, k2⟩; clear z0 z1 z2 z3 z4 z5 z6 z7 z8 z9 z10 z11 z12 z13 z14 z15; obtain ⟨z0, z1, z2, z3, z4, z5, z6, z7, z8, z9, z10, z11, z12, z13, z14, z15⟩ := cells16 (sk _ k2)) | (go_at_call 15; (with_reducible refine (qs _ (by with_reducible repeat (first | assumption | exact Kp.refl _ _ | refine Kp.drew ?_ | refine Kp.drewN ?_ _))).mono ?_); rintro e w3 ⟨rfl, k3⟩; clear z0 z1 z2 z3 z4 z5 z6 z7 z8 z9 z10 z11 z12 z13 z14 z15; obtain ⟨z0, z1, z2, z3, z4, z5, z6, z7, z8, z9, z10, z11, z12, z13, z14, z15⟩ := cells16 (sk _ k3)) | (go_at_call 31; refine (rnode_any _ _).mono ?_; rintro e w' ⟨rfl, rfl⟩; rw [d2])))
    all_goals
      go_wp2_with fail
      go_meet
      exact ⟨rfl, by assumption⟩
  case rest =>
    obtain ⟨rfl, kx⟩ := hcut
    have HBX := Lib.hid (HBA.out.no kx); have HKX := Lib.hid (HKA.out.trans kx)
    clear kx qu qs sk
    obtain ⟨z0, z1, z2, z3, z4, z5, z6, z7, z8, z9, z10, z11, z12, z13, z14, z15⟩ := cells16 HBX.out
    have hk5 := HKD.out
    have dk5 : (m.kind == 5) = false := by rw [beq_eq_false_iff_ne]; exact hk5
    have HF := HFI
    have HTO : Hid (fineS vpP m → nodeI m.dest) := Lib.hid (by
      unfold fineS
      repeat' split
      all_goals first | exact fun h => h.1 | exact fun h => h.elim | exact fun _ => absurd (by assumption) hk5)
    have HK5 := Lib.hid hk5; clear hk5
    have HE4 : Hid (nodeI m.dest ∨ ¬ nodeI m.dest) := Lib.hid (Decidable.em _)
    rcases HE4.out with h4 | h4
    rotate_left
    · skip
      have d4 : decide (nodeI m.dest) = false := by simpa using h4
      have H4 := Lib.hid h4; clear h4
      have HX := Lib.hid (show decide (mayS vpP m) = false by rw [decide_eq_false_iff_not, HF.out]; exact fun h => H4.out (HTO.out h))
      go_wp2_with ((first | (go_at_call 31; refine (rnode_any _ _).mono ?_; rintro e w' ⟨rfl, rfl⟩)); first | rw [d4] | skip)
      go_ret
      exact ⟨ret_bool rfl HX.out.symm, HKX.out⟩
    have d4 : decide (nodeI m.dest) = true := by simpa using h4
    have H4 := Lib.hid h4; clear h4
    by_cases k1 : m.kind = 1
    · have dk : (m.kind == 1) = true := by simpa using k1
      have HX := Lib.hid (show decide (mayS vpP m) = decide (askP m) by
        refine decide_eq_decide.2 ?_
        rw [HF.out]; unfold fineS askP; rw [if_pos k1]; exact ⟨fun h => h.2, fun h => ⟨H4.out, h⟩⟩)
      have pa := fun W9 => rasks_any m A c W9 HPL.out
      unfold mcells at pa
      clear k1
      go_wp2_with (first | (go_at_call 31; refine (rnode_any _ _).mono ?_; rintro e w' ⟨rfl, rfl⟩) | (go_at_call 35; refine (pa _).mono ?_; rintro e w2 ⟨rfl, k2⟩); first | rw [d4] | skip)
      go_ret
      exact ⟨ret_bool rfl HX.out.symm, HKX.out.trans k2⟩
    have dk1 : (m.kind == 1) = false := by rw [beq_eq_false_iff_ne]; exact k1
    by_cases k2 : m.kind = 2
    · have dk : (m.kind == 2) = true := by simpa using k2
      have HX := Lib.hid (show decide (mayS vpP m) = decide (repP m) by
        refine decide_eq_decide.2 ?_
        rw [HF.out]; unfold fineS repP; rw [if_neg k1, if_pos k2]; exact ⟨fun h => h.2, fun h => ⟨H4.out, h⟩⟩)
      have pa := fun W9 (k : Kp No W W9) => rreplies_any m A c W9 (HS.out.no k) hl
      unfold mcells at pa
      clear k1 k2
      go_wp2_with (first | (go_at_call 31; refine (rnode_any _ _).mono ?_; rintro e w' ⟨rfl, rfl⟩) | (go_at_call 36; refine (pa _ HKX.out).mono ?_; rintro e w2 ⟨rfl, k2⟩); first | rw [d4] | skip)
      go_ret
      exact ⟨ret_bool rfl HX.out.symm, HKX.out.trans k2⟩
    have dk2 : (m.kind == 2) = false := by rw [beq_eq_false_iff_ne]; exact k2
    have HNK1 := Lib.hid k1; have HNK2 := Lib.hid k2; clear k1 k2
    by_cases k34 : m.kind = 3 ∨ m.kind = 4
    rotate_left
    · have dk3 : (m.kind == 3) = false := by rw [beq_eq_false_iff_ne]; exact fun h => k34 (.inl h)
      have dk4 : (m.kind == 4) = false := by rw [beq_eq_false_iff_ne]; exact fun h => k34 (.inr h)
      have HK34 := Lib.hid k34; clear k34
      have HX := Lib.hid (show decide (mayS vpP m) = false by rw [decide_eq_false_iff_not, HF.out]; unfold fineS; rw [if_neg HNK1.out, if_neg HNK2.out, if_neg (fun h => HK34.out (.inl h)), if_neg (fun h => HK34.out (.inr h)), if_neg HK5.out]; exact fun h => h)
      go_wp2_with ((first | (go_at_call 31; refine (rnode_any _ _).mono ?_; rintro e w' ⟨rfl, rfl⟩)); first | rw [d4] | skip)
      go_ret
      exact ⟨ret_bool rfl HX.out.symm, HKX.out⟩
    have HG := Lib.hid (show mayS vpP m ↔ (nodeI m.dest ∧ cntI m.id ∧ nodeI m.origin ∧ cntI m.number ∧ vpP m.path = true) from by
      rw [HF.out]; unfold fineS; rw [if_neg HNK1.out, if_neg HNK2.out]
      rcases k34 with h | h
      · rw [if_pos h]
      · rw [if_neg (by omega), if_pos h]
        have hpn : m.path = [] := by
          have h1 := congrArg Msg.path HU.out
          rw [← h1]; simp [usedS, h]
        rw [hpn]
        exact ⟨fun q => ⟨q.1, q.2.1, q.2.2.1, q.2.2.2, by unfold vpP; rw [path_nil]; rfl⟩, fun q => ⟨q.1, q.2.1, q.2.2.1, q.2.2.2.1⟩⟩)
    have dk34 : ((m.kind == 3) = true) ∨ ((m.kind == 3) = false ∧ (m.kind == 4) = true) := by
      rcases k34 with h | h
      · left; simpa using h
      · right; exact ⟨by rw [beq_eq_false_iff_ne]; omega, by simpa using h⟩
    clear HF k34
    have HF := HG
    clear HG
    have HE5 : Hid (cntI m.id ∨ ¬ cntI m.id) := Lib.hid (Decidable.em _)
    rcases HE5.out with h5 | h5
    rotate_left
    · skip
      have d5 : decide (cntI m.id) = false := by simpa using h5
      have H5 := Lib.hid h5; clear h5
      have HX := Lib.hid (show decide (mayS vpP m) = false by rw [decide_eq_false_iff_not, HF.out]; exact fun h => H5.out h.2.1)
      rcases dk34 with e1 | ⟨e1, e2⟩
      all_goals
        go_wp2_with ((first | (go_at_call 37; refine (rcounter_any _ _).mono ?_; rintro e w' ⟨rfl, rfl⟩) | (go_at_call 31; refine (rnode_any _ _).mono ?_; rintro e w' ⟨rfl, rfl⟩) | (go_at_call 32; refine (HP.out _).mono ?_; rintro e w1 ⟨rfl, k1⟩; have HB1 := Lib.hid (HBX.out.no k1); have HK1 := Lib.hid (HKX.out.trans k1); have HS1 := Lib.hid (rstamp_any _ m.stamp _ (HS.out.no HK1.out) hl); clear z0 z1 z2 z3 z4 z5 z6 z7 z8 z9 z10 z11 z12 z13 z14 z15; obtain ⟨z0, z1, z2, z3, z4, z5, z6, z7, z8, z9, z10, z11, z12, z13, z14, z15⟩ := cells16 HB1.out)); first | rw [d4] | rw [d5] | skip)
        go_ret
        exact ⟨ret_bool rfl HX.out.symm, HKX.out⟩
    have d5 : decide (cntI m.id) = true := by simpa using h5
    have H5 := Lib.hid h5; clear h5
    have HE6 : Hid (nodeI m.origin ∨ ¬ nodeI m.origin) := Lib.hid (Decidable.em _)
    rcases HE6.out with h6 | h6
    rotate_left
    · skip
      have d6 : decide (nodeI m.origin) = false := by simpa using h6
      have H6 := Lib.hid h6; clear h6
      have HX := Lib.hid (show decide (mayS vpP m) = false by rw [decide_eq_false_iff_not, HF.out]; exact fun h => H6.out h.2.2.1)
      rcases dk34 with e1 | ⟨e1, e2⟩
      all_goals
        go_wp2_with ((first | (go_at_call 37; refine (rcounter_any _ _).mono ?_; rintro e w' ⟨rfl, rfl⟩) | (go_at_call 31; refine (rnode_any _ _).mono ?_; rintro e w' ⟨rfl, rfl⟩) | (go_at_call 32; refine (HP.out _).mono ?_; rintro e w1 ⟨rfl, k1⟩; have HB1 := Lib.hid (HBX.out.no k1); have HK1 := Lib.hid (HKX.out.trans k1); have HS1 := Lib.hid (rstamp_any _ m.stamp _ (HS.out.no HK1.out) hl); clear z0 z1 z2 z3 z4 z5 z6 z7 z8 z9 z10 z11 z12 z13 z14 z15; obtain ⟨z0, z1, z2, z3, z4, z5, z6, z7, z8, z9, z10, z11, z12, z13, z14, z15⟩ := cells16 HB1.out)); first | rw [d4] | rw [d5] | rw [d6] | skip)
        go_ret
        exact ⟨ret_bool rfl HX.out.symm, HKX.out⟩
    have d6 : decide (nodeI m.origin) = true := by simpa using h6
    have H6 := Lib.hid h6; clear h6
    have HE7 : Hid (cntI m.number ∨ ¬ cntI m.number) := Lib.hid (Decidable.em _)
    rcases HE7.out with h7 | h7
    rotate_left
    · skip
      have d7 : decide (cntI m.number) = false := by simpa using h7
      have H7 := Lib.hid h7; clear h7
      have HX := Lib.hid (show decide (mayS vpP m) = false by rw [decide_eq_false_iff_not, HF.out]; exact fun h => H7.out h.2.2.2.1)
      rcases dk34 with e1 | ⟨e1, e2⟩
      all_goals
        go_wp2_with ((first | (go_at_call 37; refine (rcounter_any _ _).mono ?_; rintro e w' ⟨rfl, rfl⟩) | (go_at_call 31; refine (rnode_any _ _).mono ?_; rintro e w' ⟨rfl, rfl⟩) | (go_at_call 32; refine (HP.out _).mono ?_; rintro e w1 ⟨rfl, k1⟩; have HB1 := Lib.hid (HBX.out.no k1); have HK1 := Lib.hid (HKX.out.trans k1); have HS1 := Lib.hid (rstamp_any _ m.stamp _ (HS.out.no HK1.out) hl); clear z0 z1 z2 z3 z4 z5 z6 z7 z8 z9 z10 z11 z12 z13 z14 z15; obtain ⟨z0, z1, z2, z3, z4, z5, z6, z7, z8, z9, z10, z11, z12, z13, z14, z15⟩ := cells16 HB1.out)); first | rw [d4] | rw [d5] | rw [d6] | rw [d7] | skip)
        go_ret
        exact ⟨ret_bool rfl HX.out.symm, HKX.out⟩
    have d7 : decide (cntI m.number) = true := by simpa using h7
    have H7 := Lib.hid h7; clear h7
    cases dp : vpP m.path
    · skip
      have HX := Lib.hid (show decide (mayS vpP m) = false by rw [decide_eq_false_iff_not, HF.out]; rintro ⟨_, _, _, _, h⟩; rw [dp] at h; cases h)
      rcases dk34 with e1 | ⟨e1, e2⟩
      all_goals
        go_wp2_with ((first | (go_at_call 37; refine (rcounter_any _ _).mono ?_; rintro e w' ⟨rfl, rfl⟩) | (go_at_call 31; refine (rnode_any _ _).mono ?_; rintro e w' ⟨rfl, rfl⟩) | (go_at_call 32; refine (HP.out _).mono ?_; rintro e w1 ⟨rfl, k1⟩; have HB1 := Lib.hid (HBX.out.no k1); have HK1 := Lib.hid (HKX.out.trans k1); have HS1 := Lib.hid (rstamp_any _ m.stamp _ (HS.out.no HK1.out) hl); clear z0 z1 z2 z3 z4 z5 z6 z7 z8 z9 z10 z11 z12 z13 z14 z15; obtain ⟨z0, z1, z2, z3, z4, z5, z6, z7, z8, z9, z10, z11, z12, z13, z14, z15⟩ := cells16 HB1.out)); first | rw [d4] | rw [d5] | rw [d6] | rw [d7] | rw [dp] | skip)
        go_ret
        exact ⟨ret_bool rfl HX.out.symm, HK1.out⟩
    have HPV := Lib.hid dp
    have HX := Lib.hid (show decide (mayS vpP m) = true by rw [decide_eq_true_iff, HF.out]; exact ⟨H4.out, H5.out, H6.out, H7.out, HPV.out⟩)
    rcases dk34 with e1 | ⟨e1, e2⟩
    all_goals
      go_wp2_with ((first | (go_at_call 37; refine (rcounter_any _ _).mono ?_; rintro e w' ⟨rfl, rfl⟩) | (go_at_call 31; refine (rnode_any _ _).mono ?_; rintro e w' ⟨rfl, rfl⟩) | (go_at_call 32; refine (HP.out _).mono ?_; rintro e w1 ⟨rfl, k1⟩; have HB1 := Lib.hid (HBX.out.no k1); have HK1 := Lib.hid (HKX.out.trans k1); have HS1 := Lib.hid (rstamp_any _ m.stamp _ (HS.out.no HK1.out) hl); clear z0 z1 z2 z3 z4 z5 z6 z7 z8 z9 z10 z11 z12 z13 z14 z15; obtain ⟨z0, z1, z2, z3, z4, z5, z6, z7, z8, z9, z10, z11, z12, z13, z14, z15⟩ := cells16 HB1.out)); first | rw [d4] | rw [d5] | rw [d6] | rw [d7] | rw [dp] | skip)
      go_ret
      exact ⟨ret_bool rfl HX.out.symm, HK1.out⟩
end Go.Proofs.YtbnpdghfbiacaaaGreat

/- The document's Valid by contract. No condition beyond what each theorem states. -/
namespace Go.Proofs.YtbnpdghfbiacaaaGreat
open Go Go.RowKit Go.PlainAid

theorem rvalid6_any (m : Msg) (A : Option Addr) (c : Nat) (W : World) (hs : ArgInts W (.slice A m.stamp.length c) m.stamp) (hl : m.stamp.length ≤ maxLen) (hp : m.path.length ≤ 140737488355328) :
    Calls Tryz.prog 12 #[.agg (mcells m (.slice A m.stamp.length c)).toArray] W fun e w' => e = .returned (.bool (decide (mayS vpP m))) ∧ Kp No W w' := by
  by_cases h1 : usedS m = m
  · by_cases h2 : nodeI m.from_
    · by_cases h3 : m.from_ = m.dest
      · exact rvalid_self m A c W hs hl h1 h2 h3
      · by_cases hk : m.kind = 5
        · exact rvalid_op m A c W hs hl hp h1 h2 h3 hk
        · exact rvalid_most m A c W hs hl hp h1 h2 h3 hk
    · exact rvalid_from m A c W hs hl h1 h2
  · exact rvalid_unused m A c W hs hl h1
end Go.Proofs.YtbnpdghfbiacaaaGreat
