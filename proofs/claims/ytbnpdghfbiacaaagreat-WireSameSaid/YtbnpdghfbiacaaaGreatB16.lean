/- awake of the law by contract. No condition beyond what each theorem states. -/
import Derived.Test.YtbnpdghfbiacaaaGreatB09
import Derived.Test.YtbnpdghfbiacaaaGreatB15
namespace Go.Proofs.YtbnpdghfbiacaaaGreat
open Go Go.RowKit Go.PlainAid

theorem num300 : numS 300 = [172, 2] := by rw [numS_big (by omega), numS_small (by omega)]; rfl
theorem small_body : bodyS smallM = [1, 1, 0, 1, 2, 1, 1, 3, 97, 47, 98, 2, 172, 2] := by
  have h : ∀ n : Nat, n < 128 → numS n = [UInt8.ofNat n] := fun n h => numS_small h
  simp [bodyS, smallM, nS, textS, h 1 (by omega), h 0 (by omega), h 2 (by omega), h 3 (by omega), num300]
theorem small_may : mayS vpP smallM := by decide +kernel
theorem small_enc : encS vpP smallM = some (sumS (bodyS smallM)) := by unfold encS; rw [if_pos small_may]
theorem small_len : (sumS (bodyS smallM)).length = 18 := by simp [sumS, four_length, small_body]
theorem small_take : (sumS (bodyS smallM)).take 14 = [1, 1, 0, 1, 2, 1, 1, 3, 97, 47, 98, 2, 172, 2] := by
  unfold sumS; rw [List.take_left' (by rw [small_body]; rfl), small_body]
theorem small_dec : decS vpP (sumS (bodyS smallM)) = some smallM := dec_enc vpP_len small_enc (by rw [small_len]; omega)
theorem small_rng : Rng smallM := Rng.of (by simp [smallM]) (by simp [smallM])
def sixM : Msg := { kind := 6, from_ := 1 }
theorem six_enc : encS vpP sixM = none := by unfold encS; rw [if_neg]; decide +kernel
theorem six_rng : Rng sixM := Rng.of (by simp [sixM]) (by simp [sixM])
theorem slice_h (A : Option Addr) (n c h : Nat) (hc : h ≤ c) (h0 : 0 < c) (W : World) : (Instr.slice 30 (.slice A n c) none (some (.int .i64 (h : Int))) none).run Tryz.prog W = .ok (.slice A h c) W := by
  have hu : Tryz.prog.underlying 30 = some (.slice (Tryz.prog.elem 30)) := by kernel_rfl
  rw [run_slice_h (P := Tryz.prog) W 30 _ _ _ hu .i64 (h : Int) (by omega) (by omega)]
  have : (sizeOf (Tryz.prog.elem 30)).run Tryz.prog W = .ok 1 W := by kernel_rfl
  rw [this]
  cases A <;> simp [Result.andThen, sliced, show ¬ c = 0 by omega, Addr.add]
set_option maxRecDepth 100000 in
set_option maxHeartbeats 8000000 in
theorem awake_any (W : World) : Calls Tryz.prog 7 #[] W fun e w' => e = .returned (.bool true) ∧ Kp No W w' := by
  go_enter Tryz.func7, Tryz.ntmps7
  go_wp2_with fail
  refine (small_any _).mono ?_
  rintro e w1 ⟨rfl, k1⟩
  have K1 := Lib.hid k1; clear k1
  have pe := encode_any smallM (.slice none 0 0) w1 (SlI.nil _ _ _) small_rng ⟨by simp [smallM, maxLen], by simp [smallM, maxLen]⟩
  go_wp2_with fail
  refine pe.mono ?_
  rintro e w2 ⟨hr, k2⟩
  have K2 := Lib.hid (K1.out.trans k2); clear k2 pe
  rcases hr with ⟨h, _⟩ | ⟨v, b, h, rfl, ho⟩
  · rw [small_enc] at h; cases h
  obtain rfl : sumS (bodyS smallM) = b := by rw [small_enc] at h; exact Option.some.inj h
  clear h
  obtain ⟨A, c, rfl, hc⟩ := own_len ho
  have hao := own_argB ho
  have hlen := small_len
  have htk := small_take
  have hdec := small_dec
  generalize sumS (bodyS smallM) = b at *
  rw [hlen] at hc hao
  have hcv := conv_any (hao.take 14 (by omega)) (by rw [htk]; simp)
  rw [htk] at hcv
  have hsl := slice_h A 18 c 14 (by omega) (by omega)
  rw [show ((14 : Nat) : Int) = 14 from rfl] at hsl
  have pd := decode_any A c b w2 (by rw [hlen]; exact hao) (by rw [hlen]; unfold maxLen; omega)
  rw [hlen] at pd ⊢
  have HD := Lib.hid hdec
  clear hao hc ho htk hdec hlen
  go_wp2_with fail
  refine pd.mono ?_
  rintro e w3 ⟨sv, he, hso, k3⟩
  have e1 : decM b = smallM := by unfold decM; rw [HD.out]; rfl
  have e2 : decE b = 0 := by unfold decE; rw [HD.out]; rfl
  rw [e1, e2] at he
  rw [e1] at hso
  obtain ⟨A5, c5, rfl, _⟩ := own_len hso
  subst he
  have K3 := Lib.hid (K2.out.trans k3)
  have HSO := Lib.hid (own_argI hso)
  clear k3 pd hcv hsl e1 e2 hso HD
  have HM := Lib.hid (show Bk (w3.alloc (.cells (mcells smallM (.slice A5 0 c5)).toArray 28)) w3.heap.size 28 (mcells smallM (.slice A5 0 c5)) from Bk.new' rfl rfl)
  have K4 := Lib.hid (K3.out.alloc (.cells (mcells smallM (.slice A5 0 c5)).toArray 28))
  have ps := encode_any sixM (.slice none 0 0) (w3.alloc (.cells (mcells smallM (.slice A5 0 c5)).toArray 28)) (SlI.nil _ _ _) six_rng ⟨by simp [sixM, maxLen], by simp [sixM, maxLen]⟩
  have HSO2 := Lib.hid (HSO.out.no ((Kp.refl No w3).alloc (.cells (mcells smallM (.slice A5 0 c5)).toArray 28)))
  simp only [mcells, smallM, sixM, List.length_nil] at ps HM K4 HSO2 ⊢
  go_wp2_with fail
  refine ps.mono ?_
  rintro e w5 ⟨hr, k5⟩
  have K5 := Lib.hid (K4.out.trans k5); have HM5 := Lib.hid (HM.out.no k5); have HSO5 := Lib.hid (HSO2.out.no k5)
  clear k5 ps
  rcases hr with ⟨_, rfl⟩ | ⟨v, b, h, _⟩
  rotate_left
  · have h6 := six_enc; simp only [sixM] at h6; rw [h6] at h; cases h
  go_upto_region 6 with (fail)
  have sm : ∀ W2, Kp No w5 W2 → Calls Tryz.prog 18 #[] W2 fun e w' => e = .returned (.agg (mcells smallM (.slice none 0 0)).toArray) ∧ Kp No w5 w' := fun W2 k => (small_any W2).mono fun e w' ⟨h, k2⟩ => ⟨h, k.trans k2⟩
  have ss : ∀ W2, Kp No w5 W2 → Calls Tryz.prog 16 #[.agg (mcells smallM (.slice A5 0 c5)).toArray, .agg (mcells smallM (.slice none 0 0)).toArray] W2 fun e w' => e = .returned (.bool true) ∧ Kp No w5 w' := fun W2 k =>
    (same_any smallM smallM _ _ W2 (HSO5.out.no k) (ArgInts.nil _ _ _) (by simp [smallM, maxLen]) (by simp [smallM, maxLen])).mono fun e w' ⟨h, k2⟩ => ⟨by rw [h]; simp, k.trans k2⟩
  have sv : ∀ W2, Kp No w5 W2 → Calls Tryz.prog 11 #[.agg (mcells smallM (.slice none 0 0)).toArray] W2 fun e w' => e = .returned (.bool true) ∧ Kp No w5 w' := fun W2 k =>
    (valid10_any smallM (.slice none 0 0) W2 (SlI.nil _ _ _) small_rng ⟨by simp [smallM, maxLen], by simp [smallM, maxLen]⟩).mono fun e w' ⟨h, k2⟩ => ⟨by rw [h, decide_eq_true small_may], k.trans k2⟩
  simp only [mcells, smallM] at sm ss sv
  have sk : ∀ W2, Kp No w5 W2 → W2.cell? ⟨w3.heap.size, 0, none⟩ = some (.int .i64 1) ∧ W2.cell? ⟨w3.heap.size, 1, none⟩ = some (.int .i64 1) ∧ W2.cell? ⟨w3.heap.size, 2, none⟩ = some (.int .i64 0) ∧ W2.cell? ⟨w3.heap.size, 3, none⟩ = some (.int .i64 1) ∧ W2.cell? ⟨w3.heap.size, 4, none⟩ = some (.int .i64 2) ∧ W2.cell? ⟨w3.heap.size, 5, none⟩ = some (.int .i64 1) ∧ W2.cell? ⟨w3.heap.size, 6, none⟩ = some (.int .i64 1) ∧ W2.cell? ⟨w3.heap.size, 7, none⟩ = some (.string ⟨#[97, 47, 98]⟩) ∧ W2.cell? ⟨w3.heap.size, 8, none⟩ = some (.int .i64 2) ∧ W2.cell? ⟨w3.heap.size, 9, none⟩ = some (.int .i64 300) ∧ W2.cell? ⟨w3.heap.size, 10, none⟩ = some (.int .i64 0) ∧ W2.cell? ⟨w3.heap.size, 11, none⟩ = some (.bool false) ∧ W2.cell? ⟨w3.heap.size, 12, none⟩ = some (.int .i64 0) ∧ W2.cell? ⟨w3.heap.size, 13, none⟩ = some (.slice A5 0 c5) ∧ W2.cell? ⟨w3.heap.size, 14, none⟩ = some (.int .i64 0) ∧ W2.cell? ⟨w3.heap.size, 15, none⟩ = some (.int .i64 0) := fun W2 k => ⟨(HM5.out.no k).cell 0, (HM5.out.no k).cell 1, (HM5.out.no k).cell 2, (HM5.out.no k).cell 3, (HM5.out.no k).cell 4, (HM5.out.no k).cell 5, (HM5.out.no k).cell 6, (HM5.out.no k).cell 7, (HM5.out.no k).cell 8, (HM5.out.no k).cell 9, (HM5.out.no k).cell 10, (HM5.out.no k).cell 11, (HM5.out.no k).cell 12, (HM5.out.no k).cell 13, (HM5.out.no k).cell 14, (HM5.out.no k).cell 15⟩
  go_region_held3 (fun W2 => W2.cell? ⟨w3.heap.size, 0, none⟩ = some (.int .i64 1) ∧ W2.cell? ⟨w3.heap.size, 1, none⟩ = some (.int .i64 1) ∧ W2.cell? ⟨w3.heap.size, 2, none⟩ = some (.int .i64 0) ∧ W2.cell? ⟨w3.heap.size, 3, none⟩ = some (.int .i64 1) ∧ W2.cell? ⟨w3.heap.size, 4, none⟩ = some (.int .i64 2) ∧ W2.cell? ⟨w3.heap.size, 5, none⟩ = some (.int .i64 1) ∧ W2.cell? ⟨w3.heap.size, 6, none⟩ = some (.int .i64 1) ∧ W2.cell? ⟨w3.heap.size, 7, none⟩ = some (.string ⟨#[97, 47, 98]⟩) ∧ W2.cell? ⟨w3.heap.size, 8, none⟩ = some (.int .i64 2) ∧ W2.cell? ⟨w3.heap.size, 9, none⟩ = some (.int .i64 300) ∧ W2.cell? ⟨w3.heap.size, 10, none⟩ = some (.int .i64 0) ∧ W2.cell? ⟨w3.heap.size, 11, none⟩ = some (.bool false) ∧ W2.cell? ⟨w3.heap.size, 12, none⟩ = some (.int .i64 0) ∧ W2.cell? ⟨w3.heap.size, 13, none⟩ = some (.slice A5 0 c5) ∧ W2.cell? ⟨w3.heap.size, 14, none⟩ = some (.int .i64 0) ∧ W2.cell? ⟨w3.heap.size, 15, none⟩ = some (.int .i64 0)) (first | (go_keep; done) | exact sk _ (by with_reducible repeat (first | assumption | exact Kp.refl _ _ | refine Kp.drew ?_ | refine Kp.drewN ?_ _)))
    (first
      | (go_at_call 18; (with_reducible refine (sm _ (by with_reducible repeat (first | assumption | exact Kp.refl _ _ | refine Kp.drew ?_ | refine Kp.drewN ?_ _))).mono ?_); rintro e w6 ⟨rfl, k6⟩)
      | (go_at_call 16; (with_reducible refine (ss _ (by with_reducible repeat (first | assumption | exact Kp.refl _ _ | refine Kp.drew ?_ | refine Kp.drewN ?_ _))).mono ?_); rintro e w7 ⟨rfl, k7⟩)
      | (go_at_call 11; (with_reducible refine (sv _ (by with_reducible repeat (first | assumption | exact Kp.refl _ _ | refine Kp.drew ?_ | refine Kp.drewN ?_ _))).mono ?_); rintro e w8 ⟨rfl, k8⟩))
  all_goals
    have HK := Lib.hid (K5.out.trans k8)
    clear sm ss sv sk
    go_wp2
    go_ret
    exact ⟨rfl, HK.out⟩
end Go.Proofs.YtbnpdghfbiacaaaGreat
