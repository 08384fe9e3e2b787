/- The law's awake, by contract: it answers true. No condition beyond what the theorem states. -/
import Derived.Test.YtfbajcgkcamnnaaDoorH
namespace Go.Proofs.YtfbajcgkcamnnaaDoor
open Go Go.RowKit Go.PlainAid

theorem split_some (s : ByteArray) (w : World) (hs : s.size ≤ maxLen) (hm : Mx w) (D : List ByteArray) (hp : path s.data.toList = some (tx D)) (hD : D ≠ []) :
    Calls Tryd.prog 13 #[.string s] w fun e w' => ∃ g, e = .returned (.tuple #[.slice (some ⟨g, 0, none⟩) D.length D.length, .int .i64 0]) ∧ Bk w' g 9 (D.map Value.string) ∧ w.heap.size ≤ g ∧ Kp No w w' := by
  refine (split_any s w hs hm).mono fun e w' h => ?_
  unfold SplitAns at h
  rw [hp] at h
  cases hx : tx D with
  | nil => exfalso; apply hD; have := congrArg List.length hx; rw [tx_length] at this; exact List.eq_nil_of_length_eq_zero (by simpa using this)
  | cons x t =>
    rw [hx] at h
    obtain ⟨L, g, rfl, hL, hb, hg, hk⟩ := h
    rw [← hx] at hL
    obtain rfl := tx_inj hL
    exact ⟨g, rfl, hb, hg, hk⟩
theorem join_some (v : Value) (L : List ByteArray) (w : World) (hv : ArgStrs w v L) (hs : ∀ x ∈ L, x.size ≤ maxLen) (x : ByteArray) (hj : joinL (tx L) = some x.data.toList) :
    Calls Tryd.prog 19 #[v] w fun e w' => e = .returned (.tuple #[.string x, .int .i64 0]) ∧ Kp No w w' := by
  refine (join_any v L w hv hs).mono fun e w' h => ?_
  unfold JoinAns at h
  rw [hj] at h
  exact h
theorem Bk.strs {w : World} {g : Nat} {D : List ByteArray} (h : Bk w g 9 (D.map Value.string)) : ArgStrs w (.slice (some ⟨g, 0, none⟩) D.length D.length) D :=
  ⟨_, _, rfl, Nat.le_refl _, fun _ => ⟨g, 0, rfl, by have := h.range 0 D.length; rw [List.drop_zero, List.take_of_length_le (by simp)] at this; exact this⟩⟩

set_option maxHeartbeats 1000000 in
set_option maxRecDepth 100000 in
theorem awake_any (w : World) (hm : Mx w) : Calls Tryd.prog 11 #[] w fun e w' => e = .returned (.bool true) ∧ Kp No w w' := by
  go_enter Tryd.func11, Tryd.ntmps11
  go_wp2_with fail
  refine (split_some ⟨#[97, 47, 98]⟩ _ (by decide) hm [⟨#[97]⟩, ⟨#[98]⟩] (by decide +kernel) (by simp)).mono ?_
  rintro e w1 ⟨g, rfl, hb, hg, k1⟩
  have f1 := hb.lt
  go_wp2_with fail
  refine (join_some _ [⟨#[97]⟩, ⟨#[98]⟩] _ (Bk.new _ 9 [.string ⟨#[97]⟩, .string ⟨#[98]⟩]).strs (by simp; decide) ⟨#[97, 47, 98]⟩ (by decide +kernel)).mono ?_
  rintro e w2 ⟨rfl, k2⟩
  have hb2 := (hb.alloc (.cells #[.string ⟨#[97]⟩, .string ⟨#[98]⟩] 9)).no k2
  have kk := k1.trans ((Kp.refl No _).alloc _ |>.trans k2)
  have c0 : w2.cell? ⟨g, 0, none⟩ = some (.string ⟨#[97]⟩) := hb2.cell 0
  have c1 : w2.cell? ⟨g, 1, none⟩ = some (.string ⟨#[98]⟩) := hb2.cell 1
  have K := Lib.hid kk
  clear hb hb2 k1 k2 kk f1 hg hm
  go_wp2_with fail
  have c := meet_any ⟨#[97]⟩ ⟨#[97, 47, 98]⟩ w2 (by decide) (by decide)
  rw [show meetB ⟨#[97]⟩ ⟨#[97, 47, 98]⟩ = ⟨#[97, 47, 98]⟩ from by unfold meetB; rw [if_pos (by decide +kernel), if_neg (by decide)], show overlapL (⟨#[97]⟩ : ByteArray).data.toList (⟨#[97, 47, 98]⟩ : ByteArray).data.toList = true from by decide +kernel] at c
  refine c.mono ?_
  clear c
  rintro e w' ⟨rfl, rfl⟩
  have v1 := valid_any ⟨#[97, 47, 98, 50, 47, 99]⟩ w' (by decide)
  rw [show (path (⟨#[97, 47, 98, 50, 47, 99]⟩ : ByteArray).data.toList).isSome = true from by decide +kernel] at v1
  have v2 := valid_any ⟨#[97, 47, 47, 98]⟩ w' (by decide)
  rw [show (path (⟨#[97, 47, 47, 98]⟩ : ByteArray).data.toList).isSome = false from by decide +kernel] at v2
  have v3 := depth_any ⟨#[97, 47, 98]⟩ w' (by decide)
  rw [show depthL (⟨#[97, 47, 98]⟩ : ByteArray).data.toList = 2 from by decide +kernel] at v3
  have v4 := covers_any ⟨#[97]⟩ ⟨#[97, 47, 98]⟩ w' (by decide) (by decide)
  rw [show coversL (⟨#[97]⟩ : ByteArray).data.toList (⟨#[97, 47, 98]⟩ : ByteArray).data.toList = true from by decide +kernel] at v4
  have v5 := covers_any ⟨#[97]⟩ ⟨#[97, 98]⟩ w' (by decide) (by decide)
  rw [show coversL (⟨#[97]⟩ : ByteArray).data.toList (⟨#[97, 98]⟩ : ByteArray).data.toList = false from by decide +kernel] at v5
  have v6 := overlap_any ⟨#[97, 47, 98]⟩ ⟨#[97]⟩ w' (by decide) (by decide)
  rw [show overlapL (⟨#[97, 47, 98]⟩ : ByteArray).data.toList (⟨#[97]⟩ : ByteArray).data.toList = true from by decide +kernel] at v6
  have v7 := compare_any ⟨#[97, 47, 98]⟩ ⟨#[97, 48]⟩ w'
  rw [show Lib.compareBytes (⟨#[97, 47, 98]⟩ : ByteArray).data.toList (⟨#[97, 48]⟩ : ByteArray).data.toList = -1 from by decide +kernel] at v7
  have V1 := Lib.hid v1; have V2 := Lib.hid v2; have V3 := Lib.hid v3; have V4 := Lib.hid v4; have V5 := Lib.hid v5; have V6 := Lib.hid v6; have V7 := Lib.hid v7
  clear v1 v2 v3 v4 v5 v6 v7
  go_wp2_with fail
  refine V1.out.mono ?_
  rintro e wx ⟨rfl, hwx⟩
  obtain rfl := hwx
  go_wp2_with fail
  refine V2.out.mono ?_
  rintro e wy ⟨rfl, hwx⟩
  obtain rfl := hwx
  go_wp2_with fail
  refine V3.out.mono ?_
  rintro e wy ⟨rfl, hwx⟩
  obtain rfl := hwx
  go_wp2_with fail
  refine V4.out.mono ?_
  rintro e wy ⟨rfl, hwx⟩
  obtain rfl := hwx
  go_wp2_with fail
  refine V5.out.mono ?_
  rintro e wy ⟨rfl, hwx⟩
  obtain rfl := hwx
  go_wp2_with fail
  refine V6.out.mono ?_
  rintro e wy ⟨rfl, hwx⟩
  obtain rfl := hwx
  go_wp2_with fail
  refine V7.out.mono ?_
  rintro e wy ⟨rfl, hwx⟩
  obtain rfl := hwx
  go_wp2
  go_ret
  exact ⟨rfl, K.out⟩
end Go.Proofs.YtfbajcgkcamnnaaDoor
