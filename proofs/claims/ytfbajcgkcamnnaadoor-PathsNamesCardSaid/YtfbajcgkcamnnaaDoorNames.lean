/- PathsNames returns true: the path error, the two limits and the longest path are the document's. No condition. -/
import Derived.Test.YtfbajcgkcamnnaaDoorK
import Derived.Test.YtfbajcgkcamnnaaDoorCards
namespace Go.Proofs.YtfbajcgkcamnnaaDoor.pathsNames
open Go.ChangeShapes Go.WideShapes Go.ChangeAt Go.RowKit Go.PlainAid
open Go.ChangeMaps (open_string shut_string)

theorem own : ownKnob Tryd.prog.godebug = none := by kernel_rfl
theorem laidOut : laidOutB Tryd.prog = true := by kernel_rfl

set_option maxRecDepth 100000 in
theorem walk (w : World) (hsh : w.ShapedOpen Tryd.prog) : Calls Tryd.prog 3 #[] w fun e w' => e = .returned (.bool true) ∧ Below w.heap.size w w' := by
  have HM := Lib.hid (mx_of hsh); clear hsh
  go_enter Tryd.func3, Tryd.ntmps3
  go_wp2_with fail
  refine (awake_any _ HM.out).mono ?_
  rintro e w1 ⟨rfl, k1⟩
  have v1 := valid_any ⟨#[97, 98, 99, 100, 101, 102, 47, 48, 49, 50, 51, 52, 53, 47, 103, 104, 105, 106, 107, 108, 47, 54, 55, 56, 57, 48, 49]⟩ w1 (by decide)
  rw [show (path (⟨#[97, 98, 99, 100, 101, 102, 47, 48, 49, 50, 51, 52, 53, 47, 103, 104, 105, 106, 107, 108, 47, 54, 55, 56, 57, 48, 49]⟩ : ByteArray).data.toList).isSome = true from by decide +kernel] at v1
  have v2 := valid_any ⟨#[97, 98, 99, 100, 101, 102, 47, 48, 49, 50, 51, 52, 53, 47, 103, 104, 105, 106, 107, 108, 47, 54, 55, 56, 57, 48, 49, 50]⟩ w1 (by decide)
  rw [show (path (⟨#[97, 98, 99, 100, 101, 102, 47, 48, 49, 50, 51, 52, 53, 47, 103, 104, 105, 106, 107, 108, 47, 54, 55, 56, 57, 48, 49, 50]⟩ : ByteArray).data.toList).isSome = false from by decide +kernel] at v2
  have v3 := valid_any ⟨#[97, 47, 98, 47, 99, 47, 100, 47, 101]⟩ w1 (by decide)
  rw [show (path (⟨#[97, 47, 98, 47, 99, 47, 100, 47, 101]⟩ : ByteArray).data.toList).isSome = false from by decide +kernel] at v3
  have V1 := Lib.hid v1; have V2 := Lib.hid v2; have V3 := Lib.hid v3
  clear v1 v2 v3
  go_wp2_with fail
  refine (V1.out).mono ?_
  rintro e wx ⟨rfl, hwx⟩
  obtain rfl := hwx
  go_wp2_with fail
  refine (V2.out).mono ?_
  rintro e wx ⟨rfl, hwx⟩
  obtain rfl := hwx
  go_wp2_with fail
  refine (V3.out).mono ?_
  rintro e wx ⟨rfl, hwx⟩
  obtain rfl := hwx
  go_wp2
  go_ret
  exact ⟨rfl, k1.below (Nat.le_refl _) (fun _ _ m => m)⟩

set_option maxRecDepth 100000 in
theorem lifted (os : Os) (started : os.Started) (H : Type) (enc : TypeId × Value → H) :
    ReturnsInHanded {} Tryd.checked os 3 .any (fun w args => (Rows.pathsNamesSpec.pre enc Tryd.prog Tryd.f3 Rows.pathsNamesRow.domain false w args ∧ laidMetH Tryd.prog [("unicode/utf8.acceptRanges", Rows.laid_unicode_utf8_acceptRanges), ("unicode/utf8.first", Rows.laid_unicode_utf8_first)] w) ∧ sizedMet enc Tryd.prog Tryd.f3 (OpenSpec.ofChange Rows.pathsNamesSpec) false w args)
      (Rows.pathsNamesSpec.post enc Tryd.prog Tryd.f3 false true false false) := by
  refine returnsInHanded_and_shaped (C := Tryd.checked) (X := (fun w _ => laidMetH Tryd.prog [("unicode/utf8.acceptRanges", Rows.laid_unicode_utf8_acceptRanges), ("unicode/utf8.first", Rows.laid_unicode_utf8_first)] w)) (fun _ _ _ hh h => h.of_heap hh) own started (by kernel_rfl) Tryd.func3
    (ChangeSpec.witness_shaped (enc := enc) (C := Tryd.checked) (os := os) (X := (fun w _ => laidMetH Tryd.prog [("unicode/utf8.acceptRanges", Rows.laid_unicode_utf8_acceptRanges), ("unicode/utf8.first", Rows.laid_unicode_utf8_first)] w)) false (World.laidAll Tryd.prog os [("unicode/utf8.acceptRanges", Rows.laid_unicode_utf8_acceptRanges), ("unicode/utf8.first", Rows.laid_unicode_utf8_first)]) #[] 8 (World.laidAll_os _ _ _)
      (World.shaped_of_ZipB (by kernel_rfl) (by kernel_rfl)) (by kernel_rfl) (by kernel_rfl) (by kernel_rfl)
      (by rw [MakeChecks.laidMetH_plain _ _ _ (by kernel_rfl)]; exact laidMet_laidAll _ (by kernel_rfl) (by kernel_rfl))) ?_
  intro W base args ds gs before hval0 hW hcnd hsz0 hL hsh _
  have hval : ∀ (j : Nat) t v, Tryd.f3.params[j]? = some t → args[j]? = some v → Value.okWide Tryd.prog W .any base t v := hval0
  have hW' := hW
  obtain ⟨p, q, hA0, hV, rfl, hfz, hnd⟩ := hW
  have hA : DataW.TrodAll enc Tryd.prog W 0 (fun _ => true) true Tryd.f3.params.toList args.toList ds p := hA0
  rw [Tryd.params3] at hA hval
  obtain ⟨rfl, rfl, rfl⟩ := trodAll_none hA
  obtain ⟨rfl, rfl⟩ := trodVars_none hV
  simp only [List.append_nil] at hW'
  refine (walk  W  hsh).mono fun e W' ⟨he, bel⟩ => ?_
  subst he
  exact ⟨_, rfl, _, _, _, [], _, [], hW', trodAll_mk1 (shut_bool Tryd.underlying4 _), trodAll_mk0, rfl, bel.frame _, fun h => by cases h⟩

theorem over : Rows.pathsNamesRow.holds Tryd.pinned (OpenSpec.ofChange Rows.pathsNamesSpec) :=
  OpenClaim.holds_of_wide 3 Tryd.f3 rfl rfl rfl rfl rfl rfl rfl ⟨rfl, rfl, rfl, rfl, rfl⟩ rfl rfl rfl rfl rfl (by kernel_rfl) Tryd.func3 (by kernel_rfl)
    (of_decide_eq_true (by kernel_rfl)) (by unfold Func.isWrapper; first | (rw [if_pos (by decide +kernel)]; kernel_rfl) | (rw [if_neg (by decide +kernel)]; exact ⟨rfl, rfl⟩))
    (fun os started H enc _ => lifted os started H enc)

theorem proved : Rows.PathsNamesCardSaid :=
  Claim7.holds_tied_plain_at .later [] [.data, .pinned] true (true, "b0747c0908a156516a929e9484f089a83caf480c3f33ea476e752292b81b8aab") false over (fun _ h => by cases h) (by kernel_rfl) (fun _ h => by cases h) pathsNames_row_tie rfl ⟨rfl, rfl⟩ (by kernel_rfl) rfl
    (fun f fn hf hfn => by
      obtain rfl : f = 3 := Option.some.inj ((show Tryd.prog.funcNamed "sublet/subletlaw01.PathsNames" = some 3 by kernel_rfl).symm.trans hf) |>.symm
      obtain rfl : fn = Tryd.f3 := (Option.some.inj (Tryd.func3.symm.trans hfn)).symm
      exact ⟨by kernel_rfl, fun j t ht => by
        rw [Tryd.params3] at ht
        simp at ht⟩)
    (by kernel_rfl)
#print axioms proved
end Go.Proofs.YtfbajcgkcamnnaaDoor.pathsNames
