/- StampsNames returns true: the errors and limits of stamps are the document's. No condition. -/
import Derived.Test.YtfbogdeodpkhcaaDoorStJ
import Derived.Test.YtfbogdeodpkhcaaDoorCards
namespace Go.Proofs.YtfbogdeodpkhcaaDoor.stampsNames
open Go.ChangeShapes Go.WideShapes Go.ChangeAt Go.RowKit Go.PlainAid
open Go.ChangeMaps (open_string shut_string)

theorem own : ownKnob Tryd.prog.godebug = none := by kernel_rfl
theorem laidOut : laidOutB Tryd.prog = true := by kernel_rfl
set_option maxRecDepth 100000 in
set_option maxHeartbeats 4000000 in
theorem walk (w : World) (hL : Lw w) : Calls Tryd.prog 3 #[] w fun e w' => e = .returned (.bool true) ∧ Below w.heap.size w w' := by
  have HL := Lib.hid hL; clear hL
  go_enter Tryd.func3, Tryd.ntmps3
  go_wp2_with fail
  have c1 := extS_any (.slice (some ⟨w.heap.size, 0, none⟩) 4 4) [1, 1, 1, 1] 3 (w.alloc (.cells #[.int .i64 1, .int .i64 1, .int .i64 1, .int .i64 1] 3)) (lit_arg (Bk.new' rfl rfl) rfl) (by decide)
  rw [show extS [1, 1, 1, 1] 3 = ([], 14) by decide] at c1
  refine c1.mono ?_
  clear c1
  rintro e w1 ⟨r1, rfl, o1, k1⟩
  have K1 := Lib.hid (((Kp.refl No w).alloc _).trans k1)
  clear o1 k1
  go_wp2_with fail
  have c1 := nextS_any (.slice (some ⟨w1.heap.size, 0, none⟩) 1 1) [1099511627776] (w1.alloc (.cells #[.int .i64 1099511627776] 3)) (lit_arg (Bk.new' rfl rfl) rfl) (by decide)
  rw [show nextS [1099511627776] = ([], 66) by decide] at c1
  refine c1.mono ?_
  clear c1
  rintro e w2 ⟨r2, rfl, o2, k2⟩
  have K2 := Lib.hid ((K1.out.alloc _).trans k2)
  clear o2 k2
  go_wp2_with fail
  have c1 := nextS_any (.slice none 0 0) [] w2 (ArgInts.nil _ _ _) (by decide)
  rw [show nextS [] = ([], 13) by decide] at c1
  refine c1.mono ?_
  clear c1
  rintro e w3 ⟨r3, rfl, o3, k3⟩
  have K3 := Lib.hid (K2.out.trans k3)
  clear o3 k3
  go_wp2_with fail
  refine (awakeS_any _ (HL.out.no K3.out)).mono ?_
  rintro e w4 ⟨rfl, k4⟩
  go_wp2
  go_ret
  exact ⟨rfl, (K3.out.trans k4).below (Nat.le_refl _) (fun _ _ m => m)⟩

set_option maxRecDepth 100000 in
theorem lifted (os : Os) (started : os.Started) (H : Type) (enc : TypeId × Value → H) :
    ReturnsInHanded {} Tryd.checked os 3 .any (fun w args => (Rows.stampsNamesSpec.pre enc Tryd.prog Tryd.f3 Rows.stampsNamesRow.domain false w args ∧ laidMetH Tryd.prog LAID w) ∧ sizedMet enc Tryd.prog Tryd.f3 (OpenSpec.ofChange Rows.stampsNamesSpec) false w args)
      (Rows.stampsNamesSpec.post enc Tryd.prog Tryd.f3 false true false false) := by
  refine returnsInHanded_and_shaped (C := Tryd.checked) (X := (fun w _ => laidMetH Tryd.prog LAID w)) (fun _ _ _ hh h => h.of_heap hh) own started (by kernel_rfl) Tryd.func3
    (ChangeSpec.witness_shaped (enc := enc) (C := Tryd.checked) (os := os) (X := (fun w _ => laidMetH Tryd.prog LAID w)) false (World.laidAll Tryd.prog os LAID) #[] 8 (World.laidAll_os _ _ _)
      (World.shaped_of_ZipB (by kernel_rfl) (by kernel_rfl)) (by kernel_rfl) (by kernel_rfl) (by kernel_rfl)
      (by rw [MakeChecks.laidMetH_plain _ _ _ (by kernel_rfl)]; exact laidMet_laidAll _ (by kernel_rfl) (by kernel_rfl))) ?_
  intro W base args ds gs before hval0 hW hcnd hsz0 hL hsh _
  have hval : ∀ (j : Nat) t v, Tryd.f3.params[j]? = some t → args[j]? = some v → Value.okWide Tryd.prog W .any base t v := hval0
  have hW' := hW
  obtain ⟨p, q, hA0, hV, rfl, hfz, hnd⟩ := hW
  have hA : DataW.TrodAll enc Tryd.prog W 0 (fun _ => true) true Tryd.f3.params.toList args.toList ds p := hA0
  rw [Tryd.params3] at hA hval
  obtain ⟨rfl, rfl, rfl⟩ := trodAll_none hA
  obtain ⟨rfl, rfl⟩ := trodVars_none hV
  simp only [List.append_nil] at hW'
  refine (walk  W  (lw_of hL hsh)).mono fun e W' ⟨he, bel⟩ => ?_
  subst he
  exact ⟨_, rfl, _, _, _, [], _, [], hW', trodAll_mk1 (shut_bool Tryd.underlying4 _), trodAll_mk0, rfl, bel.frame _, fun h => by cases h⟩

theorem over : Rows.stampsNamesRow.holds Tryd.pinned (OpenSpec.ofChange Rows.stampsNamesSpec) :=
  OpenClaim.holds_of_wide 3 Tryd.f3 rfl rfl rfl rfl rfl rfl rfl ⟨rfl, rfl, rfl, rfl, rfl⟩ rfl rfl rfl rfl rfl (by kernel_rfl) Tryd.func3 (by kernel_rfl)
    (of_decide_eq_true (by kernel_rfl)) (by unfold Func.isWrapper; first | (rw [if_pos (by decide +kernel)]; kernel_rfl) | (rw [if_neg (by decide +kernel)]; exact ⟨rfl, rfl⟩))
    (fun os started H enc _ => lifted os started H enc)

theorem proved : Rows.StampsNamesCardSaid :=
  Claim7.holds_tied_plain_at .later [] [.data, .data, .data, .data, .sentinel, .sentinel, .pinned] true (true, "5f12fa10b805fcb0d992aeb5db102955f99dabd546fdc4991e02cd6d2c5be258") true over (fun _ h => by cases h) (by kernel_rfl) (fun _ h => by cases h) stampsNames_row_tie rfl ⟨rfl, rfl⟩ (by kernel_rfl) rfl
    (fun f fn hf hfn => by
      obtain rfl : f = 3 := Option.some.inj ((show Tryd.prog.funcNamed "sublet/subletlaw04.StampsNames" = some 3 by kernel_rfl).symm.trans hf) |>.symm
      obtain rfl : fn = Tryd.f3 := (Option.some.inj (Tryd.func3.symm.trans hfn)).symm
      exact ⟨by kernel_rfl, fun j t ht => by
        rw [Tryd.params3] at ht
        simp at ht⟩)
    (by kernel_rfl)
#print axioms proved
end Go.Proofs.YtfbogdeodpkhcaaDoor.stampsNames
