/- SectorsNames returns true: the errors and limits of sectors are the document's. No condition. -/
import Derived.Test.YthncnkkpfcbkfaaDoorSj
import Derived.Test.YthncnkkpfcbkfaaDoorCards
namespace Go.Proofs.YthncnkkpfcbkfaaDoor.sectorsNames
open Go.ChangeShapes Go.WideShapes Go.ChangeAt Go.RowKit Go.PlainAid
open Go.ChangeMaps (open_string shut_string)

theorem own : ownKnob Tryd.prog.godebug = none := by kernel_rfl
theorem laidOut : laidOutB Tryd.prog = true := by kernel_rfl
theorem z188 (n : Nat) : (List.replicate n (0 : UInt8)).length = n := List.length_replicate
set_option maxRecDepth 100000 in
theorem pack188 (A : Option Addr) (W : World) (l : List UInt8) (hl : l.length = 188) (hv : ArgB W (.slice A 188 188) l) :
    Calls Tryd.prog 11 #[.int .i64 1073741824, .int .i64 1073741824, .slice A 188 188] W fun e w' => ∃ v, e = .returned (.tuple #[v, .int .i64 0]) ∧ Kp No W w' ∧ ∃ A' c', v = .slice A' 4 c' := by
  refine (pack_any 1073741824 1073741824 A 188 188 l W hv (by unfold maxLen; omega)).mono ?_
  rintro e w' ⟨v, rfl, hr, hk⟩
  have hp : packS 1073741824 1073741824 l = (partsS (1073741824 : Int).toNat (1073741824 : Int).toNat l, 0) := by unfold packS; rw [if_neg (by omega), if_neg (by omega)]
  rw [hp] at hr ⊢
  refine ⟨v, rfl, hk, ?_⟩
  obtain ⟨A', c', e, _⟩ := hr.cap.at_
  have h4 : chunkN l = 4 := by unfold chunkN; rw [hl]; rfl
  simp only [partsS_length, h4] at e
  exact ⟨A', c', e⟩
theorem mkz (n : Nat) (hn : n ≤ 140737488355328) : ∃ l : List UInt8, l.length = n ∧ ∀ W : World, (Instr.makeSlice 26 (.int .i64 n) (.int .i64 n)).run Tryd.prog W = .ok (.slice (some ⟨W.heap.size, 0, none⟩) n n) (W.alloc (.cells (u8s l).toArray 5)) :=
  ⟨List.replicate n 0, List.length_replicate, fun W => by
    have h := mk_bytes n hn W
    rw [← u8s_zero] at h
    exact h⟩
set_option maxRecDepth 100000 in
set_option maxHeartbeats 4000000 in
theorem walk (w : World) : Calls Tryd.prog 3 #[] w fun e w' => e = .returned (.bool true) ∧ Below w.heap.size w w' := by
  obtain ⟨l1, hl1, m1⟩ := mkz 188 (by omega)
  obtain ⟨l2, hl2, m2⟩ := mkz 189 (by omega)
  have m1 : ∀ W : World, (Instr.makeSlice 26 (.int .i64 188) (.int .i64 188)).run Tryd.prog W = .ok (.slice (some ⟨W.heap.size, 0, none⟩) 188 188) (W.alloc (.cells (u8s l1).toArray 5)) := m1
  have m2 : ∀ W : World, (Instr.makeSlice 26 (.int .i64 189) (.int .i64 189)).run Tryd.prog W = .ok (.slice (some ⟨W.heap.size, 0, none⟩) 189 189) (W.alloc (.cells (u8s l2).toArray 5)) := m2
  have HL1 := Lib.hid hl1; clear hl1 hl2
  go_enter Tryd.func3, Tryd.ntmps3
  go_wp2_with fail
  have c1 := pack188 (some ⟨w.heap.size, 0, none⟩) (w.alloc (.cells (u8s l1).toArray 5)) l1 HL1.out (by have := bk_argB' (Bk.new w 5 (u8s l1)) (c := 188) (by rw [HL1.out]; omega); rw [HL1.out] at this; exact this)
  refine c1.mono ?_
  clear c1
  rintro e w1 ⟨v1, rfl, k1, A1, c1, rfl⟩
  have K1 := Lib.hid (((Kp.refl No w).alloc _).trans k1)
  clear k1
  go_wp2_with fail
  refine (pack_range 1073741825 0 _ (by omega) w1).mono ?_
  rintro e w2 ⟨rfl, rfl⟩
  go_wp2_with fail
  refine (pack_range 1 1073741825 _ (by omega) w1).mono ?_
  rintro e w2 ⟨rfl, rfl⟩
  go_wp2_with fail
  refine (pack_long 1 0 _ 189 189 (by omega) (by omega) (by omega) (by omega) (by omega) _).mono ?_
  rintro e w2 ⟨rfl, rfl⟩
  have K2 := Lib.hid (K1.out.alloc (.cells (u8s l2).toArray 5)); clear K1
  go_wp2_with fail
  refine (awake_any _).mono ?_
  rintro e w3 ⟨rfl, k3⟩
  have K3 := Lib.hid (K2.out.trans k3); clear K2 k3
  go_wp2
  go_ret
  exact ⟨rfl, K3.out.below (Nat.le_refl _) (fun _ _ m => m)⟩

set_option maxRecDepth 100000 in
theorem lifted (os : Os) (started : os.Started) (H : Type) (enc : TypeId × Value → H) :
    ReturnsInHanded {} Tryd.checked os 3 .any (fun w args => (Rows.sectorsNamesSpec.pre enc Tryd.prog Tryd.f3 Rows.sectorsNamesRow.domain false w args ∧ laidMetH Tryd.prog [("unicode/utf8.acceptRanges", Rows.laid_unicode_utf8_acceptRanges), ("unicode/utf8.first", Rows.laid_unicode_utf8_first)] w) ∧ sizedMet enc Tryd.prog Tryd.f3 (OpenSpec.ofChange Rows.sectorsNamesSpec) false w args)
      (Rows.sectorsNamesSpec.post enc Tryd.prog Tryd.f3 false true false false) := by
  refine returnsInHanded_and_shaped (C := Tryd.checked) (X := (fun w _ => laidMetH Tryd.prog [("unicode/utf8.acceptRanges", Rows.laid_unicode_utf8_acceptRanges), ("unicode/utf8.first", Rows.laid_unicode_utf8_first)] w)) (fun _ _ _ hh h => h.of_heap hh) own started (by kernel_rfl) Tryd.func3
    (ChangeSpec.witness_shaped (enc := enc) (C := Tryd.checked) (os := os) (X := (fun w _ => laidMetH Tryd.prog [("unicode/utf8.acceptRanges", Rows.laid_unicode_utf8_acceptRanges), ("unicode/utf8.first", Rows.laid_unicode_utf8_first)] w)) false (World.laidAll Tryd.prog os [("unicode/utf8.acceptRanges", Rows.laid_unicode_utf8_acceptRanges), ("unicode/utf8.first", Rows.laid_unicode_utf8_first)]) #[] 8 (World.laidAll_os _ _ _)
      (World.shaped_of_ZipB (by kernel_rfl) (by kernel_rfl)) (by kernel_rfl) (by kernel_rfl) (by kernel_rfl)
      (by rw [MakeChecks.laidMetH_plain _ _ _ (by kernel_rfl)]; exact laidMet_laidAll _ (by kernel_rfl) (by kernel_rfl))) ?_
  intro W base args ds gs before hval0 hW hcnd hsz0 hL hsh _
  have hval : ∀ (j : Nat) t v, Tryd.f3.params[j]? = some t → args[j]? = some v → Value.okWide Tryd.prog W .any base t v := hval0
  have hW' := hW
  obtain ⟨p, q, hA0, hV, rfl, hfz, hnd⟩ := hW
  have hA : DataW.TrodAll enc Tryd.prog W 0 (fun _ => true) true Tryd.f3.params.toList args.toList ds p := hA0
  rw [Tryd.params3] at hA hval
  obtain ⟨rfl, rfl, rfl⟩ := trodAll_none hA
  obtain ⟨rfl, rfl⟩ := trodVars_none hV
  simp only [List.append_nil] at hW'
  refine (walk  W ).mono fun e W' ⟨he, bel⟩ => ?_
  subst he
  exact ⟨_, rfl, _, _, _, [], _, [], hW', trodAll_mk1 (shut_bool Tryd.underlying4 _), trodAll_mk0, rfl, bel.frame _, fun h => by cases h⟩

theorem over : Rows.sectorsNamesRow.holds Tryd.pinned (OpenSpec.ofChange Rows.sectorsNamesSpec) :=
  OpenClaim.holds_of_wide 3 Tryd.f3 rfl rfl rfl rfl rfl rfl rfl ⟨rfl, rfl, rfl, rfl, rfl⟩ rfl rfl rfl rfl rfl (by kernel_rfl) Tryd.func3 (by kernel_rfl)
    (of_decide_eq_true (by kernel_rfl)) (by unfold Func.isWrapper; first | (rw [if_pos (by decide +kernel)]; kernel_rfl) | (rw [if_neg (by decide +kernel)]; exact ⟨rfl, rfl⟩))
    (fun os started H enc _ => lifted os started H enc)

theorem proved : Rows.SectorsNamesCardSaid :=
  Claim7.holds_tied_plain_at .later [] [.data, .pinned] true (true, "dc3eabe4416708f3bf80b9d2489c313fb0226dd42c19edfe3363a148024dce7c") true over (fun _ h => by cases h) (by kernel_rfl) (fun _ h => by cases h) sectorsNames_row_tie rfl ⟨rfl, rfl⟩ (by kernel_rfl) rfl
    (fun f fn hf hfn => by
      obtain rfl : f = 3 := Option.some.inj ((show Tryd.prog.funcNamed "sublet/subletlaw10.SectorsNames" = some 3 by kernel_rfl).symm.trans hf) |>.symm
      obtain rfl : fn = Tryd.f3 := (Option.some.inj (Tryd.func3.symm.trans hfn)).symm
      exact ⟨by kernel_rfl, fun j t ht => by
        rw [Tryd.params3] at ht
        simp at ht⟩)
    (by kernel_rfl)
#print axioms proved
end Go.Proofs.YthncnkkpfcbkfaaDoor.sectorsNames
