/- PathsJoins returns true for every list of texts: Join answers what the document says. No condition. -/
import Derived.Test.YtfbajcgkcamnnaaDoorK
import Derived.Test.YtfbajcgkcamnnaaDoorCards
namespace Go.Proofs.YtfbajcgkcamnnaaDoor.pathsJoins
open Go.ChangeShapes Go.WideShapes Go.ChangeAt Go.RowKit Go.PlainAid
open Go.ChangeMaps (open_string shut_string)

theorem own : ownKnob Tryd.prog.godebug = none := by kernel_rfl
theorem laidOut : laidOutB Tryd.prog = true := by kernel_rfl

set_option maxRecDepth 100000 in
set_option maxHeartbeats 2000000 in
theorem walk (v : Value) (L : List ByteArray) (w : World) (hv : ArgStrs w v L) (hL : L.length ≤ 8796093022208) (hz : ∀ x ∈ L, x.size ≤ maxLen) (hsh : w.ShapedOpen Tryd.prog) : Calls Tryd.prog 5 #[v] w fun e w' => e = .returned (.bool true) ∧ Below w.heap.size w w' := by
  have HM := Lib.hid (mx_of hsh); clear hsh
  have HZ := Lib.hid hz; clear hz
  have HV := Lib.hid hv
  obtain ⟨A, c, rfl, hc, hcs⟩ := hv
  have CS := Lib.hid hcs; clear hcs
  go_enter Tryd.func5, Tryd.ntmps5
  go_wp2_with fail
  refine (awake_any _ HM.out).mono ?_
  rintro e w1 ⟨rfl, k1⟩
  have M1 := Lib.hid (HM.out.no k1)
  go_wp2_with (at_builtin; refine wpList_appN _ rfl _ _ 24 rfl w.heap.size 9 _ 16 Tryd.underlying24 Tryd.info9 rfl _ 0 0 [] rfl (own_fresh _ _ _ k1.size) A L.length c (L.map Value.string) rfl (by simp) (by exact ArgStrs.cs (HV.out.no (k1.alloc _))) (by simp [Value.oneCell']) (by omega) (by omega) (by have := k1.size; simp; omega) ?_; intro g1 cap1 w2 hown hk2 hat)
  have kk := (k1.alloc _).then_ hk2 fun i hi e => by have := k1.size; omega
  clear hk2 k1
  have hv2 : ArgStrs w2 (.slice (some ⟨g1, 0, none⟩) (0 + L.length) cap1) L := own_arg (by simpa using hown)
  rw [Nat.zero_add] at hv2
  have HV2 := Lib.hid hv2
  have HK := Lib.hid kk
  clear hown hat hv2 kk
  go_wp2_with fail
  refine (join_uni _ L _ HV2.out HZ.out).mono ?_
  rintro e w3 ⟨rfl, k3⟩
  go_wp2_with fail
  refine (rjoin_uni _ L _ (HV.out.no (HK.out.trans k3))).mono ?_
  rintro e w4 ⟨rfl, k4⟩
  generalize (joinL (tx L)).getD [] = x
  go_wp2
  go_ret
  exact ⟨rfl, (HK.out.trans (k3.trans k4)).below (Nat.le_refl _) (fun _ _ m => m)⟩

set_option maxRecDepth 100000 in
theorem lifted (os : Os) (started : os.Started) (H : Type) (enc : TypeId × Value → H) :
    ReturnsInHanded {} Tryd.checked os 5 .any (fun w args => (Rows.pathsJoinsSpec.pre enc Tryd.prog Tryd.f5 Rows.pathsJoinsRow.domain false w args ∧ laidMetH Tryd.prog [("unicode/utf8.acceptRanges", Rows.laid_unicode_utf8_acceptRanges), ("unicode/utf8.first", Rows.laid_unicode_utf8_first)] w) ∧ sizedMet enc Tryd.prog Tryd.f5 (OpenSpec.ofChange Rows.pathsJoinsSpec) false w args)
      (Rows.pathsJoinsSpec.post enc Tryd.prog Tryd.f5 false true false false) := by
  refine returnsInHanded_and_shaped (C := Tryd.checked) (X := (fun w _ => laidMetH Tryd.prog [("unicode/utf8.acceptRanges", Rows.laid_unicode_utf8_acceptRanges), ("unicode/utf8.first", Rows.laid_unicode_utf8_first)] w)) (fun _ _ _ hh h => h.of_heap hh) own started (by kernel_rfl) Tryd.func5
    (ChangeSpec.witness_shaped (enc := enc) (C := Tryd.checked) (os := os) (X := (fun w _ => laidMetH Tryd.prog [("unicode/utf8.acceptRanges", Rows.laid_unicode_utf8_acceptRanges), ("unicode/utf8.first", Rows.laid_unicode_utf8_first)] w)) false (World.laidAll Tryd.prog os [("unicode/utf8.acceptRanges", Rows.laid_unicode_utf8_acceptRanges), ("unicode/utf8.first", Rows.laid_unicode_utf8_first)]) #[.slice none 0 0] 8 (World.laidAll_os _ _ _)
      (World.shaped_of_ZipB (by kernel_rfl) (by kernel_rfl)) (by kernel_rfl) (by kernel_rfl) (by kernel_rfl)
      (by rw [MakeChecks.laidMetH_plain _ _ _ (by kernel_rfl)]; exact laidMet_laidAll _ (by kernel_rfl) (by kernel_rfl))) ?_
  intro W base args ds gs before hval0 hW hcnd hsz0 hL hsh _
  have hval : ∀ (j : Nat) t v, Tryd.f5.params[j]? = some t → args[j]? = some v → Value.okWide Tryd.prog W .any base t v := hval0
  have hW' := hW
  obtain ⟨p, q, hA0, hV, rfl, hfz, hnd⟩ := hW
  have hA : DataW.TrodAll enc Tryd.prog W 0 (fun _ => true) true Tryd.f5.params.toList args.toList ds p := hA0
  rw [Tryd.params5] at hA hval
  obtain ⟨v0, vs0, d0, ds0, p0, q0, hargs, rfl, rfl, h0, r0⟩ := trodAll_cons hA
  obtain ⟨rfl, rfl, rfl⟩ := trodAll_nil r0
  obtain rfl : args = #[v0] := by cases args; simp_all
  obtain ⟨rfl, rfl⟩ := trodVars_none hV
  have hsz : ∀ (j : Nat) (t : TypeId) (d : DataW H), ([24] : List TypeId)[j]? = some t → [d0][j]? = some d → ∀ n ∈ d.weights Tryd.prog t, n ≤ reachBytes := by
    intro j t d ht hd n hn
    have hsz1 : (DataW.weightsEach Tryd.prog ([24] : List TypeId) [d0]).all (· ≤ reachBytes) = true := hsz0
    have := List.all_eq_true.1 hsz1 n (DataW.weights_mem_each ht hd n hn)
    simpa using this
  have k0 := h0
  have lt0 : ∀ x ∈ p0, x.block < W.heap.size := by obtain ⟨m, hm⟩ := k0; exact DataW.trod_lt m _ _ _ hm
  obtain ⟨L0, a0, l0, z0⟩ := open_strs Tryd.underlying24 Tryd.underlying9 (by kernel_rfl) (by kernel_rfl) (hval 0 24 v0 rfl rfl) h0 (hsz 0 24 _ rfl rfl)
  refine (walk v0 L0 W a0 l0 z0 hsh).mono fun e W' ⟨he, bel⟩ => ?_
  subst he
  exact ⟨_, rfl, _, _, _, [], _, [], hW', trodAll_mk1 (shut_bool Tryd.underlying4 _), (trodAll_cons_mk (Below.trod laidOut (by kernel_rfl) (of_decide_eq_true (by kernel_rfl)) k0 bel lt0) trodAll_mk0), rfl, bel.frame _, fun h => by cases h⟩

theorem over : Rows.pathsJoinsRow.holds Tryd.pinned (OpenSpec.ofChange Rows.pathsJoinsSpec) :=
  OpenClaim.holds_of_wide 5 Tryd.f5 rfl rfl rfl rfl rfl rfl rfl ⟨rfl, rfl, rfl, rfl, rfl⟩ rfl rfl rfl rfl rfl (by kernel_rfl) Tryd.func5 (by kernel_rfl)
    (of_decide_eq_true (by kernel_rfl)) (by unfold Func.isWrapper; first | (rw [if_pos (by decide +kernel)]; kernel_rfl) | (rw [if_neg (by decide +kernel)]; exact ⟨rfl, rfl⟩))
    (fun os started H enc _ => lifted os started H enc)

theorem proved : Rows.PathsJoinsCardSaid :=
  Claim7.holds_tied_plain_at .later [] [.data, .pinned] true (true, "b0747c0908a156516a929e9484f089a83caf480c3f33ea476e752292b81b8aab") false over (fun _ h => by cases h) (by kernel_rfl) (fun _ h => by cases h) pathsJoins_row_tie rfl ⟨rfl, rfl⟩ (by kernel_rfl) rfl
    (fun f fn hf hfn => by
      obtain rfl : f = 5 := Option.some.inj ((show Tryd.prog.funcNamed "sublet/subletlaw01.PathsJoins" = some 5 by kernel_rfl).symm.trans hf) |>.symm
      obtain rfl : fn = Tryd.f5 := (Option.some.inj (Tryd.func5.symm.trans hfn)).symm
      exact ⟨by kernel_rfl, fun j t ht => by
        rw [Tryd.params5] at ht
        have hm : t ∈ ([24] : List TypeId) := by simpa using Array.mem_of_getElem? ht
        have hall : (([24] : List TypeId).all fun u => !Tryd.prog.wantsStandIn u) = true := by kernel_rfl
        exact (show Tryd.prog.wantsStandIn t = false by simpa using List.all_eq_true.1 hall t hm)⟩)
    (by kernel_rfl)
#print axioms proved
end Go.Proofs.YtfbajcgkcamnnaaDoor.pathsJoins
