/- PathsMeets returns true for any three texts: what two paths both cover is just what their Meet covers. No condition. -/
import Derived.Test.YtfbajcgkcamnnaaDoorK2
import Derived.Test.YtfbajcgkcamnnaaDoorCards
namespace Go.Proofs.YtfbajcgkcamnnaaDoor.pathsMeets
open Go.ChangeShapes Go.WideShapes Go.ChangeAt Go.RowKit Go.PlainAid
open Go.ChangeMaps (open_string shut_string)

theorem own : ownKnob Tryd.prog.godebug = none := by kernel_rfl
theorem laidOut : laidOutB Tryd.prog = true := by kernel_rfl

set_option maxRecDepth 100000 in
set_option maxHeartbeats 2000000 in
theorem walk (s0 s1 s2 : ByteArray) (w : World) (b0 : s0.size ≤ 140737488351232) (b1 : s1.size ≤ 140737488351232) (b2 : s2.size ≤ 140737488351232) (hsh : w.ShapedOpen Tryd.prog) : Calls Tryd.prog 9 #[.string s0, .string s1, .string s2] w fun e w' => e = .returned (.bool true) ∧ Below w.heap.size w w' := by
  have HM := Lib.hid (mx_of hsh); clear hsh
  have m0 : s0.size ≤ maxLen := by unfold maxLen; omega
  have n0 : s0.size < 9223372036854775807 := by omega
  have m1 : s1.size ≤ maxLen := by unfold maxLen; omega
  have n1 : s1.size < 9223372036854775807 := by omega
  have m2 : s2.size ≤ maxLen := by unfold maxLen; omega
  have n2 : s2.size < 9223372036854775807 := by omega
  have HU := Lib.hid (show overlapL s0.data.toList s1.data.toList = (coversL s0.data.toList s1.data.toList || coversL s1.data.toList s0.data.toList) from rfl)
  have HT := Lib.hid (@covers_trans s0.data.toList s1.data.toList s2.data.toList)
  have HT' := Lib.hid (@covers_trans s1.data.toList s0.data.toList s2.data.toList)
  have HW := Lib.hid (@covers_two s0.data.toList s1.data.toList s2.data.toList)
  have HV := Lib.hid (@covers_valid s0.data.toList s1.data.toList)
  have HV' := Lib.hid (@covers_valid s1.data.toList s0.data.toList)
  have HL := Lib.hid (meet_side s0 s1)
  have HS := Lib.hid (covers_self s0.data.toList)
  have HS' := Lib.hid (covers_self s1.data.toList)
  go_enter Tryd.func9, Tryd.ntmps9
  go_wp2_with fail
  refine (awake_any _ HM.out).mono ?_
  rintro e w1 ⟨rfl, k1⟩
  have M1 := Lib.hid (HM.out.no k1)
  have KB := Lib.hid (k1.below (Nat.le_refl _) (fun _ _ m => m))
  clear k1 M1 HM
  obtain ⟨c, hc⟩ : Bv (coversL s0.data.toList s2.data.toList) := ⟨_, rfl⟩
  obtain ⟨d, hd⟩ : Bv (coversL s1.data.toList s2.data.toList) := ⟨_, rfl⟩
  go_wp2_with fail
  refine (meet_any s0 s1 _ m0 m1).mono ?_
  rintro e wx ⟨rfl, hwx⟩
  obtain rfl := hwx
  rcases HL.out with ⟨ho, hm⟩ | ⟨ho, hm, ha⟩ | ⟨ho, hm, hb, f1, f2⟩
  · rw [hm]
    have h1 : c = true → d = true → False := fun x y => by
      subst x y
      rcases HW.out hc hd with h | h <;> rw [HU.out, h] at ho <;> simp at ho
    have H1 := Lib.hid h1
    clear HU HT HT' HW HV HV' HL hm h1 HS HS'
    cases c <;> cases d
    all_goals first | (exfalso; exact H1.out rfl rfl) | skip
    all_goals
      clear H1
      go_wp2_with (first | (go_at_call 12; refine (valid_at _ _ (by assumption) _ (by assumption)).mono ?_; rintro e wx ⟨rfl, hwx⟩; obtain rfl := hwx) | (go_at_call 23; refine (covers_at _ _ _ (by assumption) _ (by assumption) (by assumption)).mono ?_; rintro e wx ⟨rfl, hwx⟩; obtain rfl := hwx) | (go_at_call 25; refine (overlap_at _ _ _ (by assumption) _ (by assumption) (by assumption)).mono ?_; rintro e wx ⟨rfl, hwx⟩; obtain rfl := hwx) | (go_at_call 17; refine (depth_any _ _ (by assumption)).mono ?_; rintro e wx ⟨rfl, hwx⟩; obtain rfl := hwx) | (go_at_call 27; refine (compare_at _ _ _ (by assumption) _).mono ?_; rintro e wx ⟨rfl, hwx⟩; obtain rfl := hwx))
      go_ret
      exact ⟨rfl, KB.out⟩
  · rw [hm]
    have h11 : coversL s1.data.toList s1.data.toList = true := by rw [HS'.out]; exact (HV.out ha).2
    have h1 : d = true → c = true := fun x => by subst x; rw [← hc]; exact HT.out ha hd
    have H1 := Lib.hid h1
    clear HU HT HT' HW HV HV' HL hm h1 HS HS'
    by_cases he : s1 = s0
    · subst he
      cases d
      all_goals
        clear H1
        go_wp2_with (first | (go_at_call 12; refine (valid_at _ _ (by assumption) _ (by assumption)).mono ?_; rintro e wx ⟨rfl, hwx⟩; obtain rfl := hwx) | (go_at_call 23; refine (covers_at _ _ _ (by assumption) _ (by assumption) (by assumption)).mono ?_; rintro e wx ⟨rfl, hwx⟩; obtain rfl := hwx) | (go_at_call 25; refine (overlap_at _ _ _ (by assumption) _ (by assumption) (by assumption)).mono ?_; rintro e wx ⟨rfl, hwx⟩; obtain rfl := hwx) | (go_at_call 17; refine (depth_any _ _ (by assumption)).mono ?_; rintro e wx ⟨rfl, hwx⟩; obtain rfl := hwx) | (go_at_call 27; refine (compare_at _ _ _ (by assumption) _).mono ?_; rintro e wx ⟨rfl, hwx⟩; obtain rfl := hwx))
        go_ret
        exact ⟨rfl, KB.out⟩
    · obtain ⟨f1, f2⟩ := str_eq_facts s1 s0 he
      clear he
      cases d <;> cases c
      all_goals first | (exfalso; exact absurd (H1.out rfl) (by decide)) | skip
      all_goals
        clear H1
        go_wp2_with (first | (go_at_call 12; refine (valid_at _ _ (by assumption) _ (by assumption)).mono ?_; rintro e wx ⟨rfl, hwx⟩; obtain rfl := hwx) | (go_at_call 23; refine (covers_at _ _ _ (by assumption) _ (by assumption) (by assumption)).mono ?_; rintro e wx ⟨rfl, hwx⟩; obtain rfl := hwx) | (go_at_call 25; refine (overlap_at _ _ _ (by assumption) _ (by assumption) (by assumption)).mono ?_; rintro e wx ⟨rfl, hwx⟩; obtain rfl := hwx) | (go_at_call 17; refine (depth_any _ _ (by assumption)).mono ?_; rintro e wx ⟨rfl, hwx⟩; obtain rfl := hwx) | (go_at_call 27; refine (compare_at _ _ _ (by assumption) _).mono ?_; rintro e wx ⟨rfl, hwx⟩; obtain rfl := hwx))
        go_ret
        exact ⟨rfl, KB.out⟩
  · rw [hm]
    have h00 : coversL s0.data.toList s0.data.toList = true := by rw [HS.out]; exact (HV'.out hb).2
    have h1 : c = true → d = true := fun x => by subst x; rw [← hd]; exact HT'.out hb hc
    have H1 := Lib.hid h1
    clear HU HT HT' HW HV HV' HL hm h1 HS HS'
    cases c <;> cases d
    all_goals first | (exfalso; exact absurd (H1.out rfl) (by decide)) | skip
    all_goals
      clear H1
      go_wp2_with (first | (go_at_call 12; refine (valid_at _ _ (by assumption) _ (by assumption)).mono ?_; rintro e wx ⟨rfl, hwx⟩; obtain rfl := hwx) | (go_at_call 23; refine (covers_at _ _ _ (by assumption) _ (by assumption) (by assumption)).mono ?_; rintro e wx ⟨rfl, hwx⟩; obtain rfl := hwx) | (go_at_call 25; refine (overlap_at _ _ _ (by assumption) _ (by assumption) (by assumption)).mono ?_; rintro e wx ⟨rfl, hwx⟩; obtain rfl := hwx) | (go_at_call 17; refine (depth_any _ _ (by assumption)).mono ?_; rintro e wx ⟨rfl, hwx⟩; obtain rfl := hwx) | (go_at_call 27; refine (compare_at _ _ _ (by assumption) _).mono ?_; rintro e wx ⟨rfl, hwx⟩; obtain rfl := hwx))
      go_ret
      exact ⟨rfl, KB.out⟩

set_option maxRecDepth 100000 in
theorem lifted (os : Os) (started : os.Started) (H : Type) (enc : TypeId × Value → H) :
    ReturnsInHanded {} Tryd.checked os 9 .any (fun w args => (Rows.pathsMeetsSpec.pre enc Tryd.prog Tryd.f9 Rows.pathsMeetsRow.domain false w args ∧ laidMetH Tryd.prog [("unicode/utf8.acceptRanges", Rows.laid_unicode_utf8_acceptRanges), ("unicode/utf8.first", Rows.laid_unicode_utf8_first)] w) ∧ sizedMet enc Tryd.prog Tryd.f9 (OpenSpec.ofChange Rows.pathsMeetsSpec) false w args)
      (Rows.pathsMeetsSpec.post enc Tryd.prog Tryd.f9 false true false false) := by
  refine returnsInHanded_and_shaped (C := Tryd.checked) (X := (fun w _ => laidMetH Tryd.prog [("unicode/utf8.acceptRanges", Rows.laid_unicode_utf8_acceptRanges), ("unicode/utf8.first", Rows.laid_unicode_utf8_first)] w)) (fun _ _ _ hh h => h.of_heap hh) own started (by kernel_rfl) Tryd.func9
    (ChangeSpec.witness_shaped (enc := enc) (C := Tryd.checked) (os := os) (X := (fun w _ => laidMetH Tryd.prog [("unicode/utf8.acceptRanges", Rows.laid_unicode_utf8_acceptRanges), ("unicode/utf8.first", Rows.laid_unicode_utf8_first)] w)) false (World.laidAll Tryd.prog os [("unicode/utf8.acceptRanges", Rows.laid_unicode_utf8_acceptRanges), ("unicode/utf8.first", Rows.laid_unicode_utf8_first)]) #[.string ⟨#[]⟩, .string ⟨#[]⟩, .string ⟨#[]⟩] 8 (World.laidAll_os _ _ _)
      (World.shaped_of_ZipB (by kernel_rfl) (by kernel_rfl)) (by kernel_rfl) (by kernel_rfl) (by kernel_rfl)
      (by rw [MakeChecks.laidMetH_plain _ _ _ (by kernel_rfl)]; exact laidMet_laidAll _ (by kernel_rfl) (by kernel_rfl))) ?_
  intro W base args ds gs before hval0 hW hcnd hsz0 hL hsh _
  have hval : ∀ (j : Nat) t v, Tryd.f9.params[j]? = some t → args[j]? = some v → Value.okWide Tryd.prog W .any base t v := hval0
  have hW' := hW
  obtain ⟨p, q, hA0, hV, rfl, hfz, hnd⟩ := hW
  have hA : DataW.TrodAll enc Tryd.prog W 0 (fun _ => true) true Tryd.f9.params.toList args.toList ds p := hA0
  rw [Tryd.params9] at hA hval
  obtain ⟨v0, vs0, d0, ds0, p0, q0, hargs, rfl, rfl, h0, r0⟩ := trodAll_cons hA
  obtain ⟨v1, vs1, d1, ds1, p1, q1, rfl, rfl, rfl, h1, r1⟩ := trodAll_cons r0
  obtain ⟨v2, vs2, d2, ds2, p2, q2, rfl, rfl, rfl, h2, r2⟩ := trodAll_cons r1
  obtain ⟨rfl, rfl, rfl⟩ := trodAll_nil r2
  obtain rfl : args = #[v0, v1, v2] := by cases args; simp_all
  obtain ⟨rfl, rfl⟩ := trodVars_none hV
  have hsz : ∀ (j : Nat) (t : TypeId) (d : DataW H), ([9, 9, 9] : List TypeId)[j]? = some t → [d0, d1, d2][j]? = some d → ∀ n ∈ d.weights Tryd.prog t, n ≤ reachBytes := by
    intro j t d ht hd n hn
    have hsz1 : (DataW.weightsEach Tryd.prog ([9, 9, 9] : List TypeId) [d0, d1, d2]).all (· ≤ reachBytes) = true := hsz0
    have := List.all_eq_true.1 hsz1 n (DataW.weights_mem_each ht hd n hn)
    simpa using this
  have k0 := h0
  have lt0 : ∀ x ∈ p0, x.block < W.heap.size := by obtain ⟨m, hm⟩ := k0; exact DataW.trod_lt m _ _ _ hm
  obtain ⟨s0, rfl, rfl, rfl, w0⟩ := open_string Tryd.underlying9 (hval 0 9 v0 rfl rfl) h0
  have b0 : s0.size ≤ 140737488351232 := by have := hsz 0 9 _ rfl rfl s0.data.toList.length (by simp [DataW.weights]); simpa [reachBytes] using this
  have k1 := h1
  have lt1 : ∀ x ∈ p1, x.block < W.heap.size := by obtain ⟨m, hm⟩ := k1; exact DataW.trod_lt m _ _ _ hm
  obtain ⟨s1, rfl, rfl, rfl, w1⟩ := open_string Tryd.underlying9 (hval 1 9 v1 rfl rfl) h1
  have b1 : s1.size ≤ 140737488351232 := by have := hsz 1 9 _ rfl rfl s1.data.toList.length (by simp [DataW.weights]); simpa [reachBytes] using this
  have k2 := h2
  have lt2 : ∀ x ∈ p2, x.block < W.heap.size := by obtain ⟨m, hm⟩ := k2; exact DataW.trod_lt m _ _ _ hm
  obtain ⟨s2, rfl, rfl, rfl, w2⟩ := open_string Tryd.underlying9 (hval 2 9 v2 rfl rfl) h2
  have b2 : s2.size ≤ 140737488351232 := by have := hsz 2 9 _ rfl rfl s2.data.toList.length (by simp [DataW.weights]); simpa [reachBytes] using this
  refine (walk s0 s1 s2 W b0 b1 b2 hsh).mono fun e W' ⟨he, bel⟩ => ?_
  subst he
  exact ⟨_, rfl, _, _, _, [], _, [], hW', trodAll_mk1 (shut_bool Tryd.underlying4 _), (trodAll_cons_mk (Below.trod laidOut (by kernel_rfl) (of_decide_eq_true (by kernel_rfl)) k0 bel lt0) (trodAll_cons_mk (Below.trod laidOut (by kernel_rfl) (of_decide_eq_true (by kernel_rfl)) k1 bel lt1) (trodAll_cons_mk (Below.trod laidOut (by kernel_rfl) (of_decide_eq_true (by kernel_rfl)) k2 bel lt2) trodAll_mk0))), rfl, bel.frame _, fun h => by cases h⟩

theorem over : Rows.pathsMeetsRow.holds Tryd.pinned (OpenSpec.ofChange Rows.pathsMeetsSpec) :=
  OpenClaim.holds_of_wide 9 Tryd.f9 rfl rfl rfl rfl rfl rfl rfl ⟨rfl, rfl, rfl, rfl, rfl⟩ rfl rfl rfl rfl rfl (by kernel_rfl) Tryd.func9 (by kernel_rfl)
    (of_decide_eq_true (by kernel_rfl)) (by unfold Func.isWrapper; first | (rw [if_pos (by decide +kernel)]; kernel_rfl) | (rw [if_neg (by decide +kernel)]; exact ⟨rfl, rfl⟩))
    (fun os started H enc _ => lifted os started H enc)

theorem proved : Rows.PathsMeetsCardSaid :=
  Claim7.holds_tied_plain_at .later [] [.data, .pinned] true (true, "b0747c0908a156516a929e9484f089a83caf480c3f33ea476e752292b81b8aab") false over (fun _ h => by cases h) (by kernel_rfl) (fun _ h => by cases h) pathsMeets_row_tie rfl ⟨rfl, rfl⟩ (by kernel_rfl) rfl
    (fun f fn hf hfn => by
      obtain rfl : f = 9 := Option.some.inj ((show Tryd.prog.funcNamed "sublet/subletlaw01.PathsMeets" = some 9 by kernel_rfl).symm.trans hf) |>.symm
      obtain rfl : fn = Tryd.f9 := (Option.some.inj (Tryd.func9.symm.trans hfn)).symm
      exact ⟨by kernel_rfl, fun j t ht => by
        rw [Tryd.params9] at ht
        have hm : t ∈ ([9, 9, 9] : List TypeId) := by simpa using Array.mem_of_getElem? ht
        have hall : (([9, 9, 9] : List TypeId).all fun u => !Tryd.prog.wantsStandIn u) = true := by kernel_rfl
        exact (show Tryd.prog.wantsStandIn t = false by simpa using List.all_eq_true.1 hall t hm)⟩)
    (by kernel_rfl)
#print axioms proved
end Go.Proofs.YtfbajcgkcamnnaaDoor.pathsMeets
