/- PathsOrder returns true for any three texts: covering is an order of paths, overlapping goes both ways, and Compare is an order. No condition. -/
import Derived.Test.YtfbajcgkcamnnaaDoorK2
import Derived.Test.YtfbajcgkcamnnaaDoorCards
namespace Go.Proofs.YtfbajcgkcamnnaaDoor.pathsOrder
open Go.ChangeShapes Go.WideShapes Go.ChangeAt Go.RowKit Go.PlainAid
open Go.ChangeMaps (open_string shut_string)

theorem own : ownKnob Tryd.prog.godebug = none := by kernel_rfl
theorem laidOut : laidOutB Tryd.prog = true := by kernel_rfl

set_option maxRecDepth 100000 in
set_option maxHeartbeats 2000000 in
theorem walk (s0 s1 s2 : ByteArray) (w : World) (b0 : s0.size ≤ 140737488351232) (b1 : s1.size ≤ 140737488351232) (b2 : s2.size ≤ 140737488351232) (hsh : w.ShapedOpen Tryd.prog) : Calls Tryd.prog 8 #[.string s0, .string s1, .string s2] w fun e w' => e = .returned (.bool true) ∧ Below w.heap.size w w' := by
  have HM := Lib.hid (mx_of hsh); clear hsh
  have m0 : s0.size ≤ maxLen := by unfold maxLen; omega
  have n0 : s0.size < 9223372036854775807 := by omega
  have m1 : s1.size ≤ maxLen := by unfold maxLen; omega
  have n1 : s1.size < 9223372036854775807 := by omega
  have m2 : s2.size ≤ maxLen := by unfold maxLen; omega
  have n2 : s2.size < 9223372036854775807 := by omega
  have HS := Lib.hid (covers_self s0.data.toList)
  have HO := Lib.hid (overlap_comm s1.data.toList s0.data.toList)
  have HC := Lib.hid (cmp_three s0.data.toList s1.data.toList)
  have HA := Lib.hid (@covers_anti s0.data.toList s1.data.toList)
  have HT := Lib.hid (@covers_trans s0.data.toList s1.data.toList s2.data.toList)
  have HW := Lib.hid (@covers_two s0.data.toList s1.data.toList s2.data.toList)
  have HV := Lib.hid (@covers_valid s0.data.toList s1.data.toList)
  have HD := Lib.hid (@covers_depth s0.data.toList s1.data.toList)
  have HD' := Lib.hid (@covers_depth' s0.data.toList s1.data.toList)
  have HE := Lib.hid (@covers_cmp s0.data.toList s1.data.toList)
  have HR := Lib.hid (cmp_trans s0.data.toList s1.data.toList s2.data.toList)
  have HU := Lib.hid (show overlapL s0.data.toList s1.data.toList = (coversL s0.data.toList s1.data.toList || coversL s1.data.toList s0.data.toList) from rfl)
  go_enter Tryd.func8, Tryd.ntmps8
  go_wp2_with fail
  refine (awake_any _ HM.out).mono ?_
  rintro e w1 ⟨rfl, k1⟩
  have M1 := Lib.hid (HM.out.no k1)
  have KB := Lib.hid (k1.below (Nat.le_refl _) (fun _ _ m => m))
  clear k1 M1 HM
  have hv0 : Bv (path s0.data.toList).isSome := ⟨_, rfl⟩
  obtain ⟨p0, hp0⟩ := hv0
  go_upto_region 3 with (fail)
  go_cut [43] (fun s wx => s = .bool false ∧ w1 = wx)
  case first =>
    have h00 : coversL s0.data.toList s0.data.toList = p0 := by rw [HS.out, hp0]
    obtain ⟨o, ho⟩ : Bv (overlapL s0.data.toList s1.data.toList) := ⟨_, rfl⟩
    have ho' : overlapL s1.data.toList s0.data.toList = o := by rw [HO.out, ho]
    clear HT HW HV HD HD' HE HR HU HA HS HO
    rcases HC.out with ⟨c1, c2, c3⟩ | ⟨c1, c2, c3⟩ | ⟨c1, c2, c3⟩
    · obtain rfl := str_inj c3
      clear c3 HC c2 ho'
      go_wp2_with (first | (go_at_call 12; refine (valid_at _ _ (by assumption) _ (by assumption)).mono ?_; rintro e wx ⟨rfl, hwx⟩; obtain rfl := hwx) | (go_at_call 23; refine (covers_at _ _ _ (by assumption) _ (by assumption) (by assumption)).mono ?_; rintro e wx ⟨rfl, hwx⟩; obtain rfl := hwx) | (go_at_call 25; refine (overlap_at _ _ _ (by assumption) _ (by assumption) (by assumption)).mono ?_; rintro e wx ⟨rfl, hwx⟩; obtain rfl := hwx) | (go_at_call 17; refine (depth_any _ _ (by assumption)).mono ?_; rintro e wx ⟨rfl, hwx⟩; obtain rfl := hwx) | (go_at_call 27; refine (compare_at _ _ _ (by assumption) _).mono ?_; rintro e wx ⟨rfl, hwx⟩; obtain rfl := hwx))
      go_meet
      exact ⟨rfl, rfl⟩
    · obtain ⟨f1, f2⟩ := str_eq_facts s0 s1 (fun e => c3 (by rw [e]))
      clear c3 HC
      go_wp2_with (first | (go_at_call 12; refine (valid_at _ _ (by assumption) _ (by assumption)).mono ?_; rintro e wx ⟨rfl, hwx⟩; obtain rfl := hwx) | (go_at_call 23; refine (covers_at _ _ _ (by assumption) _ (by assumption) (by assumption)).mono ?_; rintro e wx ⟨rfl, hwx⟩; obtain rfl := hwx) | (go_at_call 25; refine (overlap_at _ _ _ (by assumption) _ (by assumption) (by assumption)).mono ?_; rintro e wx ⟨rfl, hwx⟩; obtain rfl := hwx) | (go_at_call 17; refine (depth_any _ _ (by assumption)).mono ?_; rintro e wx ⟨rfl, hwx⟩; obtain rfl := hwx) | (go_at_call 27; refine (compare_at _ _ _ (by assumption) _).mono ?_; rintro e wx ⟨rfl, hwx⟩; obtain rfl := hwx))
      go_meet
      exact ⟨rfl, rfl⟩
    · obtain ⟨f1, f2⟩ := str_eq_facts s0 s1 (fun e => c3 (by rw [e]))
      clear c3 HC
      go_wp2_with (first | (go_at_call 12; refine (valid_at _ _ (by assumption) _ (by assumption)).mono ?_; rintro e wx ⟨rfl, hwx⟩; obtain rfl := hwx) | (go_at_call 23; refine (covers_at _ _ _ (by assumption) _ (by assumption) (by assumption)).mono ?_; rintro e wx ⟨rfl, hwx⟩; obtain rfl := hwx) | (go_at_call 25; refine (overlap_at _ _ _ (by assumption) _ (by assumption) (by assumption)).mono ?_; rintro e wx ⟨rfl, hwx⟩; obtain rfl := hwx) | (go_at_call 17; refine (depth_any _ _ (by assumption)).mono ?_; rintro e wx ⟨rfl, hwx⟩; obtain rfl := hwx) | (go_at_call 27; refine (compare_at _ _ _ (by assumption) _).mono ?_; rintro e wx ⟨rfl, hwx⟩; obtain rfl := hwx))
      go_meet
      exact ⟨rfl, rfl⟩
  case rest =>
  obtain ⟨rfl, rfl⟩ := hcut
  go_upto_region 5 with (fail)
  go_cut [71] (fun s wx => s = .bool false ∧ w1 = wx)
  case first =>
    clear HT HW HD HD' HR HU HS HO hp0
    cases ha : coversL s0.data.toList s1.data.toList with
    | false =>
      clear HC HA HV HE
      go_wp2_with (first | (go_at_call 12; refine (valid_at _ _ (by assumption) _ (by assumption)).mono ?_; rintro e wx ⟨rfl, hwx⟩; obtain rfl := hwx) | (go_at_call 23; refine (covers_at _ _ _ (by assumption) _ (by assumption) (by assumption)).mono ?_; rintro e wx ⟨rfl, hwx⟩; obtain rfl := hwx) | (go_at_call 25; refine (overlap_at _ _ _ (by assumption) _ (by assumption) (by assumption)).mono ?_; rintro e wx ⟨rfl, hwx⟩; obtain rfl := hwx) | (go_at_call 17; refine (depth_any _ _ (by assumption)).mono ?_; rintro e wx ⟨rfl, hwx⟩; obtain rfl := hwx) | (go_at_call 27; refine (compare_at _ _ _ (by assumption) _).mono ?_; rintro e wx ⟨rfl, hwx⟩; obtain rfl := hwx))
      go_meet
      exact ⟨rfl, rfl⟩
    | true =>
      obtain ⟨v0, v1⟩ := HV.out ha
      have le := HE.out ha
      rcases HC.out with ⟨c1, c2, c3⟩ | ⟨c1, c2, c3⟩ | ⟨c1, c2, c3⟩
      · obtain rfl := str_inj c3
        clear c3 HC HA HV HE c2 le v1
        go_wp2_with (first | (go_at_call 12; refine (valid_at _ _ (by assumption) _ (by assumption)).mono ?_; rintro e wx ⟨rfl, hwx⟩; obtain rfl := hwx) | (go_at_call 23; refine (covers_at _ _ _ (by assumption) _ (by assumption) (by assumption)).mono ?_; rintro e wx ⟨rfl, hwx⟩; obtain rfl := hwx) | (go_at_call 25; refine (overlap_at _ _ _ (by assumption) _ (by assumption) (by assumption)).mono ?_; rintro e wx ⟨rfl, hwx⟩; obtain rfl := hwx) | (go_at_call 17; refine (depth_any _ _ (by assumption)).mono ?_; rintro e wx ⟨rfl, hwx⟩; obtain rfl := hwx) | (go_at_call 27; refine (compare_at _ _ _ (by assumption) _).mono ?_; rintro e wx ⟨rfl, hwx⟩; obtain rfl := hwx))
        go_meet
        exact ⟨rfl, rfl⟩
      · obtain ⟨f1, f2⟩ := str_eq_facts s0 s1 (fun e => c3 (by rw [e]))
        have hb : coversL s1.data.toList s0.data.toList = false := by rw [Bool.eq_false_iff]; intro h; exact c3 (HA.out ha h)
        clear c3 HC HA HV HE le
        go_wp2_with (first | (go_at_call 12; refine (valid_at _ _ (by assumption) _ (by assumption)).mono ?_; rintro e wx ⟨rfl, hwx⟩; obtain rfl := hwx) | (go_at_call 23; refine (covers_at _ _ _ (by assumption) _ (by assumption) (by assumption)).mono ?_; rintro e wx ⟨rfl, hwx⟩; obtain rfl := hwx) | (go_at_call 25; refine (overlap_at _ _ _ (by assumption) _ (by assumption) (by assumption)).mono ?_; rintro e wx ⟨rfl, hwx⟩; obtain rfl := hwx) | (go_at_call 17; refine (depth_any _ _ (by assumption)).mono ?_; rintro e wx ⟨rfl, hwx⟩; obtain rfl := hwx) | (go_at_call 27; refine (compare_at _ _ _ (by assumption) _).mono ?_; rintro e wx ⟨rfl, hwx⟩; obtain rfl := hwx))
        go_meet
        exact ⟨rfl, rfl⟩
      · omega
  case rest =>
  obtain ⟨rfl, rfl⟩ := hcut
  go_upto_region 7 with (fail)
  go_cut [101] (fun s wx => s = .bool false ∧ w1 = wx)
  case first =>
    clear HC HA HV HD HD' HE HR HS HO hp0
    obtain ⟨a, ha⟩ : Bv (coversL s0.data.toList s1.data.toList) := ⟨_, rfl⟩
    obtain ⟨c, hc⟩ : Bv (coversL s1.data.toList s2.data.toList) := ⟨_, rfl⟩
    obtain ⟨d, hd⟩ : Bv (coversL s0.data.toList s2.data.toList) := ⟨_, rfl⟩
    obtain ⟨o, ho⟩ : Bv (overlapL s0.data.toList s1.data.toList) := ⟨_, rfl⟩
    have h1 : a = true → c = true → d = true := fun x y => by subst x y; rw [← hd]; exact HT.out ha hc
    have h2 : d = true → c = true → o = true := fun x y => by
      subst x y; rw [← ho, HU.out]
      rcases HW.out hd hc with h | h <;> rw [h] <;> simp
    have H1 := Lib.hid h1; have H2 := Lib.hid h2
    clear HT HW HU h1 h2
    cases a <;> cases c <;> cases d <;> cases o
    all_goals first | (exfalso; first | exact absurd (H1.out rfl rfl) (by decide) | exact absurd (H2.out rfl rfl) (by decide)) | skip
    all_goals clear H1 H2
    all_goals
      go_wp2_with (first | (go_at_call 12; refine (valid_at _ _ (by assumption) _ (by assumption)).mono ?_; rintro e wx ⟨rfl, hwx⟩; obtain rfl := hwx) | (go_at_call 23; refine (covers_at _ _ _ (by assumption) _ (by assumption) (by assumption)).mono ?_; rintro e wx ⟨rfl, hwx⟩; obtain rfl := hwx) | (go_at_call 25; refine (overlap_at _ _ _ (by assumption) _ (by assumption) (by assumption)).mono ?_; rintro e wx ⟨rfl, hwx⟩; obtain rfl := hwx) | (go_at_call 17; refine (depth_any _ _ (by assumption)).mono ?_; rintro e wx ⟨rfl, hwx⟩; obtain rfl := hwx) | (go_at_call 27; refine (compare_at _ _ _ (by assumption) _).mono ?_; rintro e wx ⟨rfl, hwx⟩; obtain rfl := hwx))
      go_meet
      exact ⟨rfl, rfl⟩
  case rest =>
  obtain ⟨rfl, rfl⟩ := hcut
  go_upto_region 9 with (fail)
  go_cut [115] (fun s wx => s = .bool false ∧ w1 = wx)
  case first =>
    clear HC HA HV HE HR HS HO hp0 HT HW
    obtain ⟨a, ha⟩ : Bv (coversL s0.data.toList s1.data.toList) := ⟨_, rfl⟩
    obtain ⟨b, hb⟩ : Bv (coversL s1.data.toList s0.data.toList) := ⟨_, rfl⟩
    have ho : overlapL s0.data.toList s1.data.toList = (a || b) := by rw [HU.out, ha, hb]
    clear HU
    cases a with
    | true =>
      have dl := HD.out ha
      rw [Bool.true_or] at ho
      clear HD HD'
      go_wp2_with (first | (go_at_call 12; refine (valid_at _ _ (by assumption) _ (by assumption)).mono ?_; rintro e wx ⟨rfl, hwx⟩; obtain rfl := hwx) | (go_at_call 23; refine (covers_at _ _ _ (by assumption) _ (by assumption) (by assumption)).mono ?_; rintro e wx ⟨rfl, hwx⟩; obtain rfl := hwx) | (go_at_call 25; refine (overlap_at _ _ _ (by assumption) _ (by assumption) (by assumption)).mono ?_; rintro e wx ⟨rfl, hwx⟩; obtain rfl := hwx) | (go_at_call 17; refine (depth_any _ _ (by assumption)).mono ?_; rintro e wx ⟨rfl, hwx⟩; obtain rfl := hwx) | (go_at_call 27; refine (compare_at _ _ _ (by assumption) _).mono ?_; rintro e wx ⟨rfl, hwx⟩; obtain rfl := hwx))
      go_meet
      exact ⟨rfl, rfl⟩
    | false =>
      rw [Bool.false_or] at ho
      cases b with
      | true =>
        have dl0 := HD'.out hb ha
        have dl : decide (depthL s0.data.toList ≤ depthL s1.data.toList) = false := decide_eq_false (by omega)
        clear dl0
        clear HD HD'
        go_wp2_with (first | (go_at_call 12; refine (valid_at _ _ (by assumption) _ (by assumption)).mono ?_; rintro e wx ⟨rfl, hwx⟩; obtain rfl := hwx) | (go_at_call 23; refine (covers_at _ _ _ (by assumption) _ (by assumption) (by assumption)).mono ?_; rintro e wx ⟨rfl, hwx⟩; obtain rfl := hwx) | (go_at_call 25; refine (overlap_at _ _ _ (by assumption) _ (by assumption) (by assumption)).mono ?_; rintro e wx ⟨rfl, hwx⟩; obtain rfl := hwx) | (go_at_call 17; refine (depth_any _ _ (by assumption)).mono ?_; rintro e wx ⟨rfl, hwx⟩; obtain rfl := hwx) | (go_at_call 27; refine (compare_at _ _ _ (by assumption) _).mono ?_; rintro e wx ⟨rfl, hwx⟩; obtain rfl := hwx))
        go_meet
        exact ⟨rfl, rfl⟩
      | false =>
        clear HD HD'
        go_wp2_with (first | (go_at_call 12; refine (valid_at _ _ (by assumption) _ (by assumption)).mono ?_; rintro e wx ⟨rfl, hwx⟩; obtain rfl := hwx) | (go_at_call 23; refine (covers_at _ _ _ (by assumption) _ (by assumption) (by assumption)).mono ?_; rintro e wx ⟨rfl, hwx⟩; obtain rfl := hwx) | (go_at_call 25; refine (overlap_at _ _ _ (by assumption) _ (by assumption) (by assumption)).mono ?_; rintro e wx ⟨rfl, hwx⟩; obtain rfl := hwx) | (go_at_call 17; refine (depth_any _ _ (by assumption)).mono ?_; rintro e wx ⟨rfl, hwx⟩; obtain rfl := hwx) | (go_at_call 27; refine (compare_at _ _ _ (by assumption) _).mono ?_; rintro e wx ⟨rfl, hwx⟩; obtain rfl := hwx))
        go_meet
        exact ⟨rfl, rfl⟩
  case rest =>
  obtain ⟨rfl, rfl⟩ := hcut
  clear HC HA HV HE HS HO hp0 HT HW HD HD' HU
  obtain ⟨x, hx⟩ : Iv (Lib.compareBytes s0.data.toList s1.data.toList) := ⟨_, rfl⟩
  obtain ⟨y, hy⟩ : Iv (Lib.compareBytes s1.data.toList s2.data.toList) := ⟨_, rfl⟩
  obtain ⟨z, hz⟩ : Iv (Lib.compareBytes s0.data.toList s2.data.toList) := ⟨_, rfl⟩
  by_cases x0 : 0 < x
  · clear HR
    go_wp2_with (first | (go_at_call 12; refine (valid_at _ _ (by assumption) _ (by assumption)).mono ?_; rintro e wx ⟨rfl, hwx⟩; obtain rfl := hwx) | (go_at_call 23; refine (covers_at _ _ _ (by assumption) _ (by assumption) (by assumption)).mono ?_; rintro e wx ⟨rfl, hwx⟩; obtain rfl := hwx) | (go_at_call 25; refine (overlap_at _ _ _ (by assumption) _ (by assumption) (by assumption)).mono ?_; rintro e wx ⟨rfl, hwx⟩; obtain rfl := hwx) | (go_at_call 17; refine (depth_any _ _ (by assumption)).mono ?_; rintro e wx ⟨rfl, hwx⟩; obtain rfl := hwx) | (go_at_call 27; refine (compare_at _ _ _ (by assumption) _).mono ?_; rintro e wx ⟨rfl, hwx⟩; obtain rfl := hwx))
    go_ret
    exact ⟨rfl, KB.out⟩
  · by_cases y0 : 0 < y
    · clear HR
      go_wp2_with (first | (go_at_call 12; refine (valid_at _ _ (by assumption) _ (by assumption)).mono ?_; rintro e wx ⟨rfl, hwx⟩; obtain rfl := hwx) | (go_at_call 23; refine (covers_at _ _ _ (by assumption) _ (by assumption) (by assumption)).mono ?_; rintro e wx ⟨rfl, hwx⟩; obtain rfl := hwx) | (go_at_call 25; refine (overlap_at _ _ _ (by assumption) _ (by assumption) (by assumption)).mono ?_; rintro e wx ⟨rfl, hwx⟩; obtain rfl := hwx) | (go_at_call 17; refine (depth_any _ _ (by assumption)).mono ?_; rintro e wx ⟨rfl, hwx⟩; obtain rfl := hwx) | (go_at_call 27; refine (compare_at _ _ _ (by assumption) _).mono ?_; rintro e wx ⟨rfl, hwx⟩; obtain rfl := hwx))
      go_ret
      exact ⟨rfl, KB.out⟩
    · have z0 : z ≤ 0 := by rw [← hz]; exact HR.out (by omega) (by omega)
      clear HR
      go_wp2_with (first | (go_at_call 12; refine (valid_at _ _ (by assumption) _ (by assumption)).mono ?_; rintro e wx ⟨rfl, hwx⟩; obtain rfl := hwx) | (go_at_call 23; refine (covers_at _ _ _ (by assumption) _ (by assumption) (by assumption)).mono ?_; rintro e wx ⟨rfl, hwx⟩; obtain rfl := hwx) | (go_at_call 25; refine (overlap_at _ _ _ (by assumption) _ (by assumption) (by assumption)).mono ?_; rintro e wx ⟨rfl, hwx⟩; obtain rfl := hwx) | (go_at_call 17; refine (depth_any _ _ (by assumption)).mono ?_; rintro e wx ⟨rfl, hwx⟩; obtain rfl := hwx) | (go_at_call 27; refine (compare_at _ _ _ (by assumption) _).mono ?_; rintro e wx ⟨rfl, hwx⟩; obtain rfl := hwx))
      go_ret
      exact ⟨rfl, KB.out⟩

set_option maxRecDepth 100000 in
theorem lifted (os : Os) (started : os.Started) (H : Type) (enc : TypeId × Value → H) :
    ReturnsInHanded {} Tryd.checked os 8 .any (fun w args => (Rows.pathsOrderSpec.pre enc Tryd.prog Tryd.f8 Rows.pathsOrderRow.domain false w args ∧ laidMetH Tryd.prog [("unicode/utf8.acceptRanges", Rows.laid_unicode_utf8_acceptRanges), ("unicode/utf8.first", Rows.laid_unicode_utf8_first)] w) ∧ sizedMet enc Tryd.prog Tryd.f8 (OpenSpec.ofChange Rows.pathsOrderSpec) false w args)
      (Rows.pathsOrderSpec.post enc Tryd.prog Tryd.f8 false true false false) := by
  refine returnsInHanded_and_shaped (C := Tryd.checked) (X := (fun w _ => laidMetH Tryd.prog [("unicode/utf8.acceptRanges", Rows.laid_unicode_utf8_acceptRanges), ("unicode/utf8.first", Rows.laid_unicode_utf8_first)] w)) (fun _ _ _ hh h => h.of_heap hh) own started (by kernel_rfl) Tryd.func8
    (ChangeSpec.witness_shaped (enc := enc) (C := Tryd.checked) (os := os) (X := (fun w _ => laidMetH Tryd.prog [("unicode/utf8.acceptRanges", Rows.laid_unicode_utf8_acceptRanges), ("unicode/utf8.first", Rows.laid_unicode_utf8_first)] w)) false (World.laidAll Tryd.prog os [("unicode/utf8.acceptRanges", Rows.laid_unicode_utf8_acceptRanges), ("unicode/utf8.first", Rows.laid_unicode_utf8_first)]) #[.string ⟨#[]⟩, .string ⟨#[]⟩, .string ⟨#[]⟩] 8 (World.laidAll_os _ _ _)
      (World.shaped_of_ZipB (by kernel_rfl) (by kernel_rfl)) (by kernel_rfl) (by kernel_rfl) (by kernel_rfl)
      (by rw [MakeChecks.laidMetH_plain _ _ _ (by kernel_rfl)]; exact laidMet_laidAll _ (by kernel_rfl) (by kernel_rfl))) ?_
  intro W base args ds gs before hval0 hW hcnd hsz0 hL hsh _
  have hval : ∀ (j : Nat) t v, Tryd.f8.params[j]? = some t → args[j]? = some v → Value.okWide Tryd.prog W .any base t v := hval0
  have hW' := hW
  obtain ⟨p, q, hA0, hV, rfl, hfz, hnd⟩ := hW
  have hA : DataW.TrodAll enc Tryd.prog W 0 (fun _ => true) true Tryd.f8.params.toList args.toList ds p := hA0
  rw [Tryd.params8] at hA hval
  obtain ⟨v0, vs0, d0, ds0, p0, q0, hargs, rfl, rfl, h0, r0⟩ := trodAll_cons hA
  obtain ⟨v1, vs1, d1, ds1, p1, q1, rfl, rfl, rfl, h1, r1⟩ := trodAll_cons r0
  obtain ⟨v2, vs2, d2, ds2, p2, q2, rfl, rfl, rfl, h2, r2⟩ := trodAll_cons r1
  obtain ⟨rfl, rfl, rfl⟩ := trodAll_nil r2
  obtain rfl : args = #[v0, v1, v2] := by cases args; simp_all
  obtain ⟨rfl, rfl⟩ := trodVars_none hV
  have hsz : ∀ (j : Nat) (t : TypeId) (d : DataW H), ([9, 9, 9] : List TypeId)[j]? = some t → [d0, d1, d2][j]? = some d → ∀ n ∈ d.weights Tryd.prog t, n ≤ reachBytes := by
    intro j t d ht hd n hn
    have hsz1 : (DataW.weightsEach Tryd.prog ([9, 9, 9] : List TypeId) [d0, d1, d2]).all (· ≤ reachBytes) = true := hsz0
    have := List.all_eq_true.1 hsz1 n (DataW.weights_mem_each ht hd n hn)
    simpa using this
  have k0 := h0
  have lt0 : ∀ x ∈ p0, x.block < W.heap.size := by obtain ⟨m, hm⟩ := k0; exact DataW.trod_lt m _ _ _ hm
  obtain ⟨s0, rfl, rfl, rfl, w0⟩ := open_string Tryd.underlying9 (hval 0 9 v0 rfl rfl) h0
  have b0 : s0.size ≤ 140737488351232 := by have := hsz 0 9 _ rfl rfl s0.data.toList.length (by simp [DataW.weights]); simpa [reachBytes] using this
  have k1 := h1
  have lt1 : ∀ x ∈ p1, x.block < W.heap.size := by obtain ⟨m, hm⟩ := k1; exact DataW.trod_lt m _ _ _ hm
  obtain ⟨s1, rfl, rfl, rfl, w1⟩ := open_string Tryd.underlying9 (hval 1 9 v1 rfl rfl) h1
  have b1 : s1.size ≤ 140737488351232 := by have := hsz 1 9 _ rfl rfl s1.data.toList.length (by simp [DataW.weights]); simpa [reachBytes] using this
  have k2 := h2
  have lt2 : ∀ x ∈ p2, x.block < W.heap.size := by obtain ⟨m, hm⟩ := k2; exact DataW.trod_lt m _ _ _ hm
  obtain ⟨s2, rfl, rfl, rfl, w2⟩ := open_string Tryd.underlying9 (hval 2 9 v2 rfl rfl) h2
  have b2 : s2.size ≤ 140737488351232 := by have := hsz 2 9 _ rfl rfl s2.data.toList.length (by simp [DataW.weights]); simpa [reachBytes] using this
  refine (walk s0 s1 s2 W b0 b1 b2 hsh).mono fun e W' ⟨he, bel⟩ => ?_
  subst he
  exact ⟨_, rfl, _, _, _, [], _, [], hW', trodAll_mk1 (shut_bool Tryd.underlying4 _), (trodAll_cons_mk (Below.trod laidOut (by kernel_rfl) (of_decide_eq_true (by kernel_rfl)) k0 bel lt0) (trodAll_cons_mk (Below.trod laidOut (by kernel_rfl) (of_decide_eq_true (by kernel_rfl)) k1 bel lt1) (trodAll_cons_mk (Below.trod laidOut (by kernel_rfl) (of_decide_eq_true (by kernel_rfl)) k2 bel lt2) trodAll_mk0))), rfl, bel.frame _, fun h => by cases h⟩

theorem over : Rows.pathsOrderRow.holds Tryd.pinned (OpenSpec.ofChange Rows.pathsOrderSpec) :=
  OpenClaim.holds_of_wide 8 Tryd.f8 rfl rfl rfl rfl rfl rfl rfl ⟨rfl, rfl, rfl, rfl, rfl⟩ rfl rfl rfl rfl rfl (by kernel_rfl) Tryd.func8 (by kernel_rfl)
    (of_decide_eq_true (by kernel_rfl)) (by unfold Func.isWrapper; first | (rw [if_pos (by decide +kernel)]; kernel_rfl) | (rw [if_neg (by decide +kernel)]; exact ⟨rfl, rfl⟩))
    (fun os started H enc _ => lifted os started H enc)

theorem proved : Rows.PathsOrderCardSaid :=
  Claim7.holds_tied_plain_at .later [] [.data, .pinned] true (true, "b0747c0908a156516a929e9484f089a83caf480c3f33ea476e752292b81b8aab") false over (fun _ h => by cases h) (by kernel_rfl) (fun _ h => by cases h) pathsOrder_row_tie rfl ⟨rfl, rfl⟩ (by kernel_rfl) rfl
    (fun f fn hf hfn => by
      obtain rfl : f = 8 := Option.some.inj ((show Tryd.prog.funcNamed "sublet/subletlaw01.PathsOrder" = some 8 by kernel_rfl).symm.trans hf) |>.symm
      obtain rfl : fn = Tryd.f8 := (Option.some.inj (Tryd.func8.symm.trans hfn)).symm
      exact ⟨by kernel_rfl, fun j t ht => by
        rw [Tryd.params8] at ht
        have hm : t ∈ ([9, 9, 9] : List TypeId) := by simpa using Array.mem_of_getElem? ht
        have hall : (([9, 9, 9] : List TypeId).all fun u => !Tryd.prog.wantsStandIn u) = true := by kernel_rfl
        exact (show Tryd.prog.wantsStandIn t = false by simpa using List.all_eq_true.1 hall t hm)⟩)
    (by kernel_rfl)
#print axioms proved
end Go.Proofs.YtfbajcgkcamnnaaDoor.pathsOrder
