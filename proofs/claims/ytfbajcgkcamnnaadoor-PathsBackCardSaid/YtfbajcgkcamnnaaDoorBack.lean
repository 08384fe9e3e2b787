/- PathsBack returns true for any texts and any list of texts: splitting and joining go back and forth. No condition. -/
import Derived.Test.YtfbajcgkcamnnaaDoorK2
import Derived.Test.YtfbajcgkcamnnaaDoorCards
namespace Go.Proofs.YtfbajcgkcamnnaaDoor.pathsBack
open Go.ChangeShapes Go.WideShapes Go.ChangeAt Go.RowKit Go.PlainAid
open Go.ChangeMaps (open_string shut_string)

theorem own : ownKnob Tryd.prog.godebug = none := by kernel_rfl
theorem laidOut : laidOutB Tryd.prog = true := by kernel_rfl

set_option maxRecDepth 100000 in
set_option maxHeartbeats 2000000 in
theorem walk (s0 : ByteArray) (v1 : Value) (L1 : List ByteArray) (s2 : ByteArray) (w : World) (b0 : s0.size ≤ 140737488351232) (a1 : ArgStrs w v1 L1) (l1 : L1.length ≤ 8796093021952) (z1 : ∀ x ∈ L1, x.size ≤ maxLen) (b2 : s2.size ≤ 140737488351232) (hsh : w.ShapedOpen Tryd.prog) : Calls Tryd.prog 7 #[.string s0, v1, .string s2] w fun e w' => e = .returned (.bool true) ∧ Below w.heap.size w w' := by
  have HM := Lib.hid (mx_of hsh); clear hsh
  have m0 : s0.size ≤ maxLen := by unfold maxLen; omega
  have n0 : s0.size < 9223372036854775807 := by omega
  have m2 : s2.size ≤ maxLen := by unfold maxLen; omega
  have n2 : s2.size < 9223372036854775807 := by omega
  have HZ := Lib.hid z1; clear z1
  have HV := Lib.hid a1
  obtain ⟨A1, c1, rfl, hc1, hcs1⟩ := a1
  clear hcs1
  go_enter Tryd.func7, Tryd.ntmps7
  go_wp2_with fail
  refine (awake_any _ HM.out).mono ?_
  rintro e w1 ⟨rfl, k1⟩
  have M1 := Lib.hid (HM.out.no k1)
  go_wp2_with fail
  refine (split_uni s0 _ m0 M1.out).mono ?_
  rintro e w2 ⟨v, D, rfl, hv, hD, k2⟩
  have KW := Lib.hid (k1.trans k2)
  have HV0 := Lib.hid hv
  have hX := back_split hD
  have hl4 := split_len hD
  obtain ⟨er, her⟩ : Iv (errL s0.data.toList) := ⟨_, rfl⟩
  rw [her] at hX ⊢
  have HX := Lib.hid hX
  obtain ⟨A, c, rfl, hc, hcs⟩ := hv
  clear hcs her hX hD k1 k2
  go_upto_region 4 with (fail)
  go_cut [37] (fun s wx => s = .bool false ∧ wx = w2)
  case first =>
    rcases HX.out with ⟨hp, rfl, rfl⟩ | ⟨hp, rfl, hj⟩
    · clear HX
      go_wp2_with (first | (go_at_call 12; refine (valid_at _ _ (by assumption) _ (by assumption)).mono ?_; rintro e wx ⟨rfl, hwx⟩; obtain rfl := hwx) | (go_at_call 23; refine (covers_at _ _ _ (by assumption) _ (by assumption) (by assumption)).mono ?_; rintro e wx ⟨rfl, hwx⟩; obtain rfl := hwx) | (go_at_call 25; refine (overlap_at _ _ _ (by assumption) _ (by assumption) (by assumption)).mono ?_; rintro e wx ⟨rfl, hwx⟩; obtain rfl := hwx) | (go_at_call 17; refine (depth_any _ _ (by assumption)).mono ?_; rintro e wx ⟨rfl, hwx⟩; obtain rfl := hwx) | (go_at_call 27; refine (compare_at _ _ _ (by assumption) _).mono ?_; rintro e wx ⟨rfl, hwx⟩; obtain rfl := hwx))
      go_meet
      exact ⟨rfl, rfl⟩
    · clear HX hj
      go_wp2_with (first | (go_at_call 12; refine (valid_at _ _ (by assumption) _ (by assumption)).mono ?_; rintro e wx ⟨rfl, hwx⟩; obtain rfl := hwx) | (go_at_call 23; refine (covers_at _ _ _ (by assumption) _ (by assumption) (by assumption)).mono ?_; rintro e wx ⟨rfl, hwx⟩; obtain rfl := hwx) | (go_at_call 25; refine (overlap_at _ _ _ (by assumption) _ (by assumption) (by assumption)).mono ?_; rintro e wx ⟨rfl, hwx⟩; obtain rfl := hwx) | (go_at_call 17; refine (depth_any _ _ (by assumption)).mono ?_; rintro e wx ⟨rfl, hwx⟩; obtain rfl := hwx) | (go_at_call 27; refine (compare_at _ _ _ (by assumption) _).mono ?_; rintro e wx ⟨rfl, hwx⟩; obtain rfl := hwx))
      go_meet
      exact ⟨rfl, rfl⟩
  case rest =>
  obtain ⟨rfl, rfl⟩ := hcut
  go_upto_if 39 with (fail)
  go_cut [6] (fun s wx => s = .bool false ∧ Kp No w wx)
  case first =>
    rcases HX.out with ⟨hp, rfl, rfl⟩ | ⟨hp, rfl, hj, hdp, hmore, hsz⟩
    · clear HX
      go_wp2
      go_meet
      exact ⟨rfl, KW.out⟩
    · have HJ := Lib.hid hj; have HM := Lib.hid hmore; have HDP := Lib.hid hdp
      have HSZ := Lib.hid (show ∀ x ∈ D, x.size ≤ maxLen from fun x hx => by have := hsz x hx; unfold maxLen; omega)
      have HSZ2 := Lib.hid (show ∀ x ∈ D ++ [s2], x.size ≤ maxLen from fun x hx => by
        rcases List.mem_append.1 hx with h | h
        · exact HSZ.out x h
        · obtain rfl := List.mem_singleton.1 h; exact m2)
      clear HX hj hmore hsz hdp hp
      go_wp2_with fail
      refine (join_some _ D _ HV0.out HSZ.out s0 HJ.out).mono ?_
      rintro e w3 ⟨rfl, k3⟩
      have hv3 := HV0.out.no k3
      have HV3 := Lib.hid hv3; clear hv3
      have KW3 := Lib.hid (KW.out.trans k3); clear k3
      go_wp2_with fail
      refine (depth_any _ _ m0).mono ?_
      rintro e wx ⟨rfl, hwx⟩
      obtain rfl := hwx
      rw [HDP.out]
      go_wp2_with (first | (at_builtin; refine wpList_appN _ rfl _ _ 24 rfl w.heap.size 9 _ 16 Tryd.underlying24 Tryd.info9 rfl _ 0 0 [] rfl (own_fresh _ _ _ KW3.out.size) A D.length c (D.map Value.string) rfl (by simp) (by exact ArgStrs.cs (HV3.out.no ((Kp.refl No _).alloc _))) (by simp [Value.oneCell']) (by omega) (by omega) (by have := KW3.out.size; simp; omega) ?_; intro g1 cap1 w4 hown hk4 hat; simp only [Nat.zero_add, List.nil_append] at hown) | (at_builtin; refine wpList_app1 _ rfl _ _ 24 rfl w.heap.size 9 _ 1 16 Tryd.underlying24 Tryd.info9 rfl (by omega) _ D.length (D.map Value.string) rfl (hown.alloc _) _ _ _ rfl (Bk.new' (by simp) rfl) rfl (by simp [Value.oneCell']) (by omega) (by omega) (by have h1 := hk4.size; have h2 := KW3.out.size; simp at h1 ⊢; omega) ?_; intro g2 cap2 w5 hown2 hk5 hat2))
      have kk4 := ((KW3.out.alloc _).then_ hk4 fun i hi e => by have := KW3.out.size; omega)
      have kk5 := (kk4.alloc _).then_ hk5 fun i hi e => by
        have := hown.lt i e
        omega
      have hv5 : ArgStrs w5 (.slice (some ⟨g2, 0, none⟩) (D.length + 1) cap2) (D ++ [s2]) := own_arg (by simpa using hown2)
      have HV5 := Lib.hid hv5
      have KW5 := Lib.hid kk5
      clear hown hown2 hk4 hk5 hat hat2 kk4 kk5 hv5
      go_wp2_with fail
      refine (join_uni _ (D ++ [s2]) _ HV5.out HSZ2.out).mono ?_
      rintro e w6 ⟨rfl, k6⟩
      have KW6 := Lib.hid (KW5.out.trans k6); clear k6
      obtain ⟨eg, heg⟩ : Iv (errJ (tx (D ++ [s2]))) := ⟨_, rfl⟩
      obtain ⟨rr, hrr⟩ : ∃ r : ByteArray, (⟨((joinL (tx (D ++ [s2]))).getD []).toArray⟩ : ByteArray) = r := ⟨_, rfl⟩
      have h6 := HM.out s2 rr hrr
      rw [heg] at h6
      rw [heg, hrr]
      clear heg hrr
      rcases h6 with rfl | ⟨rfl, q1, q2, q3, q4, q5⟩
      · go_wp2
        go_meet
        exact ⟨rfl, KW6.out⟩
      · have Q3 := Lib.hid q3; clear q3
        go_wp2_with (first | (go_at_call 17; refine (depth_any _ _ q5).mono ?_; rintro e wx ⟨rfl, hwx⟩; obtain rfl := hwx; rw [Q3.out]) | first | (go_at_call 12; refine (valid_at _ _ (by assumption) _ (by assumption)).mono ?_; rintro e wx ⟨rfl, hwx⟩; obtain rfl := hwx) | (go_at_call 23; refine (covers_at _ _ _ (by assumption) _ (by assumption) (by assumption)).mono ?_; rintro e wx ⟨rfl, hwx⟩; obtain rfl := hwx) | (go_at_call 25; refine (overlap_at _ _ _ (by assumption) _ (by assumption) (by assumption)).mono ?_; rintro e wx ⟨rfl, hwx⟩; obtain rfl := hwx) | (go_at_call 17; refine (depth_any _ _ (by assumption)).mono ?_; rintro e wx ⟨rfl, hwx⟩; obtain rfl := hwx) | (go_at_call 27; refine (compare_at _ _ _ (by assumption) _).mono ?_; rintro e wx ⟨rfl, hwx⟩; obtain rfl := hwx))
        go_meet
        exact ⟨rfl, KW6.out⟩
  case rest =>
  obtain ⟨rfl, kc⟩ := hcut
  have KC := Lib.hid kc
  have HV1 := Lib.hid (HV.out.no kc)
  clear HX HV0 KW
  go_wp2_with (at_builtin; refine wpList_appN _ rfl _ _ 24 rfl w.heap.size 9 _ 16 Tryd.underlying24 Tryd.info9 rfl _ 0 0 [] rfl (own_fresh _ _ _ kc.size) A1 L1.length c1 (L1.map Value.string) rfl (by simp) (by exact ArgStrs.cs (HV1.out.no ((Kp.refl No _).alloc _))) (by simp [Value.oneCell']) (by omega) (by omega) (by have := kc.size; simp; omega) ?_; intro g1 cap1 w4 hown hk4 hat)
  have kk4 := ((kc.alloc _).then_ hk4 fun i hi e => by have := kc.size; omega)
  have hv4 : ArgStrs w4 (.slice (some ⟨g1, 0, none⟩) (0 + L1.length) cap1) L1 := own_arg (by simpa using hown)
  rw [Nat.zero_add] at hv4
  have HV4 := Lib.hid hv4
  have KW4 := Lib.hid kk4
  clear hown hk4 hat kk4 hv4 kc KC
  go_wp2_with fail
  refine (join_uni _ L1 _ HV4.out HZ.out).mono ?_
  rintro e w5 ⟨rfl, k5⟩
  have KW5 := Lib.hid (KW4.out.trans k5); clear k5
  obtain ⟨eg, heg⟩ : Iv (errJ (tx L1)) := ⟨_, rfl⟩
  obtain ⟨rr, hrr⟩ : ∃ r : ByteArray, (⟨((joinL (tx L1)).getD []).toArray⟩ : ByteArray) = r := ⟨_, rfl⟩
  have h6 := back_join L1 rr hrr
  rw [heg] at h6
  rw [heg, hrr]
  clear heg hrr
  rcases h6 with ⟨rfl, rfl⟩ | ⟨rfl, q1, q2⟩
  · go_wp2
    go_ret
    exact ⟨rfl, KW5.out.below (Nat.le_refl _) (fun _ _ m => m)⟩
  · have Q1 := Lib.hid q1; clear q1
    go_wp2_with fail
    refine (split_uni rr _ q2 (HM.out.no KW5.out)).mono ?_
    rintro e w6 ⟨u, E, rfl, hu, hE, k6⟩
    have KW6 := Lib.hid (KW5.out.trans k6); clear k6
    have e0 : errL rr.data.toList = 0 := by unfold errL; rw [Q1.out]; rfl
    rw [e0]
    have hEL : E = L1 := tx_inj (by rw [hE, Q1.out]; rfl)
    have hl := split_len hE
    have C := Lib.hid (same_eq u _ E L1 w6 hu (HV.out.no KW6.out) (by omega) hEL)
    clear e0 hEL hl hE hu
    go_wp2_with fail
    refine C.out.mono ?_
    rintro e w7 ⟨rfl, k7⟩
    go_wp2
    go_ret
    exact ⟨rfl, (KW6.out.trans k7).below (Nat.le_refl _) (fun _ _ m => m)⟩

set_option maxRecDepth 100000 in
theorem lifted (os : Os) (started : os.Started) (H : Type) (enc : TypeId × Value → H) :
    ReturnsInHanded {} Tryd.checked os 7 .any (fun w args => (Rows.pathsBackSpec.pre enc Tryd.prog Tryd.f7 Rows.pathsBackRow.domain false w args ∧ laidMetH Tryd.prog [("unicode/utf8.acceptRanges", Rows.laid_unicode_utf8_acceptRanges), ("unicode/utf8.first", Rows.laid_unicode_utf8_first)] w) ∧ sizedMet enc Tryd.prog Tryd.f7 (OpenSpec.ofChange Rows.pathsBackSpec) false w args)
      (Rows.pathsBackSpec.post enc Tryd.prog Tryd.f7 false true false false) := by
  refine returnsInHanded_and_shaped (C := Tryd.checked) (X := (fun w _ => laidMetH Tryd.prog [("unicode/utf8.acceptRanges", Rows.laid_unicode_utf8_acceptRanges), ("unicode/utf8.first", Rows.laid_unicode_utf8_first)] w)) (fun _ _ _ hh h => h.of_heap hh) own started (by kernel_rfl) Tryd.func7
    (ChangeSpec.witness_shaped (enc := enc) (C := Tryd.checked) (os := os) (X := (fun w _ => laidMetH Tryd.prog [("unicode/utf8.acceptRanges", Rows.laid_unicode_utf8_acceptRanges), ("unicode/utf8.first", Rows.laid_unicode_utf8_first)] w)) false (World.laidAll Tryd.prog os [("unicode/utf8.acceptRanges", Rows.laid_unicode_utf8_acceptRanges), ("unicode/utf8.first", Rows.laid_unicode_utf8_first)]) #[.string ⟨#[]⟩, .slice none 0 0, .string ⟨#[]⟩] 8 (World.laidAll_os _ _ _)
      (World.shaped_of_ZipB (by kernel_rfl) (by kernel_rfl)) (by kernel_rfl) (by kernel_rfl) (by kernel_rfl)
      (by rw [MakeChecks.laidMetH_plain _ _ _ (by kernel_rfl)]; exact laidMet_laidAll _ (by kernel_rfl) (by kernel_rfl))) ?_
  intro W base args ds gs before hval0 hW hcnd hsz0 hL hsh _
  have hval : ∀ (j : Nat) t v, Tryd.f7.params[j]? = some t → args[j]? = some v → Value.okWide Tryd.prog W .any base t v := hval0
  have hW' := hW
  obtain ⟨p, q, hA0, hV, rfl, hfz, hnd⟩ := hW
  have hA : DataW.TrodAll enc Tryd.prog W 0 (fun _ => true) true Tryd.f7.params.toList args.toList ds p := hA0
  rw [Tryd.params7] at hA hval
  obtain ⟨v0, vs0, d0, ds0, p0, q0, hargs, rfl, rfl, h0, r0⟩ := trodAll_cons hA
  obtain ⟨v1, vs1, d1, ds1, p1, q1, rfl, rfl, rfl, h1, r1⟩ := trodAll_cons r0
  obtain ⟨v2, vs2, d2, ds2, p2, q2, rfl, rfl, rfl, h2, r2⟩ := trodAll_cons r1
  obtain ⟨rfl, rfl, rfl⟩ := trodAll_nil r2
  obtain rfl : args = #[v0, v1, v2] := by cases args; simp_all
  obtain ⟨rfl, rfl⟩ := trodVars_none hV
  have hsz : ∀ (j : Nat) (t : TypeId) (d : DataW H), ([9, 24, 9] : List TypeId)[j]? = some t → [d0, d1, d2][j]? = some d → ∀ n ∈ d.weights Tryd.prog t, n ≤ reachBytes := by
    intro j t d ht hd n hn
    have hsz1 : (DataW.weightsEach Tryd.prog ([9, 24, 9] : List TypeId) [d0, d1, d2]).all (· ≤ reachBytes) = true := hsz0
    have := List.all_eq_true.1 hsz1 n (DataW.weights_mem_each ht hd n hn)
    simpa using this
  have k0 := h0
  have lt0 : ∀ x ∈ p0, x.block < W.heap.size := by obtain ⟨m, hm⟩ := k0; exact DataW.trod_lt m _ _ _ hm
  obtain ⟨s0, rfl, rfl, rfl, w0⟩ := open_string Tryd.underlying9 (hval 0 9 v0 rfl rfl) h0
  have b0 : s0.size ≤ 140737488351232 := by have := hsz 0 9 _ rfl rfl s0.data.toList.length (by simp [DataW.weights]); simpa [reachBytes] using this
  have k1 := h1
  have lt1 : ∀ x ∈ p1, x.block < W.heap.size := by obtain ⟨m, hm⟩ := k1; exact DataW.trod_lt m _ _ _ hm
  obtain ⟨L1, a1, l1, z1⟩ := open_strs Tryd.underlying24 Tryd.underlying9 (by kernel_rfl) (by kernel_rfl) (hval 1 24 v1 rfl rfl) h1 (hsz 1 24 _ rfl rfl)
  have k2 := h2
  have lt2 : ∀ x ∈ p2, x.block < W.heap.size := by obtain ⟨m, hm⟩ := k2; exact DataW.trod_lt m _ _ _ hm
  obtain ⟨s2, rfl, rfl, rfl, w2⟩ := open_string Tryd.underlying9 (hval 2 9 v2 rfl rfl) h2
  have b2 : s2.size ≤ 140737488351232 := by have := hsz 2 9 _ rfl rfl s2.data.toList.length (by simp [DataW.weights]); simpa [reachBytes] using this
  refine (walk s0 v1 L1 s2 W b0 a1 l1 z1 b2 hsh).mono fun e W' ⟨he, bel⟩ => ?_
  subst he
  exact ⟨_, rfl, _, _, _, [], _, [], hW', trodAll_mk1 (shut_bool Tryd.underlying4 _), (trodAll_cons_mk (Below.trod laidOut (by kernel_rfl) (of_decide_eq_true (by kernel_rfl)) k0 bel lt0) (trodAll_cons_mk (Below.trod laidOut (by kernel_rfl) (of_decide_eq_true (by kernel_rfl)) k1 bel lt1) (trodAll_cons_mk (Below.trod laidOut (by kernel_rfl) (of_decide_eq_true (by kernel_rfl)) k2 bel lt2) trodAll_mk0))), rfl, bel.frame _, fun h => by cases h⟩

theorem over : Rows.pathsBackRow.holds Tryd.pinned (OpenSpec.ofChange Rows.pathsBackSpec) :=
  OpenClaim.holds_of_wide 7 Tryd.f7 rfl rfl rfl rfl rfl rfl rfl ⟨rfl, rfl, rfl, rfl, rfl⟩ rfl rfl rfl rfl rfl (by kernel_rfl) Tryd.func7 (by kernel_rfl)
    (of_decide_eq_true (by kernel_rfl)) (by unfold Func.isWrapper; first | (rw [if_pos (by decide +kernel)]; kernel_rfl) | (rw [if_neg (by decide +kernel)]; exact ⟨rfl, rfl⟩))
    (fun os started H enc _ => lifted os started H enc)

theorem proved : Rows.PathsBackCardSaid :=
  Claim7.holds_tied_plain_at .later [] [.data, .pinned] true (true, "b0747c0908a156516a929e9484f089a83caf480c3f33ea476e752292b81b8aab") false over (fun _ h => by cases h) (by kernel_rfl) (fun _ h => by cases h) pathsBack_row_tie rfl ⟨rfl, rfl⟩ (by kernel_rfl) rfl
    (fun f fn hf hfn => by
      obtain rfl : f = 7 := Option.some.inj ((show Tryd.prog.funcNamed "sublet/subletlaw01.PathsBack" = some 7 by kernel_rfl).symm.trans hf) |>.symm
      obtain rfl : fn = Tryd.f7 := (Option.some.inj (Tryd.func7.symm.trans hfn)).symm
      exact ⟨by kernel_rfl, fun j t ht => by
        rw [Tryd.params7] at ht
        have hm : t ∈ ([9, 24, 9] : List TypeId) := by simpa using Array.mem_of_getElem? ht
        have hall : (([9, 24, 9] : List TypeId).all fun u => !Tryd.prog.wantsStandIn u) = true := by kernel_rfl
        exact (show Tryd.prog.wantsStandIn t = false by simpa using List.all_eq_true.1 hall t hm)⟩)
    (by kernel_rfl)
#print axioms proved
end Go.Proofs.YtfbajcgkcamnnaaDoor.pathsBack
