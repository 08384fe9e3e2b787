/- StampsBack returns true for any list and text, of bulk at most the given number together: parsing a stamp's text gives the stamp back, and any text that is parsed is the text of its stamp. -/
import Derived.Test.YtfbogdeodpkhcaaDoorStJ
import Derived.Test.YtfbogdeodpkhcaaDoorCards
import Derived.Test.YtfbogdeodpkhcaaDoorStU
import Derived.Test.YtfbogdeodpkhcaaDoorStK
namespace Go.Proofs.YtfbogdeodpkhcaaDoor.stampsBack
open Go.ChangeShapes Go.WideShapes Go.ChangeAt Go.RowKit Go.PlainAid
open Go.ChangeMaps (open_string shut_string)

theorem own : ownKnob Tryd.prog.godebug = none := by kernel_rfl
theorem laidOut : laidOutB Tryd.prog = true := by kernel_rfl
set_option maxRecDepth 100000 in
set_option maxHeartbeats 4000000 in
theorem walk (v0 : Value) (L0 : List Int) (s1 : ByteArray) (w : World) (a0 : ArgInts w v0 L0) (l0 : L0.length ≤ 1048576) (z0 : ∀ n ∈ L0, -9223372036854775808 ≤ n ∧ n ≤ 9223372036854775807) (l1 : s1.size ≤ 1048576) (hL : Lw w) : Calls Tryd.prog 7 #[v0, .string s1] w fun e w' => e = .returned (.bool true) ∧ Below w.heap.size w w' := by
  have HL := Lib.hid hL; clear hL
  have H0 := Lib.hid a0; clear a0
  have m0 : L0.length ≤ maxLen := by unfold maxLen; omega
  have n0 : L0.length ≤ 17592186043904 := by omega
  have Z0 := Lib.hid z0; clear z0
  go_enter Tryd.func7, Tryd.ntmps7
  go_wp2_with fail
  refine (awakeS_any _ HL.out).mono ?_
  rintro e w1 ⟨rfl, k⟩
  have K1 := Lib.hid k; clear k
  go_wp2_with fail
  refine (ownS_any _ _ _ (H0.out.no K1.out) n0).mono ?_
  rintro e w2 ⟨rA1, rfl, o, k⟩
  have K2 := Lib.hid k; clear k
  have A1 := Lib.hid o.arg
  have OA1 := Lib.hid o; clear o
  go_wp2_with fail
  refine (textS_any _ _ _ A1.out l0 Z0.out (HL.out.no (((K1.out).trans K2.out)))).mono ?_
  rintro e w3 ⟨rfl, k⟩
  have K3 := Lib.hid k; clear k
  have ht : (⟨(textS L0).toArray⟩ : ByteArray).size < 4294967281 := by
    have := text_len Z0.out
    show (textS L0).toArray.size < _
    simp only [List.size_toArray]; omega
  have HP := Lib.hid (parse_text Z0.out)
  have HB := Lib.hid (parse_back s1.data.toList)
  by_cases hv : validS L0 = true
  · have HV := Lib.hid hv; clear hv
    rw [if_pos HV.out] at HP
    go_wp2_with fail
    have cc := parseS_any ⟨(textS L0).toArray⟩ _ ht (HL.out.no (((((K1.out).trans K2.out)).trans K3.out)))
    rw [HP.out] at cc
    refine cc.mono ?_
    clear cc
    rintro e w4 ⟨rX, rfl, o, k⟩
    have K4 := Lib.hid k; clear k
    have X := Lib.hid o.arg; clear o
    go_wp2_with fail
    refine (ownS_any _ _ _ ((((H0.out.no K1.out).no K2.out).no K3.out).no K4.out) n0).mono ?_
    rintro e w5 ⟨rA2, rfl, o, k⟩
    have K5 := Lib.hid k; clear k
    have A2 := Lib.hid o.arg
    have OA2 := Lib.hid o; clear o
    go_wp2_with fail
    refine (validS_at _ _ _ HV.out _ A2.out m0).mono ?_
    rintro e wx ⟨rfl, rfl⟩
    go_wp2_with fail
    refine (sameS_eq _ _ _ _ _ (X.out.no K5.out) (((((H0.out.no K1.out).no K2.out).no K3.out).no K4.out).no K5.out) m0 rfl).mono ?_
    rintro e w6 ⟨rfl, k⟩
    have K6 := Lib.hid k; clear k
    rcases HB.out with hb | ⟨Y, hb, hY, htx⟩
    · have HB2 := Lib.hid hb; clear hb
      go_wp2_with fail
      have cc := parseS_any s1 _ (by omega) (HL.out.no (((((((((((K1.out).trans K2.out)).trans K3.out)).trans K4.out)).trans K5.out)).trans K6.out)))
      rw [HB2.out] at cc
      refine cc.mono ?_
      clear cc
      rintro e w7 ⟨rE, rfl, o, k⟩
      have K7 := Lib.hid k; clear k
      have E := Lib.hid o.arg; clear o
      obtain ⟨aE, cE, hrE, _, _⟩ := E.out
      subst hrE
      go_wp2
      go_ret
      exact ⟨rfl, (((((((((((((K1.out).trans K2.out)).trans K3.out)).trans K4.out)).trans K5.out)).trans K6.out)).trans K7.out)).below (Nat.le_refl _) (fun _ _ m => m)⟩
    · have HB2 := Lib.hid hb; have HV2 := Lib.hid hY; have HT2 := Lib.hid htx; have HR2 := Lib.hid (valid_rng hY); clear hb hY htx
      go_wp2_with fail
      have cc := parseS_any s1 _ (by omega) (HL.out.no (((((((((((K1.out).trans K2.out)).trans K3.out)).trans K4.out)).trans K5.out)).trans K6.out)))
      rw [HB2.out] at cc
      refine cc.mono ?_
      clear cc
      rintro e w7 ⟨rE, rfl, o, k⟩
      have K7 := Lib.hid k; clear k
      have E := Lib.hid o.arg; clear o
      go_wp2_with fail
      refine (ownS_any _ _ _ E.out (Nat.le_trans HR2.out.1 (by decide))).mono ?_
      rintro e w8 ⟨rE2, rfl, o, k⟩
      have K8 := Lib.hid k; clear k
      have E2 := Lib.hid o.arg
      have OE2 := Lib.hid o; clear o
      go_wp2_with fail
      refine (validS_at _ _ _ HV2.out _ E2.out (Nat.le_trans HR2.out.1 (by decide))).mono ?_
      rintro e wx ⟨rfl, rfl⟩
      go_wp2_with fail
      have cc := textS_any _ _ _ (E.out.no K8.out) (Nat.le_trans HR2.out.1 (by decide)) HR2.out.2 (HL.out.no (((((((((((((((K1.out).trans K2.out)).trans K3.out)).trans K4.out)).trans K5.out)).trans K6.out)).trans K7.out)).trans K8.out)))
      rw [HT2.out] at cc
      refine cc.mono ?_
      clear cc
      rintro e w9 ⟨rfl, k⟩
      have K9 := Lib.hid k; clear k
      have hs1 : (⟨s1.data.toList.toArray⟩ : ByteArray) = s1 := str_inj rfl
      rw [hs1]
      go_wp2
      go_ret
      exact ⟨rfl, (((((((((((((((((K1.out).trans K2.out)).trans K3.out)).trans K4.out)).trans K5.out)).trans K6.out)).trans K7.out)).trans K8.out)).trans K9.out)).below (Nat.le_refl _) (fun _ _ m => m)⟩
  · have hv' : validS L0 = false := by simpa using hv
    have HV := Lib.hid hv'; rw [if_neg hv] at HP; clear hv hv'
    go_wp2_with fail
    have cc := parseS_any ⟨(textS L0).toArray⟩ _ ht (HL.out.no (((((K1.out).trans K2.out)).trans K3.out)))
    rw [HP.out] at cc
    refine cc.mono ?_
    clear cc
    rintro e w4 ⟨rX, rfl, o, k⟩
    have K4 := Lib.hid k; clear k
    have X := Lib.hid o.arg; clear o
    go_wp2_with fail
    refine (ownS_any _ _ _ ((((H0.out.no K1.out).no K2.out).no K3.out).no K4.out) n0).mono ?_
    rintro e w5 ⟨rA2, rfl, o, k⟩
    have K5 := Lib.hid k; clear k
    have A2 := Lib.hid o.arg
    have OA2 := Lib.hid o; clear o
    go_wp2_with fail
    refine (validS_at _ _ _ HV.out _ A2.out m0).mono ?_
    rintro e wx ⟨rfl, rfl⟩
    rcases HB.out with hb | ⟨Y, hb, hY, htx⟩
    · have HB2 := Lib.hid hb; clear hb
      go_wp2_with fail
      have cc := parseS_any s1 _ (by omega) (HL.out.no (((((((((K1.out).trans K2.out)).trans K3.out)).trans K4.out)).trans K5.out)))
      rw [HB2.out] at cc
      refine cc.mono ?_
      clear cc
      rintro e w6 ⟨rE, rfl, o, k⟩
      have K6 := Lib.hid k; clear k
      have E := Lib.hid o.arg; clear o
      obtain ⟨aE, cE, hrE, _, _⟩ := E.out
      subst hrE
      go_wp2
      go_ret
      exact ⟨rfl, (((((((((((K1.out).trans K2.out)).trans K3.out)).trans K4.out)).trans K5.out)).trans K6.out)).below (Nat.le_refl _) (fun _ _ m => m)⟩
    · have HB2 := Lib.hid hb; have HV2 := Lib.hid hY; have HT2 := Lib.hid htx; have HR2 := Lib.hid (valid_rng hY); clear hb hY htx
      go_wp2_with fail
      have cc := parseS_any s1 _ (by omega) (HL.out.no (((((((((K1.out).trans K2.out)).trans K3.out)).trans K4.out)).trans K5.out)))
      rw [HB2.out] at cc
      refine cc.mono ?_
      clear cc
      rintro e w6 ⟨rE, rfl, o, k⟩
      have K6 := Lib.hid k; clear k
      have E := Lib.hid o.arg; clear o
      go_wp2_with fail
      refine (ownS_any _ _ _ E.out (Nat.le_trans HR2.out.1 (by decide))).mono ?_
      rintro e w7 ⟨rE2, rfl, o, k⟩
      have K7 := Lib.hid k; clear k
      have E2 := Lib.hid o.arg
      have OE2 := Lib.hid o; clear o
      go_wp2_with fail
      refine (validS_at _ _ _ HV2.out _ E2.out (Nat.le_trans HR2.out.1 (by decide))).mono ?_
      rintro e wx ⟨rfl, rfl⟩
      go_wp2_with fail
      have cc := textS_any _ _ _ (E.out.no K7.out) (Nat.le_trans HR2.out.1 (by decide)) HR2.out.2 (HL.out.no (((((((((((((K1.out).trans K2.out)).trans K3.out)).trans K4.out)).trans K5.out)).trans K6.out)).trans K7.out)))
      rw [HT2.out] at cc
      refine cc.mono ?_
      clear cc
      rintro e w8 ⟨rfl, k⟩
      have K8 := Lib.hid k; clear k
      have hs1 : (⟨s1.data.toList.toArray⟩ : ByteArray) = s1 := str_inj rfl
      rw [hs1]
      go_wp2
      go_ret
      exact ⟨rfl, (((((((((((((((K1.out).trans K2.out)).trans K3.out)).trans K4.out)).trans K5.out)).trans K6.out)).trans K7.out)).trans K8.out)).below (Nat.le_refl _) (fun _ _ m => m)⟩

set_option maxRecDepth 100000 in
theorem lifted (os : Os) (started : os.Started) (H : Type) (enc : TypeId × Value → H) (F : Stop.Interp) :
    ReturnsInHanded {} Tryd.checked os 7 .any ((Rows.OpenSpec.upto Rows.stampsBackSpec).preRow enc Tryd.prog Tryd.f7 Rows.stampsBackUptoRow.domain false Rows.stampsBackUptoRow.laid)
      (((Rows.OpenSpec.upto Rows.stampsBackSpec).at F).post enc Tryd.prog Tryd.f7 false true false false) := by
  refine returnsInHanded_of_row (C := Tryd.checked) (s := Rows.OpenSpec.upto Rows.stampsBackSpec) own started (by kernel_rfl) Tryd.func7
    (witness_row_at (enc := enc) (C := Tryd.checked) false (World.laidAll Tryd.prog os LAID) #[.slice none 0 0, .string ⟨#[]⟩] (World.laidAll_os _ _ _) (by kernel_rfl) (by kernel_rfl) (by kernel_rfl)
      (OpenSpec.preRow_of_cond (x := ([.nil, .lit (.string [])], [], [])) 8 (by kernel_rfl) (by kernel_rfl) (fun k hk => by cases hk; kernel_rfl) (by kernel_rfl) (laidMet_laidAll _ (by kernel_rfl) (by kernel_rfl)))) ?_
  intro W base args ds gs before hval0 hW hcnd hbulk hsz0 hL hsh _
  replace hbulk := hbulk _ rfl
  have hval : ∀ (j : Nat) t v, Tryd.f7.params[j]? = some t → args[j]? = some v → Value.okWide Tryd.prog W .any base t v := hval0
  have hW' := hW
  obtain ⟨p, q, hA0, hV, rfl, hfz, hnd⟩ := hW
  have hA : DataW.TrodAll enc Tryd.prog W 0 (fun _ => true) true Tryd.f7.params.toList args.toList ds p := hA0
  rw [Tryd.params7] at hA hval
  obtain ⟨v0, vs0, d0, ds0, p0, q0, hargs, rfl, rfl, h0, r0⟩ := trodAll_cons hA
  obtain ⟨v1, vs1, d1, ds1, p1, q1, rfl, rfl, rfl, h1, r1⟩ := trodAll_cons r0
  obtain ⟨rfl, rfl, rfl⟩ := trodAll_nil r1
  obtain rfl : args = #[v0, v1] := by cases args; simp_all
  obtain ⟨rfl, rfl⟩ := trodVars_none hV
  have hsz : ∀ (j : Nat) (t : TypeId) (d : DataW H), ([22, 9] : List TypeId)[j]? = some t → [d0, d1][j]? = some d → ∀ n ∈ d.weights Tryd.prog t, n ≤ reachBytes := by
    intro j t d ht hd n hn
    have hsz1 : (DataW.weightsEach Tryd.prog ([22, 9] : List TypeId) [d0, d1]).all (· ≤ reachBytes) = true := hsz0
    have := List.all_eq_true.1 hsz1 n (DataW.weights_mem_each ht hd n hn)
    simpa using this
  have hb0 := bulk_of hbulk (d := d0) (by simp)
  have hb1 := bulk_of hbulk (d := d1) (by simp)
  have k0 := h0
  have lt0 : ∀ x ∈ p0, x.block < W.heap.size := by obtain ⟨m, hm⟩ := k0; exact DataW.trod_lt m _ _ _ hm
  obtain ⟨L0, a0, l0, z0⟩ := open_intsU Tryd.underlying22 Tryd.underlying3 (by kernel_rfl) (by kernel_rfl) (hval 0 22 v0 rfl rfl) h0 (hsz 0 22 _ rfl rfl) hb0
  have k1 := h1
  have lt1 : ∀ x ∈ p1, x.block < W.heap.size := by obtain ⟨m, hm⟩ := k1; exact DataW.trod_lt m _ _ _ hm
  obtain ⟨s1, rfl, rfl, rfl, w1⟩ := open_string Tryd.underlying9 (hval 1 9 v1 rfl rfl) h1
  have l1 : s1.size ≤ 1048576 := by rw [bulk_string] at hb1; simp at hb1; omega
  refine (walk v0 L0 s1 W a0 l0 z0 l1 (lw_of hL hsh)).mono fun e W' ⟨he, bel⟩ => ?_
  subst he
  exact ⟨_, rfl, _, _, _, [], _, [], hW', trodAll_mk1 (shut_bool Tryd.underlying4 _), (trodAll_cons_mk (Below.trod laidOut (by kernel_rfl) (of_decide_eq_true (by kernel_rfl)) k0 bel lt0) (trodAll_cons_mk (Below.trod laidOut (by kernel_rfl) (of_decide_eq_true (by kernel_rfl)) k1 bel lt1) trodAll_mk0)), rfl, bel.frame _, fun h => by cases h⟩

theorem over : Rows.stampsBackUptoRow.holds Tryd.pinned (Rows.OpenSpec.upto Rows.stampsBackSpec) :=
  OpenClaim.holds_of_cond 7 Tryd.f7 rfl rfl rfl rfl rfl rfl rfl ⟨rfl, rfl, rfl, rfl, rfl⟩ rfl rfl rfl rfl rfl (by kernel_rfl) Tryd.func7 (by kernel_rfl)
    (of_decide_eq_true (by kernel_rfl)) (by unfold Func.isWrapper; first | (rw [if_pos (by decide +kernel)]; kernel_rfl) | (rw [if_neg (by decide +kernel)]; exact ⟨rfl, rfl⟩))
    (fun os started H enc _ F => by rw [OpenClaim.pre_eq_preRow]; exact lifted os started H enc F)

theorem proved : Rows.StampsBackUptoCardSaid :=
  Claim7.holds_tied_plain_at .later [] [.data, .data, .data, .data, .sentinel, .sentinel, .pinned] true (true, "5f12fa10b805fcb0d992aeb5db102955f99dabd546fdc4991e02cd6d2c5be258") true over (fun _ h => by cases h) (by kernel_rfl) (fun _ h => by cases h) stampsBackUpto_row_tie rfl ⟨rfl, rfl⟩ (by kernel_rfl) rfl
    (fun f fn hf hfn => by
      obtain rfl : f = 7 := Option.some.inj ((show Tryd.prog.funcNamed "sublet/subletlaw04.StampsBack" = some 7 by kernel_rfl).symm.trans hf) |>.symm
      obtain rfl : fn = Tryd.f7 := (Option.some.inj (Tryd.func7.symm.trans hfn)).symm
      exact ⟨by kernel_rfl, fun j t ht => by
        rw [Tryd.params7] at ht
        have hm : t ∈ ([22, 9] : List TypeId) := by simpa using Array.mem_of_getElem? ht
        have hall : (([22, 9] : List TypeId).all fun u => !Tryd.prog.wantsStandIn u) = true := by kernel_rfl
        exact (show Tryd.prog.wantsStandIn t = false by simpa using List.all_eq_true.1 hall t hm)⟩)
    (by kernel_rfl)
#print axioms proved
end Go.Proofs.YtfbogdeodpkhcaaDoor.stampsBack
