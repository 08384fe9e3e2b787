/- StampsGrow returns true for any list and numbers: an extended stamp is under its stamp and ahead of the next one. No condition. -/
import Derived.Test.YtfbogdeodpkhcaaDoorStJ
import Derived.Test.YtfbogdeodpkhcaaDoorCards
import Derived.Test.YtfbogdeodpkhcaaDoorStK
namespace Go.Proofs.YtfbogdeodpkhcaaDoor.stampsGrow
open Go.ChangeShapes Go.WideShapes Go.ChangeAt Go.RowKit Go.PlainAid
open Go.ChangeMaps (open_string shut_string)

theorem own : ownKnob Tryd.prog.godebug = none := by kernel_rfl
theorem laidOut : laidOutB Tryd.prog = true := by kernel_rfl
set_option maxRecDepth 100000 in
set_option maxHeartbeats 4000000 in
theorem walk (v0 : Value) (L0 : List Int) (n1 n2 : Int) (w : World) (a0 : ArgInts w v0 L0) (l0 : L0.length ≤ 17592186043904) (z0 : ∀ n ∈ L0, -9223372036854775808 ≤ n ∧ n ≤ 9223372036854775807) (_x1 : n1 < 9223372036854775808) (_x2 : n2 < 9223372036854775808) (hL : Lw w) : Calls Tryd.prog 9 #[v0, .int .i64 n1, .int .i64 n2] w fun e w' => e = .returned (.bool true) ∧ Below w.heap.size w w' := by
  have HL := Lib.hid hL; clear hL
  have H0 := Lib.hid a0; clear a0
  have m0 : L0.length ≤ maxLen := by unfold maxLen; omega
  go_enter Tryd.func9, Tryd.ntmps9
  go_wp2_with fail
  refine (awakeS_any _ HL.out).mono ?_
  rintro e w1 ⟨rfl, k⟩
  have K1 := Lib.hid k; clear k
  obtain ⟨X, e, hX⟩ : ∃ X e, extS L0 n1 = (X, e) := ⟨_, _, rfl⟩
  obtain ⟨Y, f, hY⟩ : ∃ X e, extS L0 n2 = (X, e) := ⟨_, _, rfl⟩
  obtain ⟨M, g, hM⟩ : ∃ X e, nextS L0 = (X, e) := ⟨_, _, rfl⟩
  have GX := Lib.hid (grow_ext2 hX); have GY := Lib.hid (grow_ext2 hY); have GM := Lib.hid (grow_next2 hM)
  have HXX := Lib.hid hX; have HYY := Lib.hid hY; have HMM := Lib.hid hM
  have mM : M.length ≤ maxLen := by have := next_len L0; rw [hM] at this; exact Nat.le_trans this m0
  have lM : M.length ≤ 17592186043904 := by have := next_len L0; rw [hM] at this; exact Nat.le_trans this l0
  clear hX hY hM
  go_wp2_with fail
  refine (ownS_any _ _ _ (H0.out.no K1.out) l0).mono ?_
  rintro e w2 ⟨rA1, rfl, o, k⟩
  have K2 := Lib.hid k; clear k
  have A1 := Lib.hid o.arg
  have OA1 := Lib.hid o; clear o
  go_wp2_with fail
  refine (extS_at _ _ _ _ _ HXX.out _ A1.out m0).mono ?_
  rintro e w3 ⟨rBX, rfl, o, k⟩
  have K3 := Lib.hid k; clear k
  have BX := Lib.hid o.arg
  have OBX := Lib.hid o; clear o
  go_wp2_with fail
  refine (ownS_any _ _ _ (((H0.out.no K1.out).no K2.out).no K3.out) l0).mono ?_
  rintro e w4 ⟨rA2, rfl, o, k⟩
  have K4 := Lib.hid k; clear k
  have A2 := Lib.hid o.arg
  have OA2 := Lib.hid o; clear o
  go_wp2_with fail
  refine (extS_at _ _ _ _ _ HYY.out _ A2.out m0).mono ?_
  rintro e w5 ⟨rBY, rfl, o, k⟩
  have K5 := Lib.hid k; clear k
  have BY := Lib.hid o.arg
  have OBY := Lib.hid o; clear o
  go_wp2_with fail
  refine (ownS_any _ _ _ (((((H0.out.no K1.out).no K2.out).no K3.out).no K4.out).no K5.out) l0).mono ?_
  rintro e w6 ⟨rA3, rfl, o, k⟩
  have K6 := Lib.hid k; clear k
  have A3 := Lib.hid o.arg
  have OA3 := Lib.hid o; clear o
  go_wp2_with fail
  refine (nextS_at _ _ _ _ HMM.out _ A3.out m0).mono ?_
  rintro e w7 ⟨rM0, rfl, o, k⟩
  have K7 := Lib.hid k; clear k
  have BM := Lib.hid o.arg
  have OBM := Lib.hid o; clear o
  obtain ⟨aM, cM, hrM, hcM⟩ := own_len OBM.out
  subst hrM
  obtain ⟨A0, c0, hv0, hc0, hcs0⟩ := H0.out
  subst hv0
  clear hcs0
  go_upto_region 6 with (fail)
  go_cut [58] (fun s wx => s = .bool false ∧ Kp No w7 wx)
  case first =>
    rcases GM.out with ⟨e1, e2⟩ | ⟨e1, e2, e3, e4, e5⟩
    · have g1 : (g == 0) = false := by simp [e2]
      clear e1 e2
      go_wp2
      go_meet
      exact ⟨rfl, Kp.refl No w7⟩
    · subst e1
      have E3 := Lib.hid e3; have E4 := Lib.hid e4
      have hne : ((M.length : Int) != (L0.length : Int)) = false := by rw [e2]; simp
      have hnb : ((M.length : Int) == (L0.length : Int)) = true := by rw [e2]; simp
      clear e2 e3 e4 e5
      go_wp2_with fail
      refine (ownS_any _ _ _ (((((((H0.out.no K1.out).no K2.out).no K3.out).no K4.out).no K5.out).no K6.out).no K7.out) l0).mono ?_
      rintro e w8 ⟨rQ1, rfl, o, k⟩
      have K8 := Lib.hid k; clear k
      have Q1 := Lib.hid o.arg
      have OQ1 := Lib.hid o; clear o
      go_wp2_with fail
      refine (ownS_any _ _ _ (BM.out.no K8.out) lM).mono ?_
      rintro e w9 ⟨rQ2, rfl, o, k⟩
      have K9 := Lib.hid k; clear k
      have Q2 := Lib.hid o.arg
      have OQ2 := Lib.hid o; clear o
      go_wp2_with fail
      refine (compareS_at _ _ _ _ _ (E3.out) _ (Q1.out.no K9.out) Q2.out m0 mM).mono ?_
      rintro e w10 ⟨rfl, k⟩
      have K10 := Lib.hid k; clear k
      go_wp2_with fail
      refine (ownS_any _ _ _ ((((((((((H0.out.no K1.out).no K2.out).no K3.out).no K4.out).no K5.out).no K6.out).no K7.out).no K8.out).no K9.out).no K10.out) l0).mono ?_
      rintro e w11 ⟨rQ3, rfl, o, k⟩
      have K11 := Lib.hid k; clear k
      have Q3 := Lib.hid o.arg
      have OQ3 := Lib.hid o; clear o
      go_wp2_with fail
      refine (ownS_any _ _ _ ((((BM.out.no K8.out).no K9.out).no K10.out).no K11.out) lM).mono ?_
      rintro e w12 ⟨rQ4, rfl, o, k⟩
      have K12 := Lib.hid k; clear k
      have Q4 := Lib.hid o.arg
      have OQ4 := Lib.hid o; clear o
      go_wp2_with fail
      refine (underS_at _ _ _ _ _ (E4.out) _ (Q3.out.no K12.out) Q4.out m0 mM).mono ?_
      rintro e w13 ⟨rfl, k⟩
      have K13 := Lib.hid k; clear k
      go_wp2
      go_meet
      exact ⟨rfl, (((((K8.out.trans K9.out).trans K10.out).trans K11.out).trans K12.out).trans K13.out)⟩
  case rest =>
  obtain ⟨rfl, kc⟩ := hcut
  revert kc; revert wc; intro w8 kc
  have K8 := Lib.hid kc; clear kc
  rcases GX.out with ⟨e1, e2, e3⟩ | ⟨e1, e2, e3, e4, e5, e6⟩
  · subst e1
    obtain ⟨aX, cX, hrX, hcX⟩ := own_len OBX.out
    simp only [List.length_nil] at hrX
    subst hrX
    clear e2
    rcases e3 with ⟨rfl, e3⟩ | ⟨rfl, e3⟩ | ⟨rfl, e3⟩ | ⟨rfl, e3, e4⟩
    · have E3 := Lib.hid e3; clear e3
      go_wp2_with fail
      refine (ownS_any _ _ _ ((((((((H0.out.no K1.out).no K2.out).no K3.out).no K4.out).no K5.out).no K6.out).no K7.out).no K8.out) l0).mono ?_
      rintro e w9 ⟨rQ1, rfl, o, k⟩
      have K9 := Lib.hid k; clear k
      have Q1 := Lib.hid o.arg
      have OQ1 := Lib.hid o; clear o
      go_wp2_with fail
      refine (validS_at _ _ _ E3.out _ Q1.out m0).mono ?_
      rintro e wx ⟨rfl, rfl⟩
      go_wp2
      go_ret
      exact ⟨rfl, (((((((((((((((((K1.out).trans K2.out)).trans K3.out)).trans K4.out)).trans K5.out)).trans K6.out)).trans K7.out)).trans K8.out)).trans K9.out)).below (Nat.le_refl _) (fun _ _ m => m)⟩
    · have e4 : ((L0.length : Int) == 4) = true := by rw [e3]; rfl
      clear e3
      go_wp2
      go_ret
      exact ⟨rfl, (((((((((((((((K1.out).trans K2.out)).trans K3.out)).trans K4.out)).trans K5.out)).trans K6.out)).trans K7.out)).trans K8.out)).below (Nat.le_refl _) (fun _ _ m => m)⟩
    · skip
      go_wp2
      go_ret
      exact ⟨rfl, (((((((((((((((K1.out).trans K2.out)).trans K3.out)).trans K4.out)).trans K5.out)).trans K6.out)).trans K7.out)).trans K8.out)).below (Nat.le_refl _) (fun _ _ m => m)⟩
    · skip
      go_wp2
      go_ret
      exact ⟨rfl, (((((((((((((((K1.out).trans K2.out)).trans K3.out)).trans K4.out)).trans K5.out)).trans K6.out)).trans K7.out)).trans K8.out)).below (Nat.le_refl _) (fun _ _ m => m)⟩
  · subst e1 e2
    have E3 := Lib.hid e3; have E4 := Lib.hid e4; have E5 := Lib.hid e5
    have hbx := (((((BX.out.no K4.out).no K5.out).no K6.out).no K7.out).no K8.out)
    obtain ⟨gx, ox, cx, hrX, _⟩ := hbx.at_ (k := L0.length) (by simp)
    have hlx : (L0 ++ [n1]).length = L0.length + 1 := by simp
    have HLX := Lib.hid hlx
    rw [hlx] at hrX
    subst hrX
    clear e3 e4 e5 hbx hlx
    have mX : (L0 ++ [n1]).length ≤ maxLen := by rw [HLX.out]; unfold maxLen; omega
    have lX : (L0 ++ [n1]).length ≤ 17592186043904 := by rw [HLX.out]; omega
    go_upto_region 10 with (fail)
    go_cut [131] (fun s wx => s = .bool false ∧ Kp No w8 wx)
    case first =>
      go_wp2_with fail
      refine (ownS_any _ _ _ (((((BX.out.no K4.out).no K5.out).no K6.out).no K7.out).no K8.out) lX).mono ?_
      rintro e w9 ⟨rQ1, rfl, o, k⟩
      have K9 := Lib.hid k; clear k
      have Q1 := Lib.hid o.arg
      have OQ1 := Lib.hid o; clear o
      go_wp2_with fail
      refine (validS_at _ _ _ E3.out _ Q1.out mX).mono ?_
      rintro e wx ⟨rfl, rfl⟩
      go_wp2_with fail
      refine (ownS_any _ _ _ (((((((((H0.out.no K1.out).no K2.out).no K3.out).no K4.out).no K5.out).no K6.out).no K7.out).no K8.out).no K9.out) l0).mono ?_
      rintro e w10 ⟨rQ2, rfl, o, k⟩
      have K10 := Lib.hid k; clear k
      have Q2 := Lib.hid o.arg
      have OQ2 := Lib.hid o; clear o
      go_wp2_with fail
      refine (ownS_any _ _ _ (((((((BX.out.no K4.out).no K5.out).no K6.out).no K7.out).no K8.out).no K9.out).no K10.out) lX).mono ?_
      rintro e w11 ⟨rQ3, rfl, o, k⟩
      have K11 := Lib.hid k; clear k
      have Q3 := Lib.hid o.arg
      have OQ3 := Lib.hid o; clear o
      go_wp2_with fail
      refine (underS_at _ _ _ _ _ (E4.out) _ (Q2.out.no K11.out) Q3.out m0 mX).mono ?_
      rintro e w12 ⟨rfl, k⟩
      have K12 := Lib.hid k; clear k
      go_wp2_with fail
      refine (ownS_any _ _ _ ((((((((((((H0.out.no K1.out).no K2.out).no K3.out).no K4.out).no K5.out).no K6.out).no K7.out).no K8.out).no K9.out).no K10.out).no K11.out).no K12.out) l0).mono ?_
      rintro e w13 ⟨rQ4, rfl, o, k⟩
      have K13 := Lib.hid k; clear k
      have Q4 := Lib.hid o.arg
      have OQ4 := Lib.hid o; clear o
      go_wp2_with fail
      refine (ownS_any _ _ _ ((((((((((BX.out.no K4.out).no K5.out).no K6.out).no K7.out).no K8.out).no K9.out).no K10.out).no K11.out).no K12.out).no K13.out) lX).mono ?_
      rintro e w14 ⟨rQ5, rfl, o, k⟩
      have K14 := Lib.hid k; clear k
      have Q5 := Lib.hid o.arg
      have OQ5 := Lib.hid o; clear o
      go_wp2_with fail
      refine (compareS_at _ _ _ _ _ (E5.out) _ (Q4.out.no K14.out) Q5.out m0 mX).mono ?_
      rintro e w15 ⟨rfl, k⟩
      have K15 := Lib.hid k; clear k
      have hcell := arg_cell (j := L0.length) (x := n1) ((((((((((((BX.out.no K4.out).no K5.out).no K6.out).no K7.out).no K8.out).no K9.out).no K10.out).no K11.out).no K12.out).no K13.out).no K14.out).no K15.out) (by simp)
      have i0 : (0 : Int) ≤ (L0.length : Int) := by omega
      have i1 : (L0.length : Int) < (L0.length : Int) + 1 := by omega
      go_wp2
      go_meet
      exact ⟨rfl, ((((((K9.out.trans K10.out).trans K11.out).trans K12.out).trans K13.out).trans K14.out).trans K15.out)⟩
    case rest =>
    obtain ⟨rfl, kc⟩ := hcut
    revert kc; revert wc; intro w9 kc
    have K9 := Lib.hid kc; clear kc
    go_upto_region 12 with (fail)
    go_cut [146] (fun s wx => s = .bool false ∧ Kp No w9 wx)
    case first =>
      rcases GY.out with ⟨e1, e2, _⟩ | ⟨e1, e2, _⟩
      · have g1 : (f == 0) = false := by simp [e2]
        clear e1 e2
        go_wp2
        go_meet
        exact ⟨rfl, Kp.refl No w9⟩
      · subst e1 e2
        by_cases hnm : n1 < n2
        · have E6 := Lib.hid (grow_two L0 hnm)
          have mY : (L0 ++ [n2]).length ≤ maxLen := by rw [List.length_append]; unfold maxLen; simp; omega
          have lY : (L0 ++ [n2]).length ≤ 17592186043904 := by rw [List.length_append]; simp; omega
          go_wp2_with fail
          refine (ownS_any _ _ _ ((((((BX.out.no K4.out).no K5.out).no K6.out).no K7.out).no K8.out).no K9.out) lX).mono ?_
          rintro e w10 ⟨rQ1, rfl, o, k⟩
          have K10 := Lib.hid k; clear k
          have Q1 := Lib.hid o.arg
          have OQ1 := Lib.hid o; clear o
          go_wp2_with fail
          refine (ownS_any _ _ _ (((((BY.out.no K6.out).no K7.out).no K8.out).no K9.out).no K10.out) lY).mono ?_
          rintro e w11 ⟨rQ2, rfl, o, k⟩
          have K11 := Lib.hid k; clear k
          have Q2 := Lib.hid o.arg
          have OQ2 := Lib.hid o; clear o
          go_wp2_with fail
          refine (compareS_at _ _ _ _ _ (E6.out) _ (Q1.out.no K11.out) Q2.out mX mY).mono ?_
          rintro e w12 ⟨rfl, k⟩
          have K12 := Lib.hid k; clear k
          go_wp2
          go_meet
          exact ⟨rfl, ((K10.out.trans K11.out).trans K12.out)⟩
        · skip
          go_wp2
          go_meet
          exact ⟨rfl, Kp.refl No w9⟩
    case rest =>
    obtain ⟨rfl, kc⟩ := hcut
    revert kc; revert wc; intro w10 kc
    have K10 := Lib.hid kc; clear kc
    rcases GM.out with ⟨e1, e2⟩ | ⟨e1, e2, e3, e4, e5⟩
    · have g1 : (g == 0) = false := by simp [e2]
      have g2 : (g != 0) = true := by simp [e2]
      clear e1 e2
      go_wp2
      go_ret
      exact ⟨rfl, (((((((((((((((((((K1.out).trans K2.out)).trans K3.out)).trans K4.out)).trans K5.out)).trans K6.out)).trans K7.out)).trans K8.out)).trans K9.out)).trans K10.out)).below (Nat.le_refl _) (fun _ _ m => m)⟩
    · subst e1
      have E5 := Lib.hid (e5 n1)
      clear e2 e3 e4 e5
      go_wp2_with fail
      refine (ownS_any _ _ _ (((((((BX.out.no K4.out).no K5.out).no K6.out).no K7.out).no K8.out).no K9.out).no K10.out) lX).mono ?_
      rintro e w11 ⟨rQ1, rfl, o, k⟩
      have K11 := Lib.hid k; clear k
      have Q1 := Lib.hid o.arg
      have OQ1 := Lib.hid o; clear o
      go_wp2_with fail
      refine (ownS_any _ _ _ ((((BM.out.no K8.out).no K9.out).no K10.out).no K11.out) lM).mono ?_
      rintro e w12 ⟨rQ2, rfl, o, k⟩
      have K12 := Lib.hid k; clear k
      have Q2 := Lib.hid o.arg
      have OQ2 := Lib.hid o; clear o
      go_wp2_with fail
      refine (compareS_at _ _ _ _ _ (E5.out) _ (Q1.out.no K12.out) Q2.out mX mM).mono ?_
      rintro e w13 ⟨rfl, k⟩
      have K13 := Lib.hid k; clear k
      go_wp2
      go_ret
      exact ⟨rfl, (((((((((((((((((((((((((K1.out).trans K2.out)).trans K3.out)).trans K4.out)).trans K5.out)).trans K6.out)).trans K7.out)).trans K8.out)).trans K9.out)).trans K10.out)).trans K11.out)).trans K12.out)).trans K13.out)).below (Nat.le_refl _) (fun _ _ m => m)⟩

set_option maxRecDepth 100000 in
theorem lifted (os : Os) (started : os.Started) (H : Type) (enc : TypeId × Value → H) :
    ReturnsInHanded {} Tryd.checked os 9 .any (fun w args => (Rows.stampsGrowSpec.pre enc Tryd.prog Tryd.f9 Rows.stampsGrowRow.domain false w args ∧ laidMetH Tryd.prog LAID w) ∧ sizedMet enc Tryd.prog Tryd.f9 (OpenSpec.ofChange Rows.stampsGrowSpec) false w args)
      (Rows.stampsGrowSpec.post enc Tryd.prog Tryd.f9 false true false false) := by
  refine returnsInHanded_and_shaped (C := Tryd.checked) (X := (fun w _ => laidMetH Tryd.prog LAID w)) (fun _ _ _ hh h => h.of_heap hh) own started (by kernel_rfl) Tryd.func9
    (ChangeSpec.witness_shaped (enc := enc) (C := Tryd.checked) (os := os) (X := (fun w _ => laidMetH Tryd.prog LAID w)) false (World.laidAll Tryd.prog os LAID) #[.slice none 0 0, .int .i64 0, .int .i64 0] 8 (World.laidAll_os _ _ _)
      (World.shaped_of_ZipB (by kernel_rfl) (by kernel_rfl)) (by kernel_rfl) (by kernel_rfl) (by kernel_rfl)
      (by rw [MakeChecks.laidMetH_plain _ _ _ (by kernel_rfl)]; exact laidMet_laidAll _ (by kernel_rfl) (by kernel_rfl))) ?_
  intro W base args ds gs before hval0 hW hcnd hsz0 hL hsh _
  have hval : ∀ (j : Nat) t v, Tryd.f9.params[j]? = some t → args[j]? = some v → Value.okWide Tryd.prog W .any base t v := hval0
  have hW' := hW
  obtain ⟨p, q, hA0, hV, rfl, hfz, hnd⟩ := hW
  have hA : DataW.TrodAll enc Tryd.prog W 0 (fun _ => true) true Tryd.f9.params.toList args.toList ds p := hA0
  rw [Tryd.params9] at hA hval
  obtain ⟨v0, vs0, d0, ds0, p0, q0, hargs, rfl, rfl, h0, r0⟩ := trodAll_cons hA
  obtain ⟨v1, vs1, d1, ds1, p1, q1, rfl, rfl, rfl, h1, r1⟩ := trodAll_cons r0
  obtain ⟨v2, vs2, d2, ds2, p2, q2, rfl, rfl, rfl, h2, r2⟩ := trodAll_cons r1
  obtain ⟨rfl, rfl, rfl⟩ := trodAll_nil r2
  obtain rfl : args = #[v0, v1, v2] := by cases args; simp_all
  obtain ⟨rfl, rfl⟩ := trodVars_none hV
  have hsz : ∀ (j : Nat) (t : TypeId) (d : DataW H), ([22, 3, 3] : List TypeId)[j]? = some t → [d0, d1, d2][j]? = some d → ∀ n ∈ d.weights Tryd.prog t, n ≤ reachBytes := by
    intro j t d ht hd n hn
    have hsz1 : (DataW.weightsEach Tryd.prog ([22, 3, 3] : List TypeId) [d0, d1, d2]).all (· ≤ reachBytes) = true := hsz0
    have := List.all_eq_true.1 hsz1 n (DataW.weights_mem_each ht hd n hn)
    simpa using this
  have k0 := h0
  have lt0 : ∀ x ∈ p0, x.block < W.heap.size := by obtain ⟨m, hm⟩ := k0; exact DataW.trod_lt m _ _ _ hm
  obtain ⟨L0, a0, l0, z0⟩ := open_intsA Tryd.underlying22 Tryd.underlying3 (by kernel_rfl) (by kernel_rfl) (hval 0 22 v0 rfl rfl) h0 (hsz 0 22 _ rfl rfl)
  have k1 := h1
  have lt1 : ∀ x ∈ p1, x.block < W.heap.size := by obtain ⟨m, hm⟩ := k1; exact DataW.trod_lt m _ _ _ hm
  obtain ⟨n1, rfl, rfl, rfl, x1⟩ := open_int Tryd.underlying3 (hval 1 3 v1 rfl rfl) h1
  have k2 := h2
  have lt2 : ∀ x ∈ p2, x.block < W.heap.size := by obtain ⟨m, hm⟩ := k2; exact DataW.trod_lt m _ _ _ hm
  obtain ⟨n2, rfl, rfl, rfl, x2⟩ := open_int Tryd.underlying3 (hval 2 3 v2 rfl rfl) h2
  refine (walk v0 L0 n1 n2 W a0 l0 z0 (by have := bounds_i64 x1; omega) (by have := bounds_i64 x2; omega) (lw_of hL hsh)).mono fun e W' ⟨he, bel⟩ => ?_
  subst he
  exact ⟨_, rfl, _, _, _, [], _, [], hW', trodAll_mk1 (shut_bool Tryd.underlying4 _), (trodAll_cons_mk (Below.trod laidOut (by kernel_rfl) (of_decide_eq_true (by kernel_rfl)) k0 bel lt0) (trodAll_cons_mk (Below.trod laidOut (by kernel_rfl) (of_decide_eq_true (by kernel_rfl)) k1 bel lt1) (trodAll_cons_mk (Below.trod laidOut (by kernel_rfl) (of_decide_eq_true (by kernel_rfl)) k2 bel lt2) trodAll_mk0))), rfl, bel.frame _, fun h => by cases h⟩

theorem over : Rows.stampsGrowRow.holds Tryd.pinned (OpenSpec.ofChange Rows.stampsGrowSpec) :=
  OpenClaim.holds_of_wide 9 Tryd.f9 rfl rfl rfl rfl rfl rfl rfl ⟨rfl, rfl, rfl, rfl, rfl⟩ rfl rfl rfl rfl rfl (by kernel_rfl) Tryd.func9 (by kernel_rfl)
    (of_decide_eq_true (by kernel_rfl)) (by unfold Func.isWrapper; first | (rw [if_pos (by decide +kernel)]; kernel_rfl) | (rw [if_neg (by decide +kernel)]; exact ⟨rfl, rfl⟩))
    (fun os started H enc _ => lifted os started H enc)

theorem proved : Rows.StampsGrowCardSaid :=
  Claim7.holds_tied_plain_at .later [] [.data, .data, .data, .data, .sentinel, .sentinel, .pinned] true (true, "5f12fa10b805fcb0d992aeb5db102955f99dabd546fdc4991e02cd6d2c5be258") true over (fun _ h => by cases h) (by kernel_rfl) (fun _ h => by cases h) stampsGrow_row_tie rfl ⟨rfl, rfl⟩ (by kernel_rfl) rfl
    (fun f fn hf hfn => by
      obtain rfl : f = 9 := Option.some.inj ((show Tryd.prog.funcNamed "sublet/subletlaw04.StampsGrow" = some 9 by kernel_rfl).symm.trans hf) |>.symm
      obtain rfl : fn = Tryd.f9 := (Option.some.inj (Tryd.func9.symm.trans hfn)).symm
      exact ⟨by kernel_rfl, fun j t ht => by
        rw [Tryd.params9] at ht
        have hm : t ∈ ([22, 3, 3] : List TypeId) := by simpa using Array.mem_of_getElem? ht
        have hall : (([22, 3, 3] : List TypeId).all fun u => !Tryd.prog.wantsStandIn u) = true := by kernel_rfl
        exact (show Tryd.prog.wantsStandIn t = false by simpa using List.all_eq_true.1 hall t hm)⟩)
    (by kernel_rfl)
#print axioms proved
end Go.Proofs.YtfbogdeodpkhcaaDoor.stampsGrow
