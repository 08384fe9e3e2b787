/- StampsOrder returns true for any three lists: stamps are in one total order. No condition. -/
import Derived.Test.YtfbogdeodpkhcaaDoorStJ
import Derived.Test.YtfbogdeodpkhcaaDoorCards
import Derived.Test.YtfbogdeodpkhcaaDoorStK
namespace Go.Proofs.YtfbogdeodpkhcaaDoor.stampsOrder
open Go.ChangeShapes Go.WideShapes Go.ChangeAt Go.RowKit Go.PlainAid
open Go.ChangeMaps (open_string shut_string)

theorem own : ownKnob Tryd.prog.godebug = none := by kernel_rfl
theorem laidOut : laidOutB Tryd.prog = true := by kernel_rfl
set_option maxRecDepth 100000 in
set_option maxHeartbeats 4000000 in
theorem walk (v0 : Value) (L0 : List Int) (v1 : Value) (L1 : List Int) (v2 : Value) (L2 : List Int) (w : World) (a0 : ArgInts w v0 L0) (l0 : L0.length ≤ 17592186043904) (z0 : ∀ n ∈ L0, -9223372036854775808 ≤ n ∧ n ≤ 9223372036854775807) (a1 : ArgInts w v1 L1) (l1 : L1.length ≤ 17592186043904) (z1 : ∀ n ∈ L1, -9223372036854775808 ≤ n ∧ n ≤ 9223372036854775807) (a2 : ArgInts w v2 L2) (l2 : L2.length ≤ 17592186043904) (z2 : ∀ n ∈ L2, -9223372036854775808 ≤ n ∧ n ≤ 9223372036854775807) (hL : Lw w) : Calls Tryd.prog 8 #[v0, v1, v2] w fun e w' => e = .returned (.bool true) ∧ Below w.heap.size w w' := by
  have HL := Lib.hid hL; clear hL
  have H0 := Lib.hid a0; clear a0
  have m0 : L0.length ≤ maxLen := by unfold maxLen; omega
  have H1 := Lib.hid a1; clear a1
  have m1 : L1.length ≤ maxLen := by unfold maxLen; omega
  have H2 := Lib.hid a2; clear a2
  have m2 : L2.length ≤ maxLen := by unfold maxLen; omega
  go_enter Tryd.func8, Tryd.ntmps8
  go_wp2_with fail
  refine (awakeS_any _ HL.out).mono ?_
  rintro e w1 ⟨rfl, k⟩
  have K1 := Lib.hid k; clear k
  go_wp2_with fail
  refine (ownS_any _ _ _ (H0.out.no K1.out) l0).mono ?_
  rintro e w2 ⟨rA1, rfl, o, k⟩
  have K2 := Lib.hid k; clear k
  have A1 := Lib.hid o.arg
  have OA1 := Lib.hid o; clear o
  go_wp2_with fail
  refine (ownS_any _ _ _ ((H1.out.no K1.out).no K2.out) l1).mono ?_
  rintro e w3 ⟨rB1, rfl, o, k⟩
  have K3 := Lib.hid k; clear k
  have B1 := Lib.hid o.arg
  have OB1 := Lib.hid o; clear o
  go_wp2_with fail
  refine (compareS_any _ _ _ _ _ (A1.out.no K3.out) B1.out m0 m1).mono ?_
  rintro e w4 ⟨rfl, k⟩
  have K4 := Lib.hid k; clear k
  go_wp2_with fail
  refine (ownS_any _ _ _ ((((H1.out.no K1.out).no K2.out).no K3.out).no K4.out) l1).mono ?_
  rintro e w5 ⟨rB2, rfl, o, k⟩
  have K5 := Lib.hid k; clear k
  have B2 := Lib.hid o.arg
  have OB2 := Lib.hid o; clear o
  go_wp2_with fail
  refine (ownS_any _ _ _ (((((H2.out.no K1.out).no K2.out).no K3.out).no K4.out).no K5.out) l2).mono ?_
  rintro e w6 ⟨rC2, rfl, o, k⟩
  have K6 := Lib.hid k; clear k
  have C2 := Lib.hid o.arg
  have OC2 := Lib.hid o; clear o
  go_wp2_with fail
  refine (compareS_any _ _ _ _ _ (B2.out.no K6.out) C2.out m1 m2).mono ?_
  rintro e w7 ⟨rfl, k⟩
  have K7 := Lib.hid k; clear k
  go_wp2_with fail
  refine (ownS_any _ _ _ (((((((H0.out.no K1.out).no K2.out).no K3.out).no K4.out).no K5.out).no K6.out).no K7.out) l0).mono ?_
  rintro e w8 ⟨rA3, rfl, o, k⟩
  have K8 := Lib.hid k; clear k
  have A3 := Lib.hid o.arg
  have OA3 := Lib.hid o; clear o
  go_wp2_with fail
  refine (ownS_any _ _ _ ((((((((H2.out.no K1.out).no K2.out).no K3.out).no K4.out).no K5.out).no K6.out).no K7.out).no K8.out) l2).mono ?_
  rintro e w9 ⟨rC3, rfl, o, k⟩
  have K9 := Lib.hid k; clear k
  have C3 := Lib.hid o.arg
  have OC3 := Lib.hid o; clear o
  go_wp2_with fail
  refine (compareS_any _ _ _ _ _ (A3.out.no K9.out) C3.out m0 m2).mono ?_
  rintro e w10 ⟨rfl, k⟩
  have K10 := Lib.hid k; clear k
  have HC := Lib.hid (cmpS_three L0 L1)
  have HT := Lib.hid (cmpS_trans L0 L1 L2)
  have HU := Lib.hid (@under_cmp L0 L1)
  have HP := Lib.hid (@under_past L0 L1 L2)
  have HUT := Lib.hid (@under_trans L0 L1 L2)
  obtain ⟨x, hx⟩ : Iv (cmpS L0 L1) := ⟨_, rfl⟩
  obtain ⟨y, hy⟩ : Iv (cmpS L1 L2) := ⟨_, rfl⟩
  obtain ⟨z, hz⟩ : Iv (cmpS L0 L2) := ⟨_, rfl⟩
  rw [hx, hy, hz]
  have HX := Lib.hid hx; have HY := Lib.hid hy; have HZ := Lib.hid hz
  clear hx hy hz
  go_upto_region 4 with (fail)
  go_cut [63] (fun s wx => s = .bool false ∧ Kp No w10 wx)
  case first =>
    rcases HC.out with ⟨c1, c2, c3⟩ | ⟨c1, c2, c3⟩ | ⟨c1, c2, c3⟩
    · have ex : x = 0 := by rw [← HX.out]; exact c1
      subst ex
      have HC2 := Lib.hid c2; have HS3 : Hid (decide (L0 = L1) = true) := decide_eq_true c3; clear c1 c2 c3
      by_cases y0 : y ≤ 0
      · have z0 : z ≤ 0 := by have := HT.out (by rw [HX.out]; decide) (by rw [HY.out]; exact y0); rw [HZ.out] at this; exact this
        have z2 : decide (0 < z) = false := decide_eq_false (by omega)
        go_wp2_with fail
        refine (ownS_any _ _ _ ((((((((((H1.out.no K1.out).no K2.out).no K3.out).no K4.out).no K5.out).no K6.out).no K7.out).no K8.out).no K9.out).no K10.out) l1).mono ?_
        rintro e w11 ⟨rQ1, rfl, o, k⟩
        have K11 := Lib.hid k; clear k
        have Q1 := Lib.hid o.arg
        have OQ1 := Lib.hid o; clear o
        go_wp2_with fail
        refine (ownS_any _ _ _ (((((((((((H0.out.no K1.out).no K2.out).no K3.out).no K4.out).no K5.out).no K6.out).no K7.out).no K8.out).no K9.out).no K10.out).no K11.out) l0).mono ?_
        rintro e w12 ⟨rQ2, rfl, o, k⟩
        have K12 := Lib.hid k; clear k
        have Q2 := Lib.hid o.arg
        have OQ2 := Lib.hid o; clear o
        go_wp2_with fail
        refine (compareS_at _ _ _ _ _ (HC2.out) _ (Q1.out.no K12.out) Q2.out m1 m0).mono ?_
        rintro e w13 ⟨rfl, k⟩
        have K13 := Lib.hid k; clear k
        go_wp2_with fail
        refine (sameS_at _ _ _ _ _ (HS3.out) _ (((((((((((((H0.out.no K1.out).no K2.out).no K3.out).no K4.out).no K5.out).no K6.out).no K7.out).no K8.out).no K9.out).no K10.out).no K11.out).no K12.out).no K13.out) (((((((((((((H1.out.no K1.out).no K2.out).no K3.out).no K4.out).no K5.out).no K6.out).no K7.out).no K8.out).no K9.out).no K10.out).no K11.out).no K12.out).no K13.out) m0).mono ?_
        rintro e w14 ⟨rfl, k⟩
        have K14 := Lib.hid k; clear k
        go_wp2
        go_meet
        exact ⟨rfl, (((K11.out.trans K12.out).trans K13.out).trans K14.out)⟩
      · have y1 : 0 < y := by omega
        go_wp2_with fail
        refine (ownS_any _ _ _ ((((((((((H1.out.no K1.out).no K2.out).no K3.out).no K4.out).no K5.out).no K6.out).no K7.out).no K8.out).no K9.out).no K10.out) l1).mono ?_
        rintro e w11 ⟨rQ1, rfl, o, k⟩
        have K11 := Lib.hid k; clear k
        have Q1 := Lib.hid o.arg
        have OQ1 := Lib.hid o; clear o
        go_wp2_with fail
        refine (ownS_any _ _ _ (((((((((((H0.out.no K1.out).no K2.out).no K3.out).no K4.out).no K5.out).no K6.out).no K7.out).no K8.out).no K9.out).no K10.out).no K11.out) l0).mono ?_
        rintro e w12 ⟨rQ2, rfl, o, k⟩
        have K12 := Lib.hid k; clear k
        have Q2 := Lib.hid o.arg
        have OQ2 := Lib.hid o; clear o
        go_wp2_with fail
        refine (compareS_at _ _ _ _ _ (HC2.out) _ (Q1.out.no K12.out) Q2.out m1 m0).mono ?_
        rintro e w13 ⟨rfl, k⟩
        have K13 := Lib.hid k; clear k
        go_wp2_with fail
        refine (sameS_at _ _ _ _ _ (HS3.out) _ (((((((((((((H0.out.no K1.out).no K2.out).no K3.out).no K4.out).no K5.out).no K6.out).no K7.out).no K8.out).no K9.out).no K10.out).no K11.out).no K12.out).no K13.out) (((((((((((((H1.out.no K1.out).no K2.out).no K3.out).no K4.out).no K5.out).no K6.out).no K7.out).no K8.out).no K9.out).no K10.out).no K11.out).no K12.out).no K13.out) m0).mono ?_
        rintro e w14 ⟨rfl, k⟩
        have K14 := Lib.hid k; clear k
        go_wp2
        go_meet
        exact ⟨rfl, (((K11.out.trans K12.out).trans K13.out).trans K14.out)⟩
    · have ex : x = -1 := by rw [← HX.out]; exact c1
      subst ex
      have HC2 := Lib.hid c2; have HS3 : Hid (decide (L0 = L1) = false) := decide_eq_false c3; clear c1 c2 c3
      by_cases y0 : y ≤ 0
      · have z0 : z ≤ 0 := by have := HT.out (by rw [HX.out]; decide) (by rw [HY.out]; exact y0); rw [HZ.out] at this; exact this
        have z2 : decide (0 < z) = false := decide_eq_false (by omega)
        go_wp2_with fail
        refine (ownS_any _ _ _ ((((((((((H1.out.no K1.out).no K2.out).no K3.out).no K4.out).no K5.out).no K6.out).no K7.out).no K8.out).no K9.out).no K10.out) l1).mono ?_
        rintro e w11 ⟨rQ1, rfl, o, k⟩
        have K11 := Lib.hid k; clear k
        have Q1 := Lib.hid o.arg
        have OQ1 := Lib.hid o; clear o
        go_wp2_with fail
        refine (ownS_any _ _ _ (((((((((((H0.out.no K1.out).no K2.out).no K3.out).no K4.out).no K5.out).no K6.out).no K7.out).no K8.out).no K9.out).no K10.out).no K11.out) l0).mono ?_
        rintro e w12 ⟨rQ2, rfl, o, k⟩
        have K12 := Lib.hid k; clear k
        have Q2 := Lib.hid o.arg
        have OQ2 := Lib.hid o; clear o
        go_wp2_with fail
        refine (compareS_at _ _ _ _ _ (HC2.out) _ (Q1.out.no K12.out) Q2.out m1 m0).mono ?_
        rintro e w13 ⟨rfl, k⟩
        have K13 := Lib.hid k; clear k
        go_wp2_with fail
        refine (sameS_at _ _ _ _ _ (HS3.out) _ (((((((((((((H0.out.no K1.out).no K2.out).no K3.out).no K4.out).no K5.out).no K6.out).no K7.out).no K8.out).no K9.out).no K10.out).no K11.out).no K12.out).no K13.out) (((((((((((((H1.out.no K1.out).no K2.out).no K3.out).no K4.out).no K5.out).no K6.out).no K7.out).no K8.out).no K9.out).no K10.out).no K11.out).no K12.out).no K13.out) m0).mono ?_
        rintro e w14 ⟨rfl, k⟩
        have K14 := Lib.hid k; clear k
        go_wp2
        go_meet
        exact ⟨rfl, (((K11.out.trans K12.out).trans K13.out).trans K14.out)⟩
      · have y1 : 0 < y := by omega
        go_wp2_with fail
        refine (ownS_any _ _ _ ((((((((((H1.out.no K1.out).no K2.out).no K3.out).no K4.out).no K5.out).no K6.out).no K7.out).no K8.out).no K9.out).no K10.out) l1).mono ?_
        rintro e w11 ⟨rQ1, rfl, o, k⟩
        have K11 := Lib.hid k; clear k
        have Q1 := Lib.hid o.arg
        have OQ1 := Lib.hid o; clear o
        go_wp2_with fail
        refine (ownS_any _ _ _ (((((((((((H0.out.no K1.out).no K2.out).no K3.out).no K4.out).no K5.out).no K6.out).no K7.out).no K8.out).no K9.out).no K10.out).no K11.out) l0).mono ?_
        rintro e w12 ⟨rQ2, rfl, o, k⟩
        have K12 := Lib.hid k; clear k
        have Q2 := Lib.hid o.arg
        have OQ2 := Lib.hid o; clear o
        go_wp2_with fail
        refine (compareS_at _ _ _ _ _ (HC2.out) _ (Q1.out.no K12.out) Q2.out m1 m0).mono ?_
        rintro e w13 ⟨rfl, k⟩
        have K13 := Lib.hid k; clear k
        go_wp2_with fail
        refine (sameS_at _ _ _ _ _ (HS3.out) _ (((((((((((((H0.out.no K1.out).no K2.out).no K3.out).no K4.out).no K5.out).no K6.out).no K7.out).no K8.out).no K9.out).no K10.out).no K11.out).no K12.out).no K13.out) (((((((((((((H1.out.no K1.out).no K2.out).no K3.out).no K4.out).no K5.out).no K6.out).no K7.out).no K8.out).no K9.out).no K10.out).no K11.out).no K12.out).no K13.out) m0).mono ?_
        rintro e w14 ⟨rfl, k⟩
        have K14 := Lib.hid k; clear k
        go_wp2
        go_meet
        exact ⟨rfl, (((K11.out.trans K12.out).trans K13.out).trans K14.out)⟩
    · have ex : x = 1 := by rw [← HX.out]; exact c1
      subst ex
      have HC2 := Lib.hid c2; have HS3 : Hid (decide (L0 = L1) = false) := decide_eq_false c3; clear c1 c2 c3
      go_wp2_with fail
      refine (ownS_any _ _ _ ((((((((((H1.out.no K1.out).no K2.out).no K3.out).no K4.out).no K5.out).no K6.out).no K7.out).no K8.out).no K9.out).no K10.out) l1).mono ?_
      rintro e w11 ⟨rQ1, rfl, o, k⟩
      have K11 := Lib.hid k; clear k
      have Q1 := Lib.hid o.arg
      have OQ1 := Lib.hid o; clear o
      go_wp2_with fail
      refine (ownS_any _ _ _ (((((((((((H0.out.no K1.out).no K2.out).no K3.out).no K4.out).no K5.out).no K6.out).no K7.out).no K8.out).no K9.out).no K10.out).no K11.out) l0).mono ?_
      rintro e w12 ⟨rQ2, rfl, o, k⟩
      have K12 := Lib.hid k; clear k
      have Q2 := Lib.hid o.arg
      have OQ2 := Lib.hid o; clear o
      go_wp2_with fail
      refine (compareS_at _ _ _ _ _ (HC2.out) _ (Q1.out.no K12.out) Q2.out m1 m0).mono ?_
      rintro e w13 ⟨rfl, k⟩
      have K13 := Lib.hid k; clear k
      go_wp2_with fail
      refine (sameS_at _ _ _ _ _ (HS3.out) _ (((((((((((((H0.out.no K1.out).no K2.out).no K3.out).no K4.out).no K5.out).no K6.out).no K7.out).no K8.out).no K9.out).no K10.out).no K11.out).no K12.out).no K13.out) (((((((((((((H1.out.no K1.out).no K2.out).no K3.out).no K4.out).no K5.out).no K6.out).no K7.out).no K8.out).no K9.out).no K10.out).no K11.out).no K12.out).no K13.out) m0).mono ?_
      rintro e w14 ⟨rfl, k⟩
      have K14 := Lib.hid k; clear k
      go_wp2
      go_meet
      exact ⟨rfl, (((K11.out.trans K12.out).trans K13.out).trans K14.out)⟩
  case rest =>
  obtain ⟨rfl, kc⟩ := hcut
  revert kc; revert wc; intro w11 kc
  have K11 := Lib.hid kc; clear kc
  obtain ⟨u, hu⟩ : Bv (underS L0 L1) := ⟨_, rfl⟩
  have HUU := Lib.hid hu; clear hu
  go_upto_region 6 with (fail)
  go_cut [88] (fun s wx => s = .bool false ∧ Kp No w11 wx)
  case first =>
    cases u with
    | false =>
      go_wp2_with fail
      refine (ownS_any _ _ _ (((((((((((H0.out.no K1.out).no K2.out).no K3.out).no K4.out).no K5.out).no K6.out).no K7.out).no K8.out).no K9.out).no K10.out).no K11.out) l0).mono ?_
      rintro e w12 ⟨rQ1, rfl, o, k⟩
      have K12 := Lib.hid k; clear k
      have Q1 := Lib.hid o.arg
      have OQ1 := Lib.hid o; clear o
      go_wp2_with fail
      refine (ownS_any _ _ _ ((((((((((((H1.out.no K1.out).no K2.out).no K3.out).no K4.out).no K5.out).no K6.out).no K7.out).no K8.out).no K9.out).no K10.out).no K11.out).no K12.out) l1).mono ?_
      rintro e w13 ⟨rQ2, rfl, o, k⟩
      have K13 := Lib.hid k; clear k
      have Q2 := Lib.hid o.arg
      have OQ2 := Lib.hid o; clear o
      go_wp2_with fail
      refine (underS_at _ _ _ _ _ (HUU.out) _ (Q1.out.no K13.out) Q2.out m0 m1).mono ?_
      rintro e w14 ⟨rfl, k⟩
      have K14 := Lib.hid k; clear k
      go_wp2
      go_meet
      exact ⟨rfl, ((K12.out.trans K13.out).trans K14.out)⟩
    | true =>
      have le : x ≤ 0 := by have := HU.out HUU.out; rw [HX.out] at this; exact this
      have le2 : decide (0 < x) = false := decide_eq_false (by omega)
      by_cases z0 : z < 0
      · obtain ⟨t, ht⟩ : Bv (underS L0 L2) := ⟨_, rfl⟩
        have HTT := Lib.hid ht; clear ht
        cases t with
        | true =>
          go_wp2_with fail
          refine (ownS_any _ _ _ (((((((((((H0.out.no K1.out).no K2.out).no K3.out).no K4.out).no K5.out).no K6.out).no K7.out).no K8.out).no K9.out).no K10.out).no K11.out) l0).mono ?_
          rintro e w12 ⟨rQ1, rfl, o, k⟩
          have K12 := Lib.hid k; clear k
          have Q1 := Lib.hid o.arg
          have OQ1 := Lib.hid o; clear o
          go_wp2_with fail
          refine (ownS_any _ _ _ ((((((((((((H1.out.no K1.out).no K2.out).no K3.out).no K4.out).no K5.out).no K6.out).no K7.out).no K8.out).no K9.out).no K10.out).no K11.out).no K12.out) l1).mono ?_
          rintro e w13 ⟨rQ2, rfl, o, k⟩
          have K13 := Lib.hid k; clear k
          have Q2 := Lib.hid o.arg
          have OQ2 := Lib.hid o; clear o
          go_wp2_with fail
          refine (underS_at _ _ _ _ _ (HUU.out) _ (Q1.out.no K13.out) Q2.out m0 m1).mono ?_
          rintro e w14 ⟨rfl, k⟩
          have K14 := Lib.hid k; clear k
          go_wp2_with fail
          refine (ownS_any _ _ _ ((((((((((((((H0.out.no K1.out).no K2.out).no K3.out).no K4.out).no K5.out).no K6.out).no K7.out).no K8.out).no K9.out).no K10.out).no K11.out).no K12.out).no K13.out).no K14.out) l0).mono ?_
          rintro e w15 ⟨rQ3, rfl, o, k⟩
          have K15 := Lib.hid k; clear k
          have Q3 := Lib.hid o.arg
          have OQ3 := Lib.hid o; clear o
          go_wp2_with fail
          refine (ownS_any _ _ _ (((((((((((((((H2.out.no K1.out).no K2.out).no K3.out).no K4.out).no K5.out).no K6.out).no K7.out).no K8.out).no K9.out).no K10.out).no K11.out).no K12.out).no K13.out).no K14.out).no K15.out) l2).mono ?_
          rintro e w16 ⟨rQ4, rfl, o, k⟩
          have K16 := Lib.hid k; clear k
          have Q4 := Lib.hid o.arg
          have OQ4 := Lib.hid o; clear o
          go_wp2_with fail
          refine (underS_at _ _ _ _ _ (HTT.out) _ (Q3.out.no K16.out) Q4.out m0 m2).mono ?_
          rintro e w17 ⟨rfl, k⟩
          have K17 := Lib.hid k; clear k
          go_wp2
          go_meet
          exact ⟨rfl, (((((K12.out.trans K13.out).trans K14.out).trans K15.out).trans K16.out).trans K17.out)⟩
        | false =>
          have y0 : y < 0 := by have := HP.out HUU.out (by rw [HZ.out]; exact z0) HTT.out; rw [HY.out] at this; exact this
          have y2 : decide (0 ≤ y) = false := decide_eq_false (by omega)
          go_wp2_with fail
          refine (ownS_any _ _ _ (((((((((((H0.out.no K1.out).no K2.out).no K3.out).no K4.out).no K5.out).no K6.out).no K7.out).no K8.out).no K9.out).no K10.out).no K11.out) l0).mono ?_
          rintro e w12 ⟨rQ1, rfl, o, k⟩
          have K12 := Lib.hid k; clear k
          have Q1 := Lib.hid o.arg
          have OQ1 := Lib.hid o; clear o
          go_wp2_with fail
          refine (ownS_any _ _ _ ((((((((((((H1.out.no K1.out).no K2.out).no K3.out).no K4.out).no K5.out).no K6.out).no K7.out).no K8.out).no K9.out).no K10.out).no K11.out).no K12.out) l1).mono ?_
          rintro e w13 ⟨rQ2, rfl, o, k⟩
          have K13 := Lib.hid k; clear k
          have Q2 := Lib.hid o.arg
          have OQ2 := Lib.hid o; clear o
          go_wp2_with fail
          refine (underS_at _ _ _ _ _ (HUU.out) _ (Q1.out.no K13.out) Q2.out m0 m1).mono ?_
          rintro e w14 ⟨rfl, k⟩
          have K14 := Lib.hid k; clear k
          go_wp2_with fail
          refine (ownS_any _ _ _ ((((((((((((((H0.out.no K1.out).no K2.out).no K3.out).no K4.out).no K5.out).no K6.out).no K7.out).no K8.out).no K9.out).no K10.out).no K11.out).no K12.out).no K13.out).no K14.out) l0).mono ?_
          rintro e w15 ⟨rQ3, rfl, o, k⟩
          have K15 := Lib.hid k; clear k
          have Q3 := Lib.hid o.arg
          have OQ3 := Lib.hid o; clear o
          go_wp2_with fail
          refine (ownS_any _ _ _ (((((((((((((((H2.out.no K1.out).no K2.out).no K3.out).no K4.out).no K5.out).no K6.out).no K7.out).no K8.out).no K9.out).no K10.out).no K11.out).no K12.out).no K13.out).no K14.out).no K15.out) l2).mono ?_
          rintro e w16 ⟨rQ4, rfl, o, k⟩
          have K16 := Lib.hid k; clear k
          have Q4 := Lib.hid o.arg
          have OQ4 := Lib.hid o; clear o
          go_wp2_with fail
          refine (underS_at _ _ _ _ _ (HTT.out) _ (Q3.out.no K16.out) Q4.out m0 m2).mono ?_
          rintro e w17 ⟨rfl, k⟩
          have K17 := Lib.hid k; clear k
          go_wp2
          go_meet
          exact ⟨rfl, (((((K12.out.trans K13.out).trans K14.out).trans K15.out).trans K16.out).trans K17.out)⟩
      · have z1 : 0 ≤ z := by omega
        go_wp2_with fail
        refine (ownS_any _ _ _ (((((((((((H0.out.no K1.out).no K2.out).no K3.out).no K4.out).no K5.out).no K6.out).no K7.out).no K8.out).no K9.out).no K10.out).no K11.out) l0).mono ?_
        rintro e w12 ⟨rQ1, rfl, o, k⟩
        have K12 := Lib.hid k; clear k
        have Q1 := Lib.hid o.arg
        have OQ1 := Lib.hid o; clear o
        go_wp2_with fail
        refine (ownS_any _ _ _ ((((((((((((H1.out.no K1.out).no K2.out).no K3.out).no K4.out).no K5.out).no K6.out).no K7.out).no K8.out).no K9.out).no K10.out).no K11.out).no K12.out) l1).mono ?_
        rintro e w13 ⟨rQ2, rfl, o, k⟩
        have K13 := Lib.hid k; clear k
        have Q2 := Lib.hid o.arg
        have OQ2 := Lib.hid o; clear o
        go_wp2_with fail
        refine (underS_at _ _ _ _ _ (HUU.out) _ (Q1.out.no K13.out) Q2.out m0 m1).mono ?_
        rintro e w14 ⟨rfl, k⟩
        have K14 := Lib.hid k; clear k
        go_wp2
        go_meet
        exact ⟨rfl, ((K12.out.trans K13.out).trans K14.out)⟩
  case rest =>
  obtain ⟨rfl, kc⟩ := hcut
  revert kc; revert wc; intro w12 kc
  have K12 := Lib.hid kc; clear kc
  go_upto_region 8 with (fail)
  go_cut [108] (fun s wx => s = .bool false ∧ Kp No w12 wx)
  case first =>
    cases u with
    | false =>
      go_wp2_with fail
      refine (ownS_any _ _ _ ((((((((((((H0.out.no K1.out).no K2.out).no K3.out).no K4.out).no K5.out).no K6.out).no K7.out).no K8.out).no K9.out).no K10.out).no K11.out).no K12.out) l0).mono ?_
      rintro e w13 ⟨rQ1, rfl, o, k⟩
      have K13 := Lib.hid k; clear k
      have Q1 := Lib.hid o.arg
      have OQ1 := Lib.hid o; clear o
      go_wp2_with fail
      refine (ownS_any _ _ _ (((((((((((((H1.out.no K1.out).no K2.out).no K3.out).no K4.out).no K5.out).no K6.out).no K7.out).no K8.out).no K9.out).no K10.out).no K11.out).no K12.out).no K13.out) l1).mono ?_
      rintro e w14 ⟨rQ2, rfl, o, k⟩
      have K14 := Lib.hid k; clear k
      have Q2 := Lib.hid o.arg
      have OQ2 := Lib.hid o; clear o
      go_wp2_with fail
      refine (underS_at _ _ _ _ _ (HUU.out) _ (Q1.out.no K14.out) Q2.out m0 m1).mono ?_
      rintro e w15 ⟨rfl, k⟩
      have K15 := Lib.hid k; clear k
      go_wp2
      go_meet
      exact ⟨rfl, ((K13.out.trans K14.out).trans K15.out)⟩
    | true =>
      obtain ⟨v, hv⟩ : Bv (underS L1 L2) := ⟨_, rfl⟩
      have HVV := Lib.hid hv; clear hv
      cases v with
      | false =>
        go_wp2_with fail
        refine (ownS_any _ _ _ ((((((((((((H0.out.no K1.out).no K2.out).no K3.out).no K4.out).no K5.out).no K6.out).no K7.out).no K8.out).no K9.out).no K10.out).no K11.out).no K12.out) l0).mono ?_
        rintro e w13 ⟨rQ1, rfl, o, k⟩
        have K13 := Lib.hid k; clear k
        have Q1 := Lib.hid o.arg
        have OQ1 := Lib.hid o; clear o
        go_wp2_with fail
        refine (ownS_any _ _ _ (((((((((((((H1.out.no K1.out).no K2.out).no K3.out).no K4.out).no K5.out).no K6.out).no K7.out).no K8.out).no K9.out).no K10.out).no K11.out).no K12.out).no K13.out) l1).mono ?_
        rintro e w14 ⟨rQ2, rfl, o, k⟩
        have K14 := Lib.hid k; clear k
        have Q2 := Lib.hid o.arg
        have OQ2 := Lib.hid o; clear o
        go_wp2_with fail
        refine (underS_at _ _ _ _ _ (HUU.out) _ (Q1.out.no K14.out) Q2.out m0 m1).mono ?_
        rintro e w15 ⟨rfl, k⟩
        have K15 := Lib.hid k; clear k
        go_wp2_with fail
        refine (ownS_any _ _ _ (((((((((((((((H1.out.no K1.out).no K2.out).no K3.out).no K4.out).no K5.out).no K6.out).no K7.out).no K8.out).no K9.out).no K10.out).no K11.out).no K12.out).no K13.out).no K14.out).no K15.out) l1).mono ?_
        rintro e w16 ⟨rQ3, rfl, o, k⟩
        have K16 := Lib.hid k; clear k
        have Q3 := Lib.hid o.arg
        have OQ3 := Lib.hid o; clear o
        go_wp2_with fail
        refine (ownS_any _ _ _ ((((((((((((((((H2.out.no K1.out).no K2.out).no K3.out).no K4.out).no K5.out).no K6.out).no K7.out).no K8.out).no K9.out).no K10.out).no K11.out).no K12.out).no K13.out).no K14.out).no K15.out).no K16.out) l2).mono ?_
        rintro e w17 ⟨rQ4, rfl, o, k⟩
        have K17 := Lib.hid k; clear k
        have Q4 := Lib.hid o.arg
        have OQ4 := Lib.hid o; clear o
        go_wp2_with fail
        refine (underS_at _ _ _ _ _ (HVV.out) _ (Q3.out.no K17.out) Q4.out m1 m2).mono ?_
        rintro e w18 ⟨rfl, k⟩
        have K18 := Lib.hid k; clear k
        go_wp2
        go_meet
        exact ⟨rfl, (((((K13.out.trans K14.out).trans K15.out).trans K16.out).trans K17.out).trans K18.out)⟩
      | true =>
        have HTT := Lib.hid (HUT.out HUU.out HVV.out)
        go_wp2_with fail
        refine (ownS_any _ _ _ ((((((((((((H0.out.no K1.out).no K2.out).no K3.out).no K4.out).no K5.out).no K6.out).no K7.out).no K8.out).no K9.out).no K10.out).no K11.out).no K12.out) l0).mono ?_
        rintro e w13 ⟨rQ1, rfl, o, k⟩
        have K13 := Lib.hid k; clear k
        have Q1 := Lib.hid o.arg
        have OQ1 := Lib.hid o; clear o
        go_wp2_with fail
        refine (ownS_any _ _ _ (((((((((((((H1.out.no K1.out).no K2.out).no K3.out).no K4.out).no K5.out).no K6.out).no K7.out).no K8.out).no K9.out).no K10.out).no K11.out).no K12.out).no K13.out) l1).mono ?_
        rintro e w14 ⟨rQ2, rfl, o, k⟩
        have K14 := Lib.hid k; clear k
        have Q2 := Lib.hid o.arg
        have OQ2 := Lib.hid o; clear o
        go_wp2_with fail
        refine (underS_at _ _ _ _ _ (HUU.out) _ (Q1.out.no K14.out) Q2.out m0 m1).mono ?_
        rintro e w15 ⟨rfl, k⟩
        have K15 := Lib.hid k; clear k
        go_wp2_with fail
        refine (ownS_any _ _ _ (((((((((((((((H1.out.no K1.out).no K2.out).no K3.out).no K4.out).no K5.out).no K6.out).no K7.out).no K8.out).no K9.out).no K10.out).no K11.out).no K12.out).no K13.out).no K14.out).no K15.out) l1).mono ?_
        rintro e w16 ⟨rQ3, rfl, o, k⟩
        have K16 := Lib.hid k; clear k
        have Q3 := Lib.hid o.arg
        have OQ3 := Lib.hid o; clear o
        go_wp2_with fail
        refine (ownS_any _ _ _ ((((((((((((((((H2.out.no K1.out).no K2.out).no K3.out).no K4.out).no K5.out).no K6.out).no K7.out).no K8.out).no K9.out).no K10.out).no K11.out).no K12.out).no K13.out).no K14.out).no K15.out).no K16.out) l2).mono ?_
        rintro e w17 ⟨rQ4, rfl, o, k⟩
        have K17 := Lib.hid k; clear k
        have Q4 := Lib.hid o.arg
        have OQ4 := Lib.hid o; clear o
        go_wp2_with fail
        refine (underS_at _ _ _ _ _ (HVV.out) _ (Q3.out.no K17.out) Q4.out m1 m2).mono ?_
        rintro e w18 ⟨rfl, k⟩
        have K18 := Lib.hid k; clear k
        go_wp2_with fail
        refine (ownS_any _ _ _ ((((((((((((((((((H0.out.no K1.out).no K2.out).no K3.out).no K4.out).no K5.out).no K6.out).no K7.out).no K8.out).no K9.out).no K10.out).no K11.out).no K12.out).no K13.out).no K14.out).no K15.out).no K16.out).no K17.out).no K18.out) l0).mono ?_
        rintro e w19 ⟨rQ5, rfl, o, k⟩
        have K19 := Lib.hid k; clear k
        have Q5 := Lib.hid o.arg
        have OQ5 := Lib.hid o; clear o
        go_wp2_with fail
        refine (ownS_any _ _ _ (((((((((((((((((((H2.out.no K1.out).no K2.out).no K3.out).no K4.out).no K5.out).no K6.out).no K7.out).no K8.out).no K9.out).no K10.out).no K11.out).no K12.out).no K13.out).no K14.out).no K15.out).no K16.out).no K17.out).no K18.out).no K19.out) l2).mono ?_
        rintro e w20 ⟨rQ6, rfl, o, k⟩
        have K20 := Lib.hid k; clear k
        have Q6 := Lib.hid o.arg
        have OQ6 := Lib.hid o; clear o
        go_wp2_with fail
        refine (underS_at _ _ _ _ _ (HTT.out) _ (Q5.out.no K20.out) Q6.out m0 m2).mono ?_
        rintro e w21 ⟨rfl, k⟩
        have K21 := Lib.hid k; clear k
        go_wp2
        go_meet
        exact ⟨rfl, ((((((((K13.out.trans K14.out).trans K15.out).trans K16.out).trans K17.out).trans K18.out).trans K19.out).trans K20.out).trans K21.out)⟩
  case rest =>
  obtain ⟨rfl, kc⟩ := hcut
  revert kc; revert wc; intro w13 kc
  have K13 := Lib.hid kc; clear kc
  go_wp2_with fail
  refine (ownS_any _ _ _ (((((((((((((H0.out.no K1.out).no K2.out).no K3.out).no K4.out).no K5.out).no K6.out).no K7.out).no K8.out).no K9.out).no K10.out).no K11.out).no K12.out).no K13.out) l0).mono ?_
  rintro e w14 ⟨rP1, rfl, o, k⟩
  have K14 := Lib.hid k; clear k
  have P1 := Lib.hid o.arg
  have OP1 := Lib.hid o; clear o
  go_wp2_with fail
  refine (ownS_any _ _ _ ((((((((((((((H1.out.no K1.out).no K2.out).no K3.out).no K4.out).no K5.out).no K6.out).no K7.out).no K8.out).no K9.out).no K10.out).no K11.out).no K12.out).no K13.out).no K14.out) l1).mono ?_
  rintro e w15 ⟨rP2, rfl, o, k⟩
  have K15 := Lib.hid k; clear k
  have P2 := Lib.hid o.arg
  have OP2 := Lib.hid o; clear o
  rcases HC.out with ⟨c1, c2, c3⟩ | ⟨c1, c2, c3⟩ | ⟨c1, c2, c3⟩
  · have hlat : laterS L0 L1 = L0 := by unfold laterS; rw [c1]; rfl
    have HC1 := Lib.hid c1; have HC2 := Lib.hid c2; have HC3 := Lib.hid c3; clear c1 c2 c3
    have HLT := Lib.hid hlat; clear hlat
    go_wp2_with fail
    refine (laterS_at _ _ _ _ _ HLT.out _ (P1.out.no K15.out) P2.out (by omega) (by omega)).mono ?_
    rintro e w16 ⟨rG1, rfl, o, k⟩
    have K16 := Lib.hid k; clear k
    have G1 := Lib.hid o.arg
    have OG1 := Lib.hid o; clear o
    go_wp2_with fail
    refine (sameS_at _ _ _ _ _ (decide_eq_true rfl) _ G1.out ((((((((((((((((H0.out.no K1.out).no K2.out).no K3.out).no K4.out).no K5.out).no K6.out).no K7.out).no K8.out).no K9.out).no K10.out).no K11.out).no K12.out).no K13.out).no K14.out).no K15.out).no K16.out) m0).mono ?_
    rintro e w17 ⟨rfl, k⟩
    have K17 := Lib.hid k; clear k
    go_wp2_with fail
    refine (ownS_any _ _ _ (G1.out.no K17.out) l0).mono ?_
    rintro e w18 ⟨rG2, rfl, o, k⟩
    have K18 := Lib.hid k; clear k
    have G2 := Lib.hid o.arg
    have OG2 := Lib.hid o; clear o
    go_wp2_with fail
    refine (ownS_any _ _ _ ((((((((((((((((((H0.out.no K1.out).no K2.out).no K3.out).no K4.out).no K5.out).no K6.out).no K7.out).no K8.out).no K9.out).no K10.out).no K11.out).no K12.out).no K13.out).no K14.out).no K15.out).no K16.out).no K17.out).no K18.out) l0).mono ?_
    rintro e w19 ⟨rG3, rfl, o, k⟩
    have K19 := Lib.hid k; clear k
    have G3 := Lib.hid o.arg
    have OG3 := Lib.hid o; clear o
    go_wp2_with fail
    refine (compareS_at _ _ _ _ _ (cmpS_self L0) _ (G2.out.no K19.out) G3.out m0 m0).mono ?_
    rintro e w20 ⟨rfl, k⟩
    have K20 := Lib.hid k; clear k
    go_wp2_with fail
    refine (ownS_any _ _ _ ((((G1.out.no K17.out).no K18.out).no K19.out).no K20.out) l0).mono ?_
    rintro e w21 ⟨rG4, rfl, o, k⟩
    have K21 := Lib.hid k; clear k
    have G4 := Lib.hid o.arg
    have OG4 := Lib.hid o; clear o
    go_wp2_with fail
    refine (ownS_any _ _ _ (((((((((((((((((((((H1.out.no K1.out).no K2.out).no K3.out).no K4.out).no K5.out).no K6.out).no K7.out).no K8.out).no K9.out).no K10.out).no K11.out).no K12.out).no K13.out).no K14.out).no K15.out).no K16.out).no K17.out).no K18.out).no K19.out).no K20.out).no K21.out) l1).mono ?_
    rintro e w22 ⟨rG5, rfl, o, k⟩
    have K22 := Lib.hid k; clear k
    have G5 := Lib.hid o.arg
    have OG5 := Lib.hid o; clear o
    go_wp2_with fail
    refine (compareS_at _ _ _ _ _ (HC1.out) _ (G4.out.no K22.out) G5.out m0 m1).mono ?_
    rintro e w23 ⟨rfl, k⟩
    have K23 := Lib.hid k; clear k
    go_wp2
    go_ret
    exact ⟨rfl, (((((((((((((((((((((((((((((((((((((((((((((K1.out).trans K2.out)).trans K3.out)).trans K4.out)).trans K5.out)).trans K6.out)).trans K7.out)).trans K8.out)).trans K9.out)).trans K10.out)).trans K11.out)).trans K12.out)).trans K13.out)).trans K14.out)).trans K15.out)).trans K16.out)).trans K17.out)).trans K18.out)).trans K19.out)).trans K20.out)).trans K21.out)).trans K22.out)).trans K23.out)).below (Nat.le_refl _) (fun _ _ m => m)⟩
  · have hlat : laterS L0 L1 = L1 := by unfold laterS; rw [c1]; rfl
    have HC1 := Lib.hid c1; have HC2 := Lib.hid c2; have HC3 := Lib.hid c3; clear c1 c2 c3
    have HLT := Lib.hid hlat; clear hlat
    go_wp2_with fail
    refine (laterS_at _ _ _ _ _ HLT.out _ (P1.out.no K15.out) P2.out (by omega) (by omega)).mono ?_
    rintro e w16 ⟨rG1, rfl, o, k⟩
    have K16 := Lib.hid k; clear k
    have G1 := Lib.hid o.arg
    have OG1 := Lib.hid o; clear o
    go_wp2_with fail
    refine (sameS_at _ _ _ _ _ (decide_eq_false (fun e => HC3.out e.symm)) _ G1.out ((((((((((((((((H0.out.no K1.out).no K2.out).no K3.out).no K4.out).no K5.out).no K6.out).no K7.out).no K8.out).no K9.out).no K10.out).no K11.out).no K12.out).no K13.out).no K14.out).no K15.out).no K16.out) m1).mono ?_
    rintro e w17 ⟨rfl, k⟩
    have K17 := Lib.hid k; clear k
    go_wp2_with fail
    refine (sameS_at _ _ _ _ _ (decide_eq_true rfl) _ (G1.out.no K17.out) (((((((((((((((((H1.out.no K1.out).no K2.out).no K3.out).no K4.out).no K5.out).no K6.out).no K7.out).no K8.out).no K9.out).no K10.out).no K11.out).no K12.out).no K13.out).no K14.out).no K15.out).no K16.out).no K17.out) m1).mono ?_
    rintro e w18 ⟨rfl, k⟩
    have K18 := Lib.hid k; clear k
    go_wp2_with fail
    refine (ownS_any _ _ _ ((G1.out.no K17.out).no K18.out) l1).mono ?_
    rintro e w19 ⟨rG2, rfl, o, k⟩
    have K19 := Lib.hid k; clear k
    have G2 := Lib.hid o.arg
    have OG2 := Lib.hid o; clear o
    go_wp2_with fail
    refine (ownS_any _ _ _ (((((((((((((((((((H0.out.no K1.out).no K2.out).no K3.out).no K4.out).no K5.out).no K6.out).no K7.out).no K8.out).no K9.out).no K10.out).no K11.out).no K12.out).no K13.out).no K14.out).no K15.out).no K16.out).no K17.out).no K18.out).no K19.out) l0).mono ?_
    rintro e w20 ⟨rG3, rfl, o, k⟩
    have K20 := Lib.hid k; clear k
    have G3 := Lib.hid o.arg
    have OG3 := Lib.hid o; clear o
    go_wp2_with fail
    refine (compareS_at _ _ _ _ _ (HC2.out) _ (G2.out.no K20.out) G3.out m1 m0).mono ?_
    rintro e w21 ⟨rfl, k⟩
    have K21 := Lib.hid k; clear k
    go_wp2_with fail
    refine (ownS_any _ _ _ (((((G1.out.no K17.out).no K18.out).no K19.out).no K20.out).no K21.out) l1).mono ?_
    rintro e w22 ⟨rG4, rfl, o, k⟩
    have K22 := Lib.hid k; clear k
    have G4 := Lib.hid o.arg
    have OG4 := Lib.hid o; clear o
    go_wp2_with fail
    refine (ownS_any _ _ _ ((((((((((((((((((((((H1.out.no K1.out).no K2.out).no K3.out).no K4.out).no K5.out).no K6.out).no K7.out).no K8.out).no K9.out).no K10.out).no K11.out).no K12.out).no K13.out).no K14.out).no K15.out).no K16.out).no K17.out).no K18.out).no K19.out).no K20.out).no K21.out).no K22.out) l1).mono ?_
    rintro e w23 ⟨rG5, rfl, o, k⟩
    have K23 := Lib.hid k; clear k
    have G5 := Lib.hid o.arg
    have OG5 := Lib.hid o; clear o
    go_wp2_with fail
    refine (compareS_at _ _ _ _ _ (cmpS_self L1) _ (G4.out.no K23.out) G5.out m1 m1).mono ?_
    rintro e w24 ⟨rfl, k⟩
    have K24 := Lib.hid k; clear k
    go_wp2
    go_ret
    exact ⟨rfl, (((((((((((((((((((((((((((((((((((((((((((((((K1.out).trans K2.out)).trans K3.out)).trans K4.out)).trans K5.out)).trans K6.out)).trans K7.out)).trans K8.out)).trans K9.out)).trans K10.out)).trans K11.out)).trans K12.out)).trans K13.out)).trans K14.out)).trans K15.out)).trans K16.out)).trans K17.out)).trans K18.out)).trans K19.out)).trans K20.out)).trans K21.out)).trans K22.out)).trans K23.out)).trans K24.out)).below (Nat.le_refl _) (fun _ _ m => m)⟩
  · have hlat : laterS L0 L1 = L0 := by unfold laterS; rw [c1]; rfl
    have HC1 := Lib.hid c1; have HC2 := Lib.hid c2; have HC3 := Lib.hid c3; clear c1 c2 c3
    have HLT := Lib.hid hlat; clear hlat
    go_wp2_with fail
    refine (laterS_at _ _ _ _ _ HLT.out _ (P1.out.no K15.out) P2.out (by omega) (by omega)).mono ?_
    rintro e w16 ⟨rG1, rfl, o, k⟩
    have K16 := Lib.hid k; clear k
    have G1 := Lib.hid o.arg
    have OG1 := Lib.hid o; clear o
    go_wp2_with fail
    refine (sameS_at _ _ _ _ _ (decide_eq_true rfl) _ G1.out ((((((((((((((((H0.out.no K1.out).no K2.out).no K3.out).no K4.out).no K5.out).no K6.out).no K7.out).no K8.out).no K9.out).no K10.out).no K11.out).no K12.out).no K13.out).no K14.out).no K15.out).no K16.out) m0).mono ?_
    rintro e w17 ⟨rfl, k⟩
    have K17 := Lib.hid k; clear k
    go_wp2_with fail
    refine (ownS_any _ _ _ (G1.out.no K17.out) l0).mono ?_
    rintro e w18 ⟨rG2, rfl, o, k⟩
    have K18 := Lib.hid k; clear k
    have G2 := Lib.hid o.arg
    have OG2 := Lib.hid o; clear o
    go_wp2_with fail
    refine (ownS_any _ _ _ ((((((((((((((((((H0.out.no K1.out).no K2.out).no K3.out).no K4.out).no K5.out).no K6.out).no K7.out).no K8.out).no K9.out).no K10.out).no K11.out).no K12.out).no K13.out).no K14.out).no K15.out).no K16.out).no K17.out).no K18.out) l0).mono ?_
    rintro e w19 ⟨rG3, rfl, o, k⟩
    have K19 := Lib.hid k; clear k
    have G3 := Lib.hid o.arg
    have OG3 := Lib.hid o; clear o
    go_wp2_with fail
    refine (compareS_at _ _ _ _ _ (cmpS_self L0) _ (G2.out.no K19.out) G3.out m0 m0).mono ?_
    rintro e w20 ⟨rfl, k⟩
    have K20 := Lib.hid k; clear k
    go_wp2_with fail
    refine (ownS_any _ _ _ ((((G1.out.no K17.out).no K18.out).no K19.out).no K20.out) l0).mono ?_
    rintro e w21 ⟨rG4, rfl, o, k⟩
    have K21 := Lib.hid k; clear k
    have G4 := Lib.hid o.arg
    have OG4 := Lib.hid o; clear o
    go_wp2_with fail
    refine (ownS_any _ _ _ (((((((((((((((((((((H1.out.no K1.out).no K2.out).no K3.out).no K4.out).no K5.out).no K6.out).no K7.out).no K8.out).no K9.out).no K10.out).no K11.out).no K12.out).no K13.out).no K14.out).no K15.out).no K16.out).no K17.out).no K18.out).no K19.out).no K20.out).no K21.out) l1).mono ?_
    rintro e w22 ⟨rG5, rfl, o, k⟩
    have K22 := Lib.hid k; clear k
    have G5 := Lib.hid o.arg
    have OG5 := Lib.hid o; clear o
    go_wp2_with fail
    refine (compareS_at _ _ _ _ _ (HC1.out) _ (G4.out.no K22.out) G5.out m0 m1).mono ?_
    rintro e w23 ⟨rfl, k⟩
    have K23 := Lib.hid k; clear k
    go_wp2
    go_ret
    exact ⟨rfl, (((((((((((((((((((((((((((((((((((((((((((((K1.out).trans K2.out)).trans K3.out)).trans K4.out)).trans K5.out)).trans K6.out)).trans K7.out)).trans K8.out)).trans K9.out)).trans K10.out)).trans K11.out)).trans K12.out)).trans K13.out)).trans K14.out)).trans K15.out)).trans K16.out)).trans K17.out)).trans K18.out)).trans K19.out)).trans K20.out)).trans K21.out)).trans K22.out)).trans K23.out)).below (Nat.le_refl _) (fun _ _ m => m)⟩

set_option maxRecDepth 100000 in
theorem lifted (os : Os) (started : os.Started) (H : Type) (enc : TypeId × Value → H) :
    ReturnsInHanded {} Tryd.checked os 8 .any (fun w args => (Rows.stampsOrderSpec.pre enc Tryd.prog Tryd.f8 Rows.stampsOrderRow.domain false w args ∧ laidMetH Tryd.prog LAID w) ∧ sizedMet enc Tryd.prog Tryd.f8 (OpenSpec.ofChange Rows.stampsOrderSpec) false w args)
      (Rows.stampsOrderSpec.post enc Tryd.prog Tryd.f8 false true false false) := by
  refine returnsInHanded_and_shaped (C := Tryd.checked) (X := (fun w _ => laidMetH Tryd.prog LAID w)) (fun _ _ _ hh h => h.of_heap hh) own started (by kernel_rfl) Tryd.func8
    (ChangeSpec.witness_shaped (enc := enc) (C := Tryd.checked) (os := os) (X := (fun w _ => laidMetH Tryd.prog LAID w)) false (World.laidAll Tryd.prog os LAID) #[.slice none 0 0, .slice none 0 0, .slice none 0 0] 8 (World.laidAll_os _ _ _)
      (World.shaped_of_ZipB (by kernel_rfl) (by kernel_rfl)) (by kernel_rfl) (by kernel_rfl) (by kernel_rfl)
      (by rw [MakeChecks.laidMetH_plain _ _ _ (by kernel_rfl)]; exact laidMet_laidAll _ (by kernel_rfl) (by kernel_rfl))) ?_
  intro W base args ds gs before hval0 hW hcnd hsz0 hL hsh _
  have hval : ∀ (j : Nat) t v, Tryd.f8.params[j]? = some t → args[j]? = some v → Value.okWide Tryd.prog W .any base t v := hval0
  have hW' := hW
  obtain ⟨p, q, hA0, hV, rfl, hfz, hnd⟩ := hW
  have hA : DataW.TrodAll enc Tryd.prog W 0 (fun _ => true) true Tryd.f8.params.toList args.toList ds p := hA0
  rw [Tryd.params8] at hA hval
  obtain ⟨v0, vs0, d0, ds0, p0, q0, hargs, rfl, rfl, h0, r0⟩ := trodAll_cons hA
  obtain ⟨v1, vs1, d1, ds1, p1, q1, rfl, rfl, rfl, h1, r1⟩ := trodAll_cons r0
  obtain ⟨v2, vs2, d2, ds2, p2, q2, rfl, rfl, rfl, h2, r2⟩ := trodAll_cons r1
  obtain ⟨rfl, rfl, rfl⟩ := trodAll_nil r2
  obtain rfl : args = #[v0, v1, v2] := by cases args; simp_all
  obtain ⟨rfl, rfl⟩ := trodVars_none hV
  have hsz : ∀ (j : Nat) (t : TypeId) (d : DataW H), ([22, 22, 22] : List TypeId)[j]? = some t → [d0, d1, d2][j]? = some d → ∀ n ∈ d.weights Tryd.prog t, n ≤ reachBytes := by
    intro j t d ht hd n hn
    have hsz1 : (DataW.weightsEach Tryd.prog ([22, 22, 22] : List TypeId) [d0, d1, d2]).all (· ≤ reachBytes) = true := hsz0
    have := List.all_eq_true.1 hsz1 n (DataW.weights_mem_each ht hd n hn)
    simpa using this
  have k0 := h0
  have lt0 : ∀ x ∈ p0, x.block < W.heap.size := by obtain ⟨m, hm⟩ := k0; exact DataW.trod_lt m _ _ _ hm
  obtain ⟨L0, a0, l0, z0⟩ := open_intsA Tryd.underlying22 Tryd.underlying3 (by kernel_rfl) (by kernel_rfl) (hval 0 22 v0 rfl rfl) h0 (hsz 0 22 _ rfl rfl)
  have k1 := h1
  have lt1 : ∀ x ∈ p1, x.block < W.heap.size := by obtain ⟨m, hm⟩ := k1; exact DataW.trod_lt m _ _ _ hm
  obtain ⟨L1, a1, l1, z1⟩ := open_intsA Tryd.underlying22 Tryd.underlying3 (by kernel_rfl) (by kernel_rfl) (hval 1 22 v1 rfl rfl) h1 (hsz 1 22 _ rfl rfl)
  have k2 := h2
  have lt2 : ∀ x ∈ p2, x.block < W.heap.size := by obtain ⟨m, hm⟩ := k2; exact DataW.trod_lt m _ _ _ hm
  obtain ⟨L2, a2, l2, z2⟩ := open_intsA Tryd.underlying22 Tryd.underlying3 (by kernel_rfl) (by kernel_rfl) (hval 2 22 v2 rfl rfl) h2 (hsz 2 22 _ rfl rfl)
  refine (walk v0 L0 v1 L1 v2 L2 W a0 l0 z0 a1 l1 z1 a2 l2 z2 (lw_of hL hsh)).mono fun e W' ⟨he, bel⟩ => ?_
  subst he
  exact ⟨_, rfl, _, _, _, [], _, [], hW', trodAll_mk1 (shut_bool Tryd.underlying4 _), (trodAll_cons_mk (Below.trod laidOut (by kernel_rfl) (of_decide_eq_true (by kernel_rfl)) k0 bel lt0) (trodAll_cons_mk (Below.trod laidOut (by kernel_rfl) (of_decide_eq_true (by kernel_rfl)) k1 bel lt1) (trodAll_cons_mk (Below.trod laidOut (by kernel_rfl) (of_decide_eq_true (by kernel_rfl)) k2 bel lt2) trodAll_mk0))), rfl, bel.frame _, fun h => by cases h⟩

theorem over : Rows.stampsOrderRow.holds Tryd.pinned (OpenSpec.ofChange Rows.stampsOrderSpec) :=
  OpenClaim.holds_of_wide 8 Tryd.f8 rfl rfl rfl rfl rfl rfl rfl ⟨rfl, rfl, rfl, rfl, rfl⟩ rfl rfl rfl rfl rfl (by kernel_rfl) Tryd.func8 (by kernel_rfl)
    (of_decide_eq_true (by kernel_rfl)) (by unfold Func.isWrapper; first | (rw [if_pos (by decide +kernel)]; kernel_rfl) | (rw [if_neg (by decide +kernel)]; exact ⟨rfl, rfl⟩))
    (fun os started H enc _ => lifted os started H enc)

theorem proved : Rows.StampsOrderCardSaid :=
  Claim7.holds_tied_plain_at .later [] [.data, .data, .data, .data, .sentinel, .sentinel, .pinned] true (true, "5f12fa10b805fcb0d992aeb5db102955f99dabd546fdc4991e02cd6d2c5be258") true over (fun _ h => by cases h) (by kernel_rfl) (fun _ h => by cases h) stampsOrder_row_tie rfl ⟨rfl, rfl⟩ (by kernel_rfl) rfl
    (fun f fn hf hfn => by
      obtain rfl : f = 8 := Option.some.inj ((show Tryd.prog.funcNamed "sublet/subletlaw04.StampsOrder" = some 8 by kernel_rfl).symm.trans hf) |>.symm
      obtain rfl : fn = Tryd.f8 := (Option.some.inj (Tryd.func8.symm.trans hfn)).symm
      exact ⟨by kernel_rfl, fun j t ht => by
        rw [Tryd.params8] at ht
        have hm : t ∈ ([22, 22, 22] : List TypeId) := by simpa using Array.mem_of_getElem? ht
        have hall : (([22, 22, 22] : List TypeId).all fun u => !Tryd.prog.wantsStandIn u) = true := by kernel_rfl
        exact (show Tryd.prog.wantsStandIn t = false by simpa using List.all_eq_true.1 hall t hm)⟩)
    (by kernel_rfl)
#print axioms proved
end Go.Proofs.YtfbogdeodpkhcaaDoor.stampsOrder
