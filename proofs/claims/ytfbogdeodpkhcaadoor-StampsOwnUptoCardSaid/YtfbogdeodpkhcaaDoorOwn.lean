/- StampsOwn returns true for any list and number, of bulk at most the given number: lists that are handed in stay as they are, and lists that are answered share no memory. -/
import Derived.Test.YtfbogdeodpkhcaaDoorStJ
import Derived.Test.YtfbogdeodpkhcaaDoorCards
import Derived.Test.YtfbogdeodpkhcaaDoorSc
import Derived.Test.YtfbogdeodpkhcaaDoorStU
import Derived.Test.YtfbogdeodpkhcaaDoorStL
import Derived.Deep.RegionHeld3
import Derived.IntWalk
namespace Go.Proofs.YtfbogdeodpkhcaaDoor.stampsOwn
open Go.ChangeShapes Go.WideShapes Go.ChangeAt Go.RowKit Go.PlainAid
open Go.ChangeMaps (open_string shut_string)

theorem own : ownKnob Tryd.prog.godebug = none := by kernel_rfl
theorem laidOut : laidOutB Tryd.prog = true := by kernel_rfl
theorem textS_any' (v : Value) (L : List Int) (w : World) (hv : ArgInts w v L) (hl : L.length ≤ 1048576) (hr : ∀ n ∈ L, -9223372036854775808 ≤ n ∧ n ≤ 9223372036854775807) (hL : Lw w) : Calls Tryd.prog 28 #[v] w fun e w' => (∃ s, e = .returned (.string s)) ∧ Kp No w w' :=
  (textS_any v L w hv hl hr hL).mono fun _ _ ⟨h, k⟩ => ⟨⟨_, h⟩, k⟩
set_option maxRecDepth 100000 in
set_option maxHeartbeats 8000000 in
theorem walk (v0 : Value) (L0 : List Int) (n1 : Int) (w : World) (a0 : ArgInts w v0 L0) (l0 : L0.length ≤ 1048576) (z0 : ∀ n ∈ L0, -9223372036854775808 ≤ n ∧ n ≤ 9223372036854775807) (_x1 : n1 < 9223372036854775808) (hL : Lw w) :
    Calls Tryd.prog 10 #[v0, .int .i64 n1] w fun e w' => e = .returned (.bool true) ∧ Below w.heap.size w w' := by
  have HL := Lib.hid hL; clear hL
  have H0 := Lib.hid a0
  have Z0 := Lib.hid z0; clear z0
  obtain ⟨A0, c0, hv0, hc0, hcs0⟩ := a0
  subst hv0
  clear hcs0
  go_enter Tryd.func10, Tryd.ntmps10
  go_wp2_with fail
  refine (awakeS_any _ HL.out).mono ?_
  rintro e w1 ⟨rfl, k⟩
  have K1 := Lib.hid k; clear k
  go_wp2_with fail
  refine (ownS_any _ _ _ (H0.out.no K1.out) (by omega)).mono ?_
  rintro e w2 ⟨rO, rfl, o2, k2⟩
  have K2 := Lib.hid k2; clear k2
  unfold OwnI at o2
  obtain ⟨A2, c2, hv2, _⟩ := own_len o2
  subst hv2
  have HO2 := Lib.hid (own_kp o2 ((Kp.refl No w2).alloc (.cells #[.int .i64 (-91), .int .i64 (-92)] 3)) (fun _ _ m => m))
  have hsz : w1.heap.size ≤ (w2.alloc (.cells #[.int .i64 (-91), .int .i64 (-92)] 3)).heap.size := Nat.le_trans K2.out.size ((Kp.refl No w2).alloc _).size
  clear o2
  go_wp2_with (at_builtin; refine (wpList_appV _ rfl _ _ 22 rfl w1.heap.size 3 _ 8 Tryd.underlying22 Tryd.infoInt rfl _ L0.length (ints L0) rfl HO2.out _ 2 2 [.int .i64 (-91), .int .i64 (-92)] rfl rfl (cs_newI rfl rfl) (by intro u hu; cases hu with | head => rfl | tail _ h => (cases h with | head => rfl | tail _ h => cases h)) (by omega) (by omega) hsz ?_); intro v3 w3 o3 k3 n3; have K3 := Lib.hid (kp_ownI HO2.out (Nat.le_refl _) (K2.out.alloc _) k3); obtain ⟨nR, hnR⟩ : ∃ nR, nR = L0.length + 2 := ⟨_, rfl⟩; rw [← hnR] at o3; obtain ⟨rg, c3, hv3, hc3, hrg1, hrg2⟩ := own_form o3 (by omega); subst hv3; have HO3 := Lib.hid o3; have HNR := Lib.hid hnR; have hnr : L0.length < nR := (by omega); have hsl := slice_toI rg nR L0.length c3 (by omega) (by omega); clear o3 k3 n3 hnR hsz)
  have HF3 := Lib.hid (show RowI w3 (.slice (some ⟨rg, 0, none⟩) nR c3) (L0 ++ [-91, -92]) by
    have h := own_mono (base' := 0) HO3.out (Nat.zero_le _)
    unfold RowI
    rw [show (L0 ++ ([-91, -92] : List Int)).length = nR by rw [List.length_append, HNR.out]; rfl, ints_append]
    exact h)
  have HRG := Lib.hid (And.intro hrg1 hrg2)
  have HK3 := Lib.hid (K1.out.trans K3.out)
  have hA3 : ArgInts w3 (.slice (some ⟨rg, 0, none⟩) L0.length c3) L0 := by
    have h := HF3.out.arg.take L0.length (by simp)
    rwa [List.take_left' rfl] at h
  have HA3 := Lib.hid hA3; clear hA3
  have H3 := Lib.hid (H0.out.no HK3.out)
  have ml : L0.length ≤ maxLen := by unfold maxLen; omega
  have HML := Lib.hid ml
  clear hrg1 hrg2 K2 K3 HO2 HO3
  obtain ⟨X, hX⟩ : ∃ X, (extS L0 n1).1 = X := ⟨_, rfl⟩
  obtain ⟨Y, hY⟩ : ∃ Y, (nextS L0).1 = Y := ⟨_, rfl⟩
  have HXM := Lib.hid (show X.length ≤ 1048577 by rw [← hX]; exact Nat.le_trans (ext_len _ _) (by omega))
  have HYM := Lib.hid (show Y.length ≤ 1048577 by rw [← hY]; exact Nat.le_trans (next_len _) (by omega))
  have pe := extS_any (.slice (some ⟨rg, 0, none⟩) L0.length c3) L0 n1
  have pn := nextS_any (.slice (some ⟨rg, 0, none⟩) L0.length c3) L0
  have pe2 := rextS_any (.slice A0 L0.length c0) L0 n1
  have pn2 := rnextS_any (.slice A0 L0.length c0) L0
  rw [hX] at pe pe2
  rw [hY] at pn pn2
  have PE := Lib.hid pe; have PN := Lib.hid pn; have PE2 := Lib.hid pe2; have PN2 := Lib.hid pn2
  clear pe pn pe2 pn2 hX hY
  generalize (extS L0 n1).2 = cx at PE PE2
  generalize (nextS L0).2 = cy at PN PN2
  have HI43 := Lib.hid info43
  have hnr := hnr
  clear ml hc3
  go_loopw [9, 7] (fun kv av wr => ∃ (k : Nat) (E : List Value), k ≤ 3 ∧ kv = .int .i64 k ∧ AllR wr w3.heap.size av E ∧ PoolI wr w3.heap.size E (tri X Y L0 k) ∧ Kp No w3 wr) (fun kv _ _ => 3 - (intOf kv).toNat)
  case atStart => exact ⟨0, [], by omega, rfl, nil_own _ _ _ _, PoolI.nil _ _, Kp.refl _ _⟩
  case round =>
    obtain ⟨k, E, hk, rfl, ha, hp, hkp⟩ := hrel
    have HAL := Lib.hid ha; have HPL := Lib.hid hp; have HKP := Lib.hid hkp
    obtain ⟨Aa, ca, hav, hca⟩ := own_len ha
    subst hav
    have HEL := Lib.hid (show E.length = 3 * k by rw [hp.len, tri_len])
    have hel : E.length ≤ 9 := by rw [HEL.out]; omega
    clear ha hp hkp hca
    by_cases hlt : k < 3
    · have hk0 : (k : Int) < 3 := by omega
      go_wp2_with fail
      refine (PE.out _ (HA3.out.no HKP.out) HML.out).mono ?_
      rintro e w4 ⟨rx, rfl, ox, k4⟩
      obtain ⟨Ax, cx', hvx, _⟩ := own_len ox
      subst hvx
      have HP4 := Lib.hid (HPL.out.snoc k4 ox HKP.out.size); have K4 := Lib.hid k4
      clear ox k4
      go_wp2_with fail
      refine (PN.out _ (HA3.out.no (HKP.out.trans K4.out)) HML.out).mono ?_
      rintro e w5 ⟨ry, rfl, oy, k5⟩
      obtain ⟨Ay, cy', hvy, _⟩ := own_len oy
      subst hvy
      have HP5 := Lib.hid (HP4.out.snoc k5 oy (Nat.le_trans HKP.out.size K4.out.size)); have K5 := Lib.hid (K4.out.trans k5)
      clear oy k5 HP4 K4
      go_wp2_with fail
      have cc := laterS_any (.slice (some ⟨rg, 0, none⟩) L0.length c3) (.slice (some ⟨rg, 0, none⟩) L0.length c3) L0 L0 w5 (HA3.out.no (HKP.out.trans K5.out)) (HA3.out.no (HKP.out.trans K5.out)) (by omega) (by omega)
      rw [laterS_self] at cc
      refine cc.mono ?_
      clear cc
      rintro e w6 ⟨rz, rfl, oz, k6⟩
      obtain ⟨Az, cz, hvz, _⟩ := own_len oz
      subst hvz
      have HP6 := Lib.hid (HP5.out.snoc k6 oz (Nat.le_trans HKP.out.size K5.out.size)); have K6 := Lib.hid (K5.out.trans k6)
      clear oz k6 HP5 K5
      have HONE := Lib.hid (show ∀ u ∈ [Value.slice Ax X.length cx', .slice Ay Y.length cy', .slice Az L0.length cz], u.oneCell' = true from fun u hu => by
        cases hu with
        | head => rfl
        | tail _ h => (cases h with
          | head => rfl
          | tail _ h => (cases h with
            | head => rfl
            | tail _ h => cases h)))
      have HAL6 := Lib.hid (HAL.out.no (K6.out.alloc (.cells #[.slice Ax X.length cx', .slice Ay Y.length cy', .slice Az L0.length cz] 22)))
      have hszA : w3.heap.size ≤ (w6.alloc (.cells #[.slice Ax X.length cx', .slice Ay Y.length cy', .slice Az L0.length cz] 22)).heap.size := Nat.le_trans (Nat.le_trans HKP.out.size K6.out.size) ((Kp.refl No w6).alloc _).size
      go_wp2_with (at_builtin; refine (wpList_appV _ rfl _ _ 43 rfl w3.heap.size 22 _ 24 Tryd.underlying43 HI43.out rfl _ E.length E rfl HAL6.out _ 3 3 [.slice Ax X.length cx', .slice Ay Y.length cy', .slice Az L0.length cz] rfl rfl (cs_newI rfl rfl) HONE.out (by omega) (by omega) hszA ?_); intro v7 w7 o7 k7 n7; have K7 := Lib.hid (kp_ownI HAL6.out (Nat.le_refl _) ((HKP.out.trans K6.out).alloc _) k7); have HP7 := Lib.hid ((HP6.out.no ((Kp.refl No w6).alloc (.cells #[.slice Ax X.length cx', .slice Ay Y.length cy', .slice Az L0.length cz] 22))).all HAL6.out k7); have O7 := Lib.hid o7; clear o7 k7 n7 hszA)
      go_roundw
      case rel => exact ⟨k + 1, E ++ [.slice Ax X.length cx'] ++ [.slice Ay Y.length cy'] ++ [.slice Az L0.length cz], by omega, by go_num, by rw [List.append_assoc, List.append_assoc]; unfold AllR; rw [List.length_append]; exact O7.out, HP7.out, K7.out⟩
      case measure => simp [intOf]; omega
    · have hk3 : k = 3 := by omega
      have hk0 : ¬ (k : Int) < 3 := by omega
      rw [hk3] at HPL
      have HE9 := Lib.hid (show E.length = 9 by rw [HEL.out, hk3])
      clear HEL hk3 hlt hk
      go_wp2_with fail
      refine (PE2.out _ (H3.out.no HKP.out) HML.out).mono ?_
      rintro e w4 ⟨rx, rfl, ox, k4⟩
      obtain ⟨Ax, cx', hvx, _⟩ := own_len ox
      subst hvx
      have HX4 := Lib.hid (own_mono ox HKP.out.size); have K4 := Lib.hid (HKP.out.trans k4); have HP4 := Lib.hid (HPL.out.no k4); have HAL4 := Lib.hid (HAL.out.no k4)
      clear ox k4 HKP HPL HAL
      go_wp2_with fail
      refine (PN2.out _ (H3.out.no K4.out) HML.out).mono ?_
      rintro e w5 ⟨ry, rfl, oy, k5⟩
      obtain ⟨Ay, cy', hvy, _⟩ := own_len oy
      subst hvy
      have HY5 := Lib.hid (own_mono oy K4.out.size); have HX5 := Lib.hid (own_kp HX4.out k5 (fun _ _ m => m)); have K5 := Lib.hid (K4.out.trans k5); have HP5 := Lib.hid (HP4.out.no k5); have HAL5 := Lib.hid (HAL4.out.no k5)
      clear oy k5 K4 HP4 HAL4 HX4
      have HONE := Lib.hid (show ∀ u ∈ [Value.slice Ax X.length cx', .slice Ay Y.length cy', .slice A0 L0.length c0], u.oneCell' = true from fun u hu => by
        cases hu with
        | head => rfl
        | tail _ h => (cases h with
          | head => rfl
          | tail _ h => (cases h with
            | head => rfl
            | tail _ h => cases h)))
      have hszA : w5.heap.size ≤ (w5.alloc (.cells #[.slice Ax X.length cx', .slice Ay Y.length cy', .slice A0 L0.length c0] 22)).heap.size := ((Kp.refl No w5).alloc _).size
      go_wp2_with (first
        | (at_builtin; refine (wpList_appV _ rfl _ _ 43 rfl w5.heap.size 22 _ 24 Tryd.underlying43 HI43.out rfl _ 0 [] rfl (nil_own _ _ _ _) _ 3 3 [.slice Ax X.length cx', .slice Ay Y.length cy', .slice A0 L0.length c0] rfl rfl (cs_newI rfl rfl) HONE.out (by omega) (by omega) hszA ?_); intro v6 w6 o6 k6 n6; have K56 := Lib.hid (kp_ownI (nil_own (w5.alloc (.cells #[.slice Ax X.length cx', .slice Ay Y.length cy', .slice A0 L0.length c0] 22)) w5.heap.size 22 1) (Nat.le_refl _) ((Kp.refl No w5).alloc _) k6); have HW6 := Lib.hid (show AllR w6 w5.heap.size v6 [.slice Ax X.length cx', .slice Ay Y.length cy', .slice A0 L0.length c0] from o6); clear o6 k6 n6 hszA; obtain ⟨gW, cW, hvW, _⟩ := HW6.out.at_ (by simp); subst hvW)
        | fail)
      have HS35 := Lib.hid K5.out.size; have K6 := Lib.hid (K5.out.trans K56.out); have HP6 := Lib.hid (HP5.out.no K56.out); have HAL6 := Lib.hid (HAL5.out.no K56.out); have HX6 := Lib.hid (own_kp HX5.out K56.out (fun _ _ m => m)); have HY6 := Lib.hid (own_kp HY5.out K56.out (fun _ _ m => m))
      clear K5 HP5 HAL5 HX5 HY5 K56
      refine (textS_any' _ _ _ (HA3.out.no K6.out) l0 Z0.out (HL.out.no (HK3.out.trans K6.out))).mono ?_
      rintro e w7 ⟨⟨st, rfl⟩, k7⟩
      have K7 := Lib.hid k7; clear k7
      go_wp2_with fail
      refine (compareS_any _ _ _ _ _ (HA3.out.no (K6.out.trans K7.out)) (HA3.out.no (K6.out.trans K7.out)) HML.out HML.out).mono ?_
      rintro e w8 ⟨rfl, k8⟩
      have K8 := Lib.hid (K7.out.trans k8); clear k8
      go_wp2_with fail
      refine (sameS_eq _ _ _ _ _ (HA3.out.no (K6.out.trans K8.out)) (H3.out.no (K6.out.trans K8.out)) HML.out rfl).mono ?_
      rintro e w9 ⟨rfl, k9⟩
      have K69 := Lib.hid (K8.out.trans k9); clear k9
      have K9 := Lib.hid (K6.out.trans K69.out)
      have HF9 := Lib.hid (HF3.out.no K9.out)
      have z1 : w9.cell? ⟨rg, L0.length, none⟩ = some (.int .i64 (-91)) := HF9.out.cell (by rw [List.getElem?_append_right (Nat.le_refl _), Nat.sub_self]; rfl)
      have z2 : w9.cell? ⟨rg, L0.length + 1, none⟩ = some (.int .i64 (-92)) := HF9.out.cell (by rw [List.getElem?_append_right (by omega), show L0.length + 1 - L0.length = 1 by omega]; rfl)
      have i0 : (0 : Int) ≤ (L0.length : Int) := by omega
      have i1 : (L0.length : Int) < (nR : Int) := by omega
      have hnr2 := HNR.out
      have i2 : (L0.length : Int) + 1 < (nR : Int) := by omega
      have i3 : (0 : Int) ≤ (L0.length : Int) + 1 := by omega
      clear hnr2
      go_wp2
      clear z1 z2 i0 i1 i2 i3 hnr hsl
      obtain ⟨gA, cA, hvA, _, _⟩ := (HAL6.out.no K69.out).at_ (by rw [HE9.out]; omega)
      injection hvA with e1 _ e3
      subst e1 e3
      have HAL9 := Lib.hid (HAL6.out.no K69.out)
      have HRW := Lib.hid (show ∀ (g : Nat), w3.heap.size ≤ g → ¬ One rg g from fun g h e => by have e : g = rg := e; have := HRG.out.2; omega)
      have HCA := Lib.hid (show ∀ W, Kp (One rg) w9 W → AllR W w3.heap.size (.slice (some ⟨gA, 0, none⟩) E.length ca) E from fun W k => HAL9.out.kp k fun g hg => HRW.out g (World.ownsRow.lt HAL9.out g hg).1)
      have HW9 := Lib.hid (HW6.out.no K69.out)
      have h35 : w3.heap.size ≤ w5.heap.size := HS35.out
      have HCW := Lib.hid (show ∀ W, Kp (One rg) w9 W → AllR W w5.heap.size (.slice (some ⟨gW, 0, none⟩) [Value.slice Ax X.length cx', .slice Ay Y.length cy', .slice A0 L0.length c0].length cW) [Value.slice Ax X.length cx', .slice Ay Y.length cy', .slice A0 L0.length c0] from fun W k => HW9.out.kp k fun g hg => HRW.out g (Nat.le_trans h35 (World.ownsRow.lt HW9.out g hg).1))
      have HP9 := Lib.hid (HP6.out.no K69.out)
      have HPW := Lib.hid (show ∀ W, Kp (One rg) w9 W → PoolI W w3.heap.size E (tri X Y L0 3) from fun W k => HP9.out.kp k fun i x g hx hg => HRW.out g (HP9.out.low i x g hx hg))
      have HX9 := Lib.hid (own_kp HX6.out K69.out (fun _ _ m => m)); have HY9 := Lib.hid (own_kp HY6.out K69.out (fun _ _ m => m))
      have HK9 := Lib.hid (show ∀ W, Kp (One rg) w9 W → Kp No w W from fun W k => (HK3.out.trans K9.out).then_ k fun i hi e => by have e : i = rg := e; have := HRG.out.1; have := K1.out.size; omega)
      have HWW := Lib.hid (show ∀ (i : Nat) (T : List Int), [X, Y, L0][i]? = some T → ∃ A c, [Value.slice Ax X.length cx', .slice Ay Y.length cy', .slice A0 L0.length c0][i]? = some (.slice A T.length c) ∧ ∀ W, Kp (One rg) w9 W → ArgInts W (.slice A T.length c) T from fun i T h => by
        match i with
        | 0 => injection h with h; subst h; exact ⟨_, _, rfl, fun W k => own_argI (own_kp HX9.out k fun g hg => HRW.out g (World.ownsRow.lt HX9.out g hg).1)⟩
        | 1 => injection h with h; subst h; exact ⟨_, _, rfl, fun W k => own_argI (own_kp HY9.out k fun g hg => HRW.out g (World.ownsRow.lt HY9.out g hg).1)⟩
        | 2 => injection h with h; subst h; exact ⟨_, _, rfl, fun W k => H0.out.no (HK9.out W k)⟩
        | n + 3 => simp at h)
      have HTM := Lib.hid (show ∀ (i : Nat) (T : List Int), [X, Y, L0][i]? = some T → T.length ≤ 1048577 from fun i T h => by
        match i with
        | 0 => injection h with h; subst h; exact HXM.out
        | 1 => injection h with h; subst h; exact HYM.out
        | 2 => injection h with h; subst h; omega
        | n + 3 => simp at h)
      clear HAL6 HW6 HP6 HX6 HY6 HX9 HY9 HW9 HAL9 HP9 HXM HYM HML h35 HS35 HONE
      obtain ⟨Z, hZ⟩ : ∃ Z, [X, Y, L0] = Z := ⟨_, rfl⟩
      obtain ⟨QW, hQW⟩ : ∃ QW, [Value.slice Ax X.length cx', .slice Ay Y.length cy', .slice A0 L0.length c0] = QW := ⟨_, rfl⟩
      have HTG := Lib.hid (show ∀ i, i < 9 → ∃ T, (tri X Y L0 3)[i]? = some T ∧ Z[i % 3]? = some T from fun i h => by rw [← hZ]; exact tri_get (by omega))
      rw [hZ, hQW] at HWW
      rw [hZ] at HTM
      rw [hQW] at HCW
      have hq3 : QW.length = 3 := by rw [← hQW]; rfl
      have HQ3 := Lib.hid hq3
      clear hZ hQW hq3
      obtain ⟨D, hD⟩ : ∃ D, tri X Y L0 3 = D := ⟨_, rfl⟩
      rw [hD] at HTG HPW
      clear hD
      have HSAME := Lib.hid (show ∀ wr, Kp (One rg) w9 wr → ∀ k, k < E.length → ∃ A n c A' c', n ≤ 1048577 ∧ (∀ W2, Kp No wr W2 → Calls Tryd.prog 21 #[.slice A n c, .slice A' n c'] W2 fun e w' => e = .returned (.bool true) ∧ Kp No wr w') ∧
          (∀ W2, Kp No wr W2 → W2.cell? ⟨gA, k, none⟩ = some (.slice A n c) ∧ W2.cell? ⟨gW, k % 3, none⟩ = some (.slice A' n c')) from fun wr hkp k hlt => by
        obtain ⟨x, T, hx, hT, hown⟩ := (HPW.out wr hkp).get (i := k) (by rw [← (HPW.out wr hkp).len]; exact hlt)
        obtain ⟨Ax2, cx2, hvx2, _⟩ := own_len hown
        subst hvx2
        obtain ⟨T', hT', hZ⟩ := HTG.out k (by rw [← HE9.out]; exact hlt)
        obtain rfl : T = T' := by rw [hT] at hT'; injection hT'
        obtain ⟨Aq, cq, hq, hqa⟩ := HWW.out _ _ hZ
        refine ⟨Ax2, T.length, cx2, Aq, cq, HTM.out _ _ hZ, fun W2 k2 => (sameS_eq _ _ _ _ W2 ((HPW.out W2 (hkp.trans k2.of_no)).own k _ _ hx hT).arg (hqa W2 (hkp.trans k2.of_no)) (Nat.le_trans (HTM.out _ _ hZ) (by decide)) rfl).mono fun e w' ⟨h, k3⟩ => ⟨h, k2.trans k3⟩, fun W2 k2 => ⟨?_, ?_⟩⟩
        · have := World.ownsRow.cells (HCA.out W2 (hkp.trans k2.of_no)) (g := gA) rfl k _ hx
          rwa [Addr.add_mid, Nat.zero_add] at this
        · have := World.ownsRow.cells (HCW.out W2 (hkp.trans k2.of_no)) (g := gW) rfl (k % 3) _ hq
          rwa [Addr.add_mid, Nat.zero_add] at this)
      have HF9' := Lib.hid HF9.out
      have HEB := Lib.hid (show ∀ (k : Nat) (A : Option Addr) (n c : Nat), E[k]? = some (.slice A n c) → n ≤ 1048577 from fun k A n c hx => by
        have hp := HPW.out w9 (Kp.refl _ _)
        have hk : k < D.length := by rw [← hp.len]; exact (List.getElem?_eq_some_iff.1 hx).1
        have hd : D[k]? = some D[k] := List.getElem?_eq_getElem hk
        have ho := hp.own k _ _ hx hd
        obtain ⟨_, _, e, _⟩ := own_len ho
        injection e with _ e
        obtain ⟨T', hT', hZ⟩ := HTG.out k (by rw [← HE9.out, hp.len]; exact hk)
        rw [hd] at hT'
        injection hT' with hT'
        rw [e, hT']
        exact HTM.out _ _ hZ)
      clear HF9 HTG HWW HTM HCW HQ3 K69 K6 K7 K8 K9
      have Kw9 := Lib.hid (Kp.refl (One rg) w9)
      go_loopw [108] (fun kv wr => ∃ k : Nat, k ≤ E.length ∧ kv = .int .i64 k ∧ Kp No w9 wr) (fun kv _ => E.length - (intOf kv).toNat)
      case atStart => exact ⟨0, Nat.zero_le _, rfl, Kp.refl _ _⟩
      case round =>
        obtain ⟨k, hk, rfl, hkp⟩ := hrel
        have HKP := Lib.hid hkp; clear hkp
        have hk0 : (0 : Int) ≤ (k : Int) := by omega
        by_cases hlt : k < E.length
        · have hk1 : (k : Int) < (E.length : Int) := by omega
          obtain ⟨Ax2, nx2, cx2, Aq, cq, _, ss, sk⟩ := HSAME.out wr (Kw9.out.trans HKP.out.of_no) k hlt
          obtain ⟨r, hr⟩ : ∃ r, k % 3 = r := ⟨_, rfl⟩
          rw [hr] at sk
          have r0 : (0 : Int) ≤ (r : Int) := by omega
          have r1 : (r : Int) < 3 := by omega
          have r2 : (k : Int).tmod 3 = (r : Int) := by rw [Int.tmod_eq_emod_of_nonneg hk0]; omega
          have r3 : (k : Int) % 3 = (r : Int) := by omega
          clear hr
          go_wp2
          go_region_held3 (fun W2 => W2.cell? ⟨gA, k, none⟩ = some (.slice Ax2 nx2 cx2) ∧ W2.cell? ⟨gW, r, none⟩ = some (.slice Aq nx2 cq)) (first | (go_keep; done) | exact sk _ (by with_reducible repeat (first | assumption | exact Kp.refl _ _ | refine Kp.drew ?_ | refine Kp.drewN ?_ _)))
            (first | (go_at_call 21; (with_reducible refine (ss _ (by with_reducible repeat (first | assumption | exact Kp.refl _ _ | refine Kp.drew ?_ | refine Kp.drewN ?_ _))).mono ?_); rintro e w10 ⟨rfl, k10⟩))
          have HK10 := Lib.hid k10
          clear ss sk k10 r0 r1 r2 r3
          go_wp2
          go_roundw
          case rel => exact ⟨k + 1, by omega, by go_num, HKP.out.trans HK10.out⟩
          case measure => simp [intOf]; omega
        · have hk1 : ¬ (k : Int) < (E.length : Int) := by omega
          clear hlt hk
          go_wp2
          obtain ⟨wa, hw⟩ : ∃ wa : World, wa = wr := ⟨_, rfl⟩
          subst hw
          have Kwa := Lib.hid (Kw9.out.trans HKP.out.of_no)
          have HFa := Lib.hid (HF9'.out.no HKP.out)
          have hnb : nR ≤ 1048578 := by have := HNR.out; omega
          have HFL := Lib.hid (show (L0 ++ ([-91, -92] : List Int)).length = nR by rw [List.length_append, HNR.out]; rfl)
          clear HKP
          go_loopw [125] (fun kv wr => ∃ (k : Nat) (F : List Int), k ≤ nR ∧ kv = .int .i64 k ∧ F.length = nR ∧ RowI wr (.slice (some ⟨rg, 0, none⟩) nR c3) F ∧ Kp (One rg) wa wr) (fun kv _ => nR - (intOf kv).toNat)
          case atStart => exact ⟨0, _, Nat.zero_le _, rfl, HFL.out, HFa.out, Kp.refl _ _⟩
          case round =>
            obtain ⟨k, F, hk, rfl, hF, hrow, hkp⟩ := hrel
            have HFF := Lib.hid hF; have HROW := Lib.hid hrow; have HKP := Lib.hid hkp; clear hF hrow hkp
            have hk0 : (0 : Int) ≤ (k : Int) := by omega
            by_cases hlt : k < nR
            · have hk1 : (k : Int) < (nR : Int) := by omega
              obtain ⟨u0, hu0⟩ : ∃ u0, F[k]? = some u0 := ⟨_, List.getElem?_eq_getElem (by rw [HFF.out]; exact hlt)⟩
              have hc := HROW.out.cell hu0
              have hfz := HROW.out.frozen k
              clear hu0
              go_wp2
              go_roundw
              case rel => exact ⟨k + 1, F.set k 7, by omega, by go_num, by rw [List.length_set]; exact HFF.out, HROW.out.set k 7, HKP.out.set (.inl (One.self _)) _ _⟩
              case measure => simp [intOf]; omega
            · have hk1 : ¬ (k : Int) < (nR : Int) := by omega
              clear hlt hk
              go_wp2
              obtain ⟨wb, hw⟩ : ∃ wb : World, wb = wr := ⟨_, rfl⟩
              subst hw
              have Kwb := Lib.hid (Kwa.out.trans HKP.out)
              clear HKP Kwa HFa HROW HFF
              go_loopw [134] (fun kv wr => ∃ k : Nat, k ≤ E.length ∧ kv = .int .i64 k ∧ Kp No wb wr) (fun kv _ => E.length - (intOf kv).toNat)
              case atStart => exact ⟨0, Nat.zero_le _, rfl, Kp.refl _ _⟩
              case round =>
                obtain ⟨k, hk, rfl, hkp⟩ := hrel
                have HKP := Lib.hid hkp; clear hkp
                have hk0 : (0 : Int) ≤ (k : Int) := by omega
                by_cases hlt : k < E.length
                · have hk1 : (k : Int) < (E.length : Int) := by omega
                  obtain ⟨Ax2, nx2, cx2, Aq, cq, _, ss, sk⟩ := HSAME.out wr (Kwb.out.trans HKP.out.of_no) k hlt
                  obtain ⟨r, hr⟩ : ∃ r, k % 3 = r := ⟨_, rfl⟩
                  rw [hr] at sk
                  have r0 : (0 : Int) ≤ (r : Int) := by omega
                  have r1 : (r : Int) < 3 := by omega
                  have r2 : (k : Int).tmod 3 = (r : Int) := by rw [Int.tmod_eq_emod_of_nonneg hk0]; omega
                  have r3 : (k : Int) % 3 = (r : Int) := by omega
                  clear hr
                  go_wp2
                  go_region_held3 (fun W2 => W2.cell? ⟨gA, k, none⟩ = some (.slice Ax2 nx2 cx2) ∧ W2.cell? ⟨gW, r, none⟩ = some (.slice Aq nx2 cq)) (first | (go_keep; done) | exact sk _ (by with_reducible repeat (first | assumption | exact Kp.refl _ _ | refine Kp.drew ?_ | refine Kp.drewN ?_ _)))
                    (first | (go_at_call 21; (with_reducible refine (ss _ (by with_reducible repeat (first | assumption | exact Kp.refl _ _ | refine Kp.drew ?_ | refine Kp.drewN ?_ _))).mono ?_); rintro e w10 ⟨rfl, k10⟩))
                  have HK10 := Lib.hid k10
                  clear ss sk k10 r0 r1 r2 r3
                  go_wp2
                  go_roundw
                  case rel => exact ⟨k + 1, by omega, by go_num, HKP.out.trans HK10.out⟩
                  case measure => simp [intOf]; omega
                · have hk1 : ¬ (k : Int) < (E.length : Int) := by omega
                  clear hlt hk
                  go_wp2
                  obtain ⟨wc, hw⟩ : ∃ wc : World, wc = wr := ⟨_, rfl⟩
                  subst hw
                  have Kwc := Lib.hid (Kwb.out.trans HKP.out.of_no)
                  have HPe := Lib.hid (HPW.out wc Kwc.out); have HAe := Lib.hid (HCA.out wc Kwc.out); have HKe := Lib.hid (HK9.out wc Kwc.out)
                  clear HKP Kwc Kwb HPW HCA HK9 HSAME
                  go_loopw [151] (fun kv wr => ∃ (k : Nat) (D2 : List (List Int)), k ≤ E.length ∧ kv = .int .i64 k ∧ PoolI wr w3.heap.size E D2 ∧ Told D2 k 0 ∧ AllR wr w3.heap.size (.slice (some ⟨gA, 0, none⟩) E.length ca) E ∧ Kp No w wr) (fun kv _ => E.length - (intOf kv).toNat)
                  case atStart => exact ⟨0, D, Nat.zero_le _, rfl, HPe.out, Told.zero _, HAe.out, HKe.out⟩
                  case round =>
                    obtain ⟨k, D2, hk, rfl, hp, htold, ha, hkp⟩ := hrel
                    have HPQ := Lib.hid hp; have HALQ := Lib.hid ha; have HKP := Lib.hid hkp; have HTOLD := Lib.hid htold; clear hp ha hkp htold HPe HAe HKe
                    have hk0 : (0 : Int) ≤ (k : Int) := by omega
                    by_cases hlt : k < E.length
                    · have hk1 : (k : Int) < (E.length : Int) := by omega
                      have hk9 : (k : Int) < 9 := by have := HE9.out; omega
                      obtain ⟨x, T, hx, hT, hown⟩ := HPQ.out.get (i := k) (by rw [← HPQ.out.len]; exact hlt)
                      obtain ⟨Ax2, cx2, hvx2, hAx⟩ := RowI.form hown
                      subst hvx2
                      have hc : wr.cell? ⟨gA, k, none⟩ = some (.slice Ax2 T.length cx2) := by
                        have := World.ownsRow.cells HALQ.out (g := gA) rfl k _ hx
                        rwa [Addr.add_mid, Nat.zero_add] at this
                      have htb : T.length ≤ 1048577 := HEB.out _ _ _ _ hx
                      have HXX := Lib.hid hx; have HTT := Lib.hid hT; have HAX := Lib.hid hAx
                      clear hx hT hAx hown
                      go_wp2
                      clear hc
                      obtain ⟨wf, hw⟩ : ∃ wf : World, wf = wr := ⟨_, rfl⟩
                      subst hw
                      go_loopw [158] (fun iv wr => ∃ (i : Nat) (D3 : List (List Int)), i ≤ T.length ∧ iv = .int .i64 i ∧ PoolI wr w3.heap.size E D3 ∧ Told D3 k i ∧ (∃ T3, D3[k]? = some T3 ∧ T3.length = T.length) ∧ AllR wr w3.heap.size (.slice (some ⟨gA, 0, none⟩) E.length ca) E ∧ Kp No w wr) (fun iv _ => T.length - (intOf iv).toNat)
                      case atStart => exact ⟨0, D2, Nat.zero_le _, rfl, HPQ.out, HTOLD.out, ⟨T, HTT.out, rfl⟩, HALQ.out, HKP.out⟩
                      case round =>
                        clear HPQ HALQ HKP HTOLD
                        obtain ⟨i, D3, hi, rfl, hp, htold, ⟨T3, hT3, hl3⟩, ha, hkp⟩ := hrel
                        have HPQ := Lib.hid hp; have HALQ := Lib.hid ha; have HKP := Lib.hid hkp; have HTOLD := Lib.hid htold; have HT3 := Lib.hid hT3; have HL3 := Lib.hid hl3; clear hp ha hkp htold hT3 hl3
                        have hi0 : (0 : Int) ≤ (i : Int) := by omega
                        by_cases hin : i < T.length
                        · have hi1 : (i : Int) < (T.length : Int) := by omega
                          obtain ⟨g, rfl⟩ := HAX.out (by omega)
                          have HROW := Lib.hid (HPQ.out.own k _ _ HXX.out HT3.out)
                          obtain ⟨u0, hu0⟩ : ∃ u0, T3[i]? = some u0 := ⟨_, List.getElem?_eq_getElem (by rw [HL3.out]; exact hin)⟩
                          have hc := HROW.out.cell hu0
                          have hfz := HROW.out.frozen i
                          clear hu0
                          have HGB := Lib.hid (HPQ.out.low k _ g HXX.out rfl)
                          go_wp2
                          go_roundw
                          case rel => exact ⟨i + 1, D3.set k (T3.set i (-(k : Int) - 1)), by omega, by go_num, HPQ.out.store HXX.out HT3.out _, HTOLD.out.step HT3.out (by rw [HL3.out]; exact hin), ⟨_, List.getElem?_set_self (List.getElem?_eq_some_iff.1 HT3.out).1, by rw [List.length_set]; exact HL3.out⟩, HALQ.out.int HROW.out ((Kp.refl (fun j => (Value.slice (some ⟨g, 0, none⟩) T.length cx2).ownBlock = some j) wr).set (.inl rfl) _ _), HKP.out.set (.inr (Nat.le_trans HK3.out.size HGB.out)) _ _⟩
                          case measure => simp [intOf]; omega
                        · have hi1 : ¬ (i : Int) < (T.length : Int) := by omega
                          go_wp2
                          go_roundw
                          case rel => exact ⟨k + 1, D3, by omega, by go_num, HPQ.out, HTOLD.out.row HT3.out (by rw [HL3.out]; omega), HALQ.out, HKP.out⟩
                          case measure => simp [intOf]; omega
                    · have hk1 : ¬ (k : Int) < (E.length : Int) := by omega
                      have hke : k = 9 := by have := HE9.out; omega
                      rw [hke] at HTOLD
                      clear hlt hk hke
                      go_wp2
                      obtain ⟨wd, hw⟩ : ∃ wd : World, wd = wr := ⟨_, rfl⟩
                      subst hw
                      have HPe := Lib.hid HPQ.out; have HAe := Lib.hid HALQ.out; have HKe := Lib.hid HKP.out
                      clear HPQ HALQ HKP
                      go_loopw [171] (fun kv wr => ∃ k : Nat, k ≤ E.length ∧ kv = .int .i64 k ∧ PoolI wr w3.heap.size E D2 ∧ AllR wr w3.heap.size (.slice (some ⟨gA, 0, none⟩) E.length ca) E ∧ Kp No w wr) (fun kv _ => E.length - (intOf kv).toNat)
                      case atStart => exact ⟨0, Nat.zero_le _, rfl, HPe.out, HAe.out, HKe.out⟩
                      case round =>
                        obtain ⟨k, hk, rfl, hp, ha, hkp⟩ := hrel
                        have HPQ := Lib.hid hp; have HALQ := Lib.hid ha; have HKP := Lib.hid hkp; clear hp ha hkp HPe HAe HKe
                        have hk0 : (0 : Int) ≤ (k : Int) := by omega
                        by_cases hlt : k < E.length
                        · have hk1 : (k : Int) < (E.length : Int) := by omega
                          obtain ⟨x, T, hx, hT, hown⟩ := HPQ.out.get (i := k) (by rw [← HPQ.out.len]; exact hlt)
                          obtain ⟨Ax2, cx2, hvx2, _⟩ := RowI.form hown
                          subst hvx2
                          have hc : wr.cell? ⟨gA, k, none⟩ = some (.slice Ax2 T.length cx2) := by
                            have := World.ownsRow.cells HALQ.out (g := gA) rfl k _ hx
                            rwa [Addr.add_mid, Nat.zero_add] at this
                          have HTL := Lib.hid (HEB.out _ _ _ _ hx)
                          have HG0 := Lib.hid (HPQ.out.grow hx hT)
                          clear hx hT hown
                          go_wp2
                          clear hc
                          obtain ⟨wf, hw⟩ : ∃ wf : World, wf = wr := ⟨_, rfl⟩
                          subst hw
                          go_loopw [26, 25] (fun iv cv wr => ∃ (i : Nat) (M : List Int), i ≤ 9 ∧ iv = .int .i64 i ∧ GrowI wr w3.heap.size E D2 k cv M ∧ M.length ≤ 1048577 + i ∧ AllR wr w3.heap.size (.slice (some ⟨gA, 0, none⟩) E.length ca) E ∧ Kp No w wr) (fun iv _ _ => 9 - (intOf iv).toNat)
                          case atStart => exact ⟨0, T, Nat.zero_le _, rfl, HG0.out, HTL.out, HALQ.out, HKP.out⟩
                          case round =>
                            clear HPQ HALQ HKP HG0
                            obtain ⟨i, M, hi, rfl, hg, hm, ha, hkp⟩ := hrel
                            obtain ⟨Ac, cc, hvc, _⟩ := own_len hg.row
                            subst hvc
                            have HGG := Lib.hid hg; have HALQ := Lib.hid ha; have HKP := Lib.hid hkp; clear hg ha hkp
                            by_cases hin : i < 9
                            · have hi1 : (i : Int) < 9 := by omega
                              have HWS := Lib.hid (show w3.heap.size ≤ wr.heap.size by have := World.ownsRow.lt HALQ.out gA rfl; omega)
                              have KA := Lib.hid ((Kp.refl No wr).alloc (.cells #[.int .i64 99] 3))
                              have HGA := Lib.hid (HGG.out.no KA.out)
                              have HNW := Lib.hid (show ∀ j u, [Value.int .i64 99][j]? = some u → (wr.alloc (.cells #[.int .i64 99] 3)).cell? ((⟨wr.heap.size, 0, none⟩ : Addr).add j) = some u from fun j u hu => by
                                rw [Addr.add_mid, Nat.zero_add, (Bk.new' rfl rfl : Bk (wr.alloc (.cells #[.int .i64 99] 3)) wr.heap.size 3 [Value.int .i64 99]).cell]; exact hu)
                              have HRW := Lib.hid (show (wr.alloc (.cells #[.int .i64 99] 3)).ownsRow 0 3 1 (.slice Ac M.length cc) M.length (ints M) from HGA.out.row)
                              go_wp2_with (first
                                | (at_builtin; refine (wpList_app2 _ rfl _ _ 22 rfl 0 3 _ 8 Tryd.underlying22 Tryd.infoInt rfl _ M.length (ints M) rfl HRW.out _ 1 1 [.int .i64 99] rfl rfl HNW.out (by intro u hu; cases hu with | head => rfl | tail _ h => cases h) (by omega) (by omega) (Nat.zero_le _) ?_); intro v7 w7 o7 c7; have HL7 := Lib.hid (HGA.out.leaves HK3.out.size (HALQ.out.no KA.out) (HKP.out.trans KA.out) c7); have HG7 := Lib.hid (HGA.out.step 99 (Nat.le_trans HWS.out KA.out.size) o7 c7); clear o7 c7)
                                | fail)
                              go_roundw
                              case rel => exact ⟨i + 1, M ++ [99], by omega, by go_num, HG7.out, by rw [List.length_append]; simp; omega, HL7.out.1, HL7.out.2⟩
                              case measure => simp [intOf]; omega
                            · have hi1 : ¬ (i : Int) < 9 := by omega
                              go_wp2
                              go_roundw
                              case rel => exact ⟨k + 1, by omega, by go_num, HGG.out.pool, HALQ.out, HKP.out⟩
                              case measure => simp [intOf]; omega
                        · have hk1 : ¬ (k : Int) < (E.length : Int) := by omega
                          clear hlt hk
                          go_wp2
                          obtain ⟨we, hw⟩ : ∃ we : World, we = wr := ⟨_, rfl⟩
                          subst hw
                          have HPe := Lib.hid HPQ.out; have HAe := Lib.hid HALQ.out; have HKe := Lib.hid HKP.out
                          clear HPQ HALQ HKP
                          go_loopw [185] (fun kv wr => ∃ k : Nat, k ≤ E.length ∧ kv = .int .i64 k ∧ PoolI wr w3.heap.size E D2 ∧ AllR wr w3.heap.size (.slice (some ⟨gA, 0, none⟩) E.length ca) E ∧ Kp No w wr) (fun kv _ => E.length - (intOf kv).toNat)
                          case atStart => exact ⟨0, Nat.zero_le _, rfl, HPe.out, HAe.out, HKe.out⟩
                          case round =>
                            obtain ⟨k, hk, rfl, hp, ha, hkp⟩ := hrel
                            have HPQ := Lib.hid hp; have HALQ := Lib.hid ha; have HKP := Lib.hid hkp; clear hp ha hkp HPe HAe HKe
                            have hk0 : (0 : Int) ≤ (k : Int) := by omega
                            by_cases hlt : k < E.length
                            · have hk1 : (k : Int) < (E.length : Int) := by omega
                              obtain ⟨x, T, hx, hT, hown⟩ := HPQ.out.get (i := k) (by rw [← HPQ.out.len]; exact hlt)
                              obtain ⟨Ax2, cx2, hvx2, hAx⟩ := RowI.form hown
                              subst hvx2
                              have hk9 : (k : Int) < 9 := by have := HE9.out; omega
                              have hc : wr.cell? ⟨gA, k, none⟩ = some (.slice Ax2 T.length cx2) := by
                                have := World.ownsRow.cells HALQ.out (g := gA) rfl k _ hx
                                rwa [Addr.add_mid, Nat.zero_add] at this
                              have htb : T.length ≤ 1048577 := HEB.out _ _ _ _ hx
                              have HXX := Lib.hid hx; have HTT := Lib.hid hT; have HAX := Lib.hid hAx
                              have HTN := Lib.hid (show ∀ i u, T[i]? = some u → u = -(k : Int) - 1 from fun i u h => HTOLD.out k T i u hT h (by have := HE9.out; omega))
                              clear hx hT hAx hown
                              go_wp2
                              clear hc
                              obtain ⟨wf, hw⟩ : ∃ wf : World, wf = wr := ⟨_, rfl⟩
                              subst hw
                              go_loopw [192] (fun iv wr => ∃ i : Nat, i ≤ T.length ∧ iv = .int .i64 i ∧ PoolI wr w3.heap.size E D2 ∧ AllR wr w3.heap.size (.slice (some ⟨gA, 0, none⟩) E.length ca) E ∧ Kp No w wr) (fun iv _ => T.length - (intOf iv).toNat)
                              case atStart => exact ⟨0, Nat.zero_le _, rfl, HPQ.out, HALQ.out, HKP.out⟩
                              case round =>
                                clear HPQ HALQ HKP
                                obtain ⟨i, hi, rfl, hp, ha, hkp⟩ := hrel
                                have HPQ := Lib.hid hp; have HALQ := Lib.hid ha; have HKP := Lib.hid hkp; clear hp ha hkp
                                have hi0 : (0 : Int) ≤ (i : Int) := by omega
                                by_cases hin : i < T.length
                                · have hi1 : (i : Int) < (T.length : Int) := by omega
                                  obtain ⟨g, rfl⟩ := HAX.out (by omega)
                                  have hc : wr.cell? ⟨g, i, none⟩ = some (.int .i64 (-(k : Int) - 1)) := by
                                    have h := (HPQ.out.own k _ _ HXX.out HTT.out).cell (List.getElem?_eq_getElem hin)
                                    rwa [HTN.out i _ (List.getElem?_eq_getElem hin)] at h
                                  go_wp2
                                  go_roundw
                                  case rel => exact ⟨i + 1, by omega, by go_num, HPQ.out, HALQ.out, HKP.out⟩
                                  case measure => simp [intOf]; omega
                                · have hi1 : ¬ (i : Int) < (T.length : Int) := by omega
                                  go_wp2
                                  go_roundw
                                  case rel => exact ⟨k + 1, by omega, by go_num, HPQ.out, HALQ.out, HKP.out⟩
                                  case measure => simp [intOf]; omega
                            · have hk1 : ¬ (k : Int) < (E.length : Int) := by omega
                              clear hlt hk
                              go_wp2
                              go_ret
                              exact ⟨rfl, HKP.out.below (Nat.le_refl _) (fun _ _ m => m)⟩

set_option maxRecDepth 100000 in
theorem lifted (os : Os) (started : os.Started) (H : Type) (enc : TypeId × Value → H) (F : Stop.Interp) :
    ReturnsInHanded {} Tryd.checked os 10 .any ((Rows.OpenSpec.upto Rows.stampsOwnSpec).preRow enc Tryd.prog Tryd.f10 Rows.stampsOwnUptoRow.domain false Rows.stampsOwnUptoRow.laid)
      (((Rows.OpenSpec.upto Rows.stampsOwnSpec).at F).post enc Tryd.prog Tryd.f10 false true false false) := by
  refine returnsInHanded_of_row (C := Tryd.checked) (s := Rows.OpenSpec.upto Rows.stampsOwnSpec) own started (by kernel_rfl) Tryd.func10
    (witness_row_at (enc := enc) (C := Tryd.checked) false (World.laidAll Tryd.prog os LAID) #[.slice none 0 0, .int .i64 0] (World.laidAll_os _ _ _) (by kernel_rfl) (by kernel_rfl) (by kernel_rfl)
      (OpenSpec.preRow_of_cond (x := ([.nil, .lit (.int .i64 0)], [], [])) 8 (by kernel_rfl) (by kernel_rfl) (fun k hk => by cases hk; kernel_rfl) (by kernel_rfl) (laidMet_laidAll _ (by kernel_rfl) (by kernel_rfl)))) ?_
  intro W base args ds gs before hval0 hW hcnd hbulk hsz0 hL hsh _
  replace hbulk := hbulk _ rfl
  have hval : ∀ (j : Nat) t v, Tryd.f10.params[j]? = some t → args[j]? = some v → Value.okWide Tryd.prog W .any base t v := hval0
  have hW' := hW
  obtain ⟨p, q, hA0, hV, rfl, hfz, hnd⟩ := hW
  have hA : DataW.TrodAll enc Tryd.prog W 0 (fun _ => true) true Tryd.f10.params.toList args.toList ds p := hA0
  rw [Tryd.params10] at hA hval
  obtain ⟨v0, vs0, d0, ds0, p0, q0, hargs, rfl, rfl, h0, r0⟩ := trodAll_cons hA
  obtain ⟨v1, vs1, d1, ds1, p1, q1, rfl, rfl, rfl, h1, r1⟩ := trodAll_cons r0
  obtain ⟨rfl, rfl, rfl⟩ := trodAll_nil r1
  obtain rfl : args = #[v0, v1] := by cases args; simp_all
  obtain ⟨rfl, rfl⟩ := trodVars_none hV
  have hsz : ∀ (j : Nat) (t : TypeId) (d : DataW H), ([22, 3] : List TypeId)[j]? = some t → [d0, d1][j]? = some d → ∀ n ∈ d.weights Tryd.prog t, n ≤ reachBytes := by
    intro j t d ht hd n hn
    have hsz1 : (DataW.weightsEach Tryd.prog ([22, 3] : List TypeId) [d0, d1]).all (· ≤ reachBytes) = true := hsz0
    have := List.all_eq_true.1 hsz1 n (DataW.weights_mem_each ht hd n hn)
    simpa using this
  have hb0 := bulk_of hbulk (d := d0) (by simp)
  have hb1 := bulk_of hbulk (d := d1) (by simp)
  have k0 := h0
  have lt0 : ∀ x ∈ p0, x.block < W.heap.size := by obtain ⟨m, hm⟩ := k0; exact DataW.trod_lt m _ _ _ hm
  obtain ⟨L0, a0, l0, z0⟩ := open_intsU Tryd.underlying22 Tryd.underlying3 (by kernel_rfl) (by kernel_rfl) (hval 0 22 v0 rfl rfl) h0 (hsz 0 22 _ rfl rfl) hb0
  have k1 := h1
  have lt1 : ∀ x ∈ p1, x.block < W.heap.size := by obtain ⟨m, hm⟩ := k1; exact DataW.trod_lt m _ _ _ hm
  obtain ⟨n1, rfl, rfl, rfl, x1⟩ := open_int Tryd.underlying3 (hval 1 3 v1 rfl rfl) h1
  refine (walk v0 L0 n1 W a0 l0 z0 (by have := bounds_i64 x1; omega) (lw_of hL hsh)).mono fun e W' ⟨he, bel⟩ => ?_
  subst he
  exact ⟨_, rfl, _, _, _, [], _, [], hW', trodAll_mk1 (shut_bool Tryd.underlying4 _), (trodAll_cons_mk (Below.trod laidOut (by kernel_rfl) (of_decide_eq_true (by kernel_rfl)) k0 bel lt0) (trodAll_cons_mk (Below.trod laidOut (by kernel_rfl) (of_decide_eq_true (by kernel_rfl)) k1 bel lt1) trodAll_mk0)), rfl, bel.frame _, fun h => by cases h⟩

theorem over : Rows.stampsOwnUptoRow.holds Tryd.pinned (Rows.OpenSpec.upto Rows.stampsOwnSpec) :=
  OpenClaim.holds_of_cond 10 Tryd.f10 rfl rfl rfl rfl rfl rfl rfl ⟨rfl, rfl, rfl, rfl, rfl⟩ rfl rfl rfl rfl rfl (by kernel_rfl) Tryd.func10 (by kernel_rfl)
    (of_decide_eq_true (by kernel_rfl)) (by unfold Func.isWrapper; first | (rw [if_pos (by decide +kernel)]; kernel_rfl) | (rw [if_neg (by decide +kernel)]; exact ⟨rfl, rfl⟩))
    (fun os started H enc _ F => by rw [OpenClaim.pre_eq_preRow]; exact lifted os started H enc F)

theorem proved : Rows.StampsOwnUptoCardSaid :=
  Claim7.holds_tied_plain_at .later [] [.data, .data, .data, .data, .sentinel, .sentinel, .pinned] true (true, "5f12fa10b805fcb0d992aeb5db102955f99dabd546fdc4991e02cd6d2c5be258") true over (fun _ h => by cases h) (by kernel_rfl) (fun _ h => by cases h) stampsOwnUpto_row_tie rfl ⟨rfl, rfl⟩ (by kernel_rfl) rfl
    (fun f fn hf hfn => by
      obtain rfl : f = 10 := Option.some.inj ((show Tryd.prog.funcNamed "sublet/subletlaw04.StampsOwn" = some 10 by kernel_rfl).symm.trans hf) |>.symm
      obtain rfl : fn = Tryd.f10 := (Option.some.inj (Tryd.func10.symm.trans hfn)).symm
      exact ⟨by kernel_rfl, fun j t ht => by
        rw [Tryd.params10] at ht
        have hm : t ∈ ([22, 3] : List TypeId) := by simpa using Array.mem_of_getElem? ht
        have hall : (([22, 3] : List TypeId).all fun u => !Tryd.prog.wantsStandIn u) = true := by kernel_rfl
        exact (show Tryd.prog.wantsStandIn t = false by simpa using List.all_eq_true.1 hall t hm)⟩)
    (by kernel_rfl)
#print axioms proved
end Go.Proofs.YtfbogdeodpkhcaaDoor.stampsOwn
