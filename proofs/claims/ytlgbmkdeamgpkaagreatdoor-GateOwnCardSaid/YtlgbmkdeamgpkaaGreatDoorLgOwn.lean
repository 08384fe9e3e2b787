/- Several texts of this claim in one. No condition beyond what each theorem states. -/
import Derived.Test.YtlgbmkdeamgpkaaGreatDoorG10
import Derived.Test.YtlgbmkdeamgpkaaGreatDoorG09
import Derived.Test.YtlgbmkdeamgpkaaGreatDoorTie
import Derived.Test.YtlgbmkdeamgpkaaGreatDoorCards
/- The walk of GateOwn. No condition beyond what each theorem states. -/
namespace Go.Proofs.YtlgbmkdeamgpkaaGreatDoor.gateOwn
open Go.ChangeShapes Go.WideShapes Go.ChangeAt Go.RowKit Go.PlainAid
open Go.ChangeMaps (open_string shut_string)
theorem gtb_tight {w : World} {P : Nat → Prop} {gb db : Nat} {n : Int} {g : Gat} (h : GtB w P gb db n g) (hne : g.high ≠ []) : GtB w (fun q => P q ∧ q < w.heap.size) gb db n g := by
  obtain ⟨hv, hb, hs, hp⟩ := h
  refine ⟨hv, hb, hs, fun q e => ⟨hp q e, ?_⟩⟩
  obtain ⟨A, c, e1, _, h3⟩ := hs
  obtain ⟨g', o, cs, e2, h4, _⟩ := h3 hne
  rw [e1, e2] at e
  have e : g' = q := by simpa [Value.ownBlock] using e
  rw [← e]; exact h4.lt
theorem ah_own1 : ∃ g d, handleG 8 {} dsk0 (opM [97] [4, 5]) = (g, d, 0) ∧ g.high = [4, 5] ∧ d.wr = 1 := ⟨_, _, Prod.ext rfl (Prod.ext rfl (by kernel_rfl)), by kernel_rfl, by kernel_rfl⟩
theorem ah_own2 {g : Gat} {d : Dsk} (h : handleG 8 {} dsk0 (opM [97] [4, 5]) = (g, d, 0)) : (handleG 8 g d (opM [97] [4, 4])).2.2 = 65 := by
  have key : (handleG 8 (handleG 8 {} dsk0 (opM [97] [4, 5])).1 (handleG 8 {} dsk0 (opM [97] [4, 5])).2.1 (opM [97] [4, 4])).2.2 = 65 := by kernel_rfl
  rw [h] at key
  exact key
set_option maxRecDepth 100000 in
set_option maxHeartbeats 16000000 in
theorem walk (m : Msg) (A : Option Addr) (c : Nat) (W : World) (ha : ArgInts W (.slice A m.stamp.length c) m.stamp) (_hr : Rng m) (_hs : Short maxLen m) (hl : m.stamp.length ≤ 17592186043904) : Calls Tryz.prog 5 #[.agg (mcells m (.slice A m.stamp.length c)).toArray] W fun e w' => e = .returned (.bool true) ∧ Below W.heap.size W w' := by
  obtain ⟨CM, hCM⟩ : ∃ C, C = mcells m (.slice A m.stamp.length c) := ⟨_, rfl⟩
  have HiM : Hid ((Tryz.prog.info? 38).map (·.size) = some CM.length) := Lib.hid (by rw [hCM]; kernel_rfl)
  have HCM := Lib.hid hCM
  have HM := Lib.hid (show Bk (W.alloc (.cells CM.toArray 38)) W.heap.size 38 CM from Bk.new' rfl rfl)
  have HK := Lib.hid ((Kp.refl No W).alloc (.cells CM.toArray 38))
  have HA := Lib.hid (ha.no HK.out)
  have HL := Lib.hid (show m.stamp.length ≤ 17592186044416 from by omega)
  rw [← hCM]
  clear hCM ha hl
  go_enter Tryz.func5, Tryz.ntmps5
  go_wp2_with fail
  refine (awake_any _).mono ?_
  rintro e w1 ⟨rfl, k1⟩
  have HM1 := Lib.hid (HM.out.no k1); have HK1 := Lib.hid (HK.out.trans k1); have HA1 := Lib.hid (HA.out.no k1)
  clear k1 HM HK HA
  have po := own_any m (.slice A m.stamp.length c) w1 HA1.out HL.out
  rw [← HCM.out] at po
  have hra : w1.rangeAt W.heap.size 0 CM := range_all HM1.out
  go_wp2_with (refine wpList_load_mid rfl 38 _ rfl W.heap.size 0 rfl CM _ hra Tryz.underlying38 rfl HiM.out ?_)
  clear hra
  refine po.mono ?_
  rintro e w2 ⟨sv, rfl, o2, k2⟩
  obtain ⟨A2, c2, rfl, _⟩ := own_len o2
  have HK2 := Lib.hid (HK1.out.trans k2)
  clear po k2 o2 HM1 HK1 HA1
  go_wp2_with fail
  refine (handle_nil m A2 c2 w2).mono ?_
  rintro e w3 ⟨rfl, k3⟩
  have HK3 := Lib.hid (HK2.out.trans k3)
  clear k3 HK2
  go_wp2_with fail
  refine (high_nil w3).mono ?_
  rintro e w' ⟨rfl, rfl⟩
  go_wp2_with fail
  refine (count_nil w3).mono ?_
  rintro e w' ⟨rfl, rfl⟩
  go_wp2_with fail
  refine (begin_any w3).mono ?_
  rintro e w4 ⟨gb, db, sb, rfl, h0, g0, k4⟩
  have HS0 := Lib.hid h0; have HG0 := Lib.hid g0; have HK4 := Lib.hid (HK3.out.trans k4)
  have HB := Lib.hid (show W.heap.size ≤ w3.heap.size from HK3.out.size)
  have HS0S := Lib.hid h0.lt
  clear h0 g0 k4 HK3
  -- full, in block w4.heap.size
  have HF := Lib.hid (show Bk (w4.alloc (.cells #[.int .i64 4, .int .i64 5, .int .i64 (-91)] 3)) w4.heap.size 3 (ints [4, 5, -91]) from Bk.new' rfl rfl)
  have HSF := Lib.hid (show SlI (w4.alloc (.cells #[.int .i64 4, .int .i64 5, .int .i64 (-91)] 3)) (.slice (some ⟨w4.heap.size, 0, none⟩) 2 3) [4, 5] from (SlI.take (slI_new w4 [4, 5, -91]) 2 (by simp)))
  have HKF := Lib.hid ((Kp.refl No w4).alloc (.cells #[.int .i64 4, .int .i64 5, .int .i64 (-91)] 3))
  have hsl := slice_toI w4.heap.size 3 2 3 (by omega) (by omega)
  obtain ⟨fb, hfb⟩ : ∃ fb, fb = w4.heap.size := ⟨_, rfl⟩
  have HFB := Lib.hid hfb
  go_wp2_with fail
  clear hsl
  have po := op_any [97] [4, 5] (some ⟨w4.heap.size, 0, none⟩) 3 (w4.alloc (.cells #[.int .i64 4, .int .i64 5, .int .i64 (-91)] 3))
  refine po.mono ?_
  rintro e w5 ⟨rfl, k5⟩
  rw [← HFB.out] at HF HSF ⊢
  have HF5 := Lib.hid (HF.out.no k5); have HSF5 := Lib.hid (HSF.out.no k5); have HKF5 := Lib.hid (HKF.out.trans k5)
  have HK5 := Lib.hid (HK4.out.trans HKF5.out); have HS5 := Lib.hid (HS0.out.no HKF5.out); have HG5 := Lib.hid (HG0.out.no HKF5.out)
  have HL5 := Lib.hid (show w4.heap.size < w5.heap.size from by have := HF5.out.lt; rw [HFB.out] at this; exact this)
  clear po k5 HF HSF HKF HKF5 HK4 HS0 HG0 hfb
  obtain ⟨g1, d1, hh1, hh2, hh3⟩ := ah_own1
  have HH1 := Lib.hid hh1; have HH2 := Lib.hid hh2; have HH3 := Lib.hid hh3
  clear hh1 hh2 hh3
  have ph := handle_any gb db sb 2 8 {} dsk0 (fun q => w3.heap.size ≤ q ∧ q < w4.heap.size) (opM [97] [4, 5]) (some ⟨fb, 0, none⟩) 3 w5 HG5.out HS5.out.dk HSF5.out (opM_rng (by simp)) ⟨by simp [opM, maxLen], by simp [opM, maxLen]⟩ (by show 0 ≤ 4; omega) HS5.out.inv.two (by show (0 : Int) < _; omega)
  unfold HandR at ph
  rw [HH1.out] at ph
  go_wp2_with fail
  refine ph.mono ?_
  rintro e w6 ⟨rfl, hg6, hd6, k6⟩
  have HI := Lib.hid (show GInv g1 d1 from by
    have := HS5.out.inv.handle (n := 8) (m := opM [97] [4, 5]) fun h1 h2 => may_op h1 h2
    rw [HH1.out] at this; exact this)
  have HG6 := Lib.hid (hg6.mono (Q := fun q => w3.heap.size ≤ q ∧ q ≠ fb) fun q hq => by
    have h1 := HFB.out; have h2 := HL5.out; have h3 := HS5.out.b1; have h4 := HS0S.out
    rcases hq with hq | hq
    · exact ⟨hq.1, by omega⟩
    · exact ⟨by omega, by omega⟩)
  have HF6 := Lib.hid (show Bk w6 fb 3 (ints [4, 5, -91]) from HF5.out.kp k6 (by
    obtain ⟨gcs, hgb⟩ := HG5.out.bk
    obtain ⟨sp, hse⟩ := HS5.out.dk.1.se
    rintro (e | e | e)
    · exact HF5.out.ne_ hgb (by decide) e
    · exact HF5.out.ne_ HS5.out.dk.1.st (by decide) e
    · exact HF5.out.ne_ hse (by decide) e))
  have HD6 := Lib.hid hd6; have HK6 := Lib.hid (GM.old HS5.out HB.out HK5.out k6)
  have HB1 := Lib.hid HS5.out.b1; have HB2 := Lib.hid HS5.out.b2; have HB3 := Lib.hid HS5.out.b3
  have z0 : w6.cell? ⟨fb, 0, none⟩ = some (.int .i64 4) := HF6.out.cell 0
  have z2 : w6.cell? ⟨fb, 2, none⟩ = some (.int .i64 (-91)) := HF6.out.cell 2
  have f0 := HF6.out.frozen 0
  have hfbB : W.heap.size ≤ fb := by have h1 := HFB.out; have h2 := HS0S.out; have h3 := HB.out; omega
  have HFBB := Lib.hid hfbB
  clear ph hg6 hd6 k6 HF5 HG5 HS5 HK5 HSF5 hfbB
  go_wp2_with fail
  clear z0 z2 f0
  have k7 : Kp (One fb) w6 (w6.setCell ⟨fb, 0, none⟩ (.int .i64 40)) := (Kp.refl _ _).set (.inl (One.self _)) _ _
  generalize w6.setCell ⟨fb, 0, none⟩ (.int .i64 40) = w7 at *
  have HG7 := Lib.hid (HG6.out.kp k7 (fun e => by obtain ⟨gcs, hgb⟩ := HG6.out.bk; exact HF6.out.ne_ hgb (by decide) (Eq.symm e)) fun q cs _ hp e => hp.2 e)
  have HD7 := Lib.hid (HD6.out.kp k7 (fun e => HF6.out.ne_ HD6.out.1.st (by decide) (Eq.symm e)) (fun e => by obtain ⟨sp, hse⟩ := HD6.out.1.se; exact HF6.out.ne_ hse (by decide) (Eq.symm e)))
  have HK7 := Lib.hid (HK6.out.then_ k7 fun i hi e => by have e : i = fb := e; have := HFBB.out; omega)
  have HSW := Lib.hid HK7.out.size
  have HG7t := Lib.hid (gtb_tight HG7.out (by rw [HH2.out]; simp))
  have ph := high_any gb db 8 g1 _ w7 HG7.out (by rw [HH2.out]; simp)
  rw [HH2.out] at ph
  clear k7 HG6 HD6 HK6 HF6 HG7
  refine ph.mono ?_
  rintro e w8 ⟨sx, rfl, o8, k8⟩
  obtain ⟨xg, xc, rfl, _, hx1, hx2⟩ := own_form o8 (by simp)
  have HX1 := Lib.hid hx1; have HX2 := Lib.hid hx2
  have HO8 := Lib.hid (show w8.ownsRow w7.heap.size 3 1 (.slice (some ⟨xg, 0, none⟩) 2 xc) 2 (ints [4, 5]) from o8)
  have HG8 := Lib.hid (HG7t.out.no k8); have HD8 := Lib.hid (HD7.out.no k8); have HK8 := Lib.hid (HK7.out.trans k8)
  have HS78 := Lib.hid k8.size
  have ph := high_any gb db 8 g1 _ w8 HG8.out (by rw [HH2.out]; simp)
  rw [HH2.out] at ph
  clear k8 HG7t HD7 HK7 o8 hx1 hx2
  go_wp2_with fail
  refine ph.mono ?_
  rintro e w9 ⟨sy, rfl, o9, k9⟩
  obtain ⟨yg, yc, rfl, _, hy1, hy2⟩ := own_form o9 (by simp)
  have HY1 := Lib.hid hy1
  have HO9 := Lib.hid (show w9.ownsRow w8.heap.size 3 1 (.slice (some ⟨yg, 0, none⟩) 2 yc) 2 (ints [4, 5]) from o9)
  have HG9 := Lib.hid (HG8.out.no k9); have HD9 := Lib.hid (HD8.out.no k9); have HK9 := Lib.hid (HK8.out.trans k9)
  have HX9 := Lib.hid (own_kp HO8.out k9 fun _ _ m => m)
  have HS89 := Lib.hid k9.size
  clear k9 HG8 HD8 HK8 o9 hy1 hy2 HO8 ph
  obtain ⟨cs, hb9, _, ht9⟩ := own_bkG HX9.out
  have z0 : w9.cell? ⟨xg, 0, none⟩ = some (.int .i64 4) := (hb9.cell 0).trans (by rw [← List.getElem?_take_of_lt (show 0 < 2 by omega), ht9]; rfl)
  have f0 := hb9.frozen 0
  have HB9 := Lib.hid hb9
  clear hb9 ht9
  go_upto_region 16 with (fail)
  clear z0 f0
  have HXS := Lib.hid (own_setI (L := [4, 5]) (j := 0) HX9.out 81)
  have k10 : Kp (One xg) w9 (w9.setCell ⟨xg, 0, none⟩ (.int .i64 81)) := (Kp.refl _ _).set (.inl (One.self _)) _ _
  generalize w9.setCell ⟨xg, 0, none⟩ (.int .i64 81) = w10 at *
  have HXY := Lib.hid (show yg ≠ xg from by have h1 := HX2.out; have h2 := HY1.out; omega)
  have HY10 := Lib.hid (own_kp HO9.out k10 fun g e m => by
    have e : yg = g := by simpa [Value.ownBlock] using e
    have m : g = xg := m
    exact HXY.out (e.trans m))
  have HGX := Lib.hid (show ∀ w', Kp (One xg) w9 w' → GtB w' (fun q => w3.heap.size ≤ q) gb db 8 g1 ∧ DkB w' db sb 2 d1 from fun w' kk => by
    refine ⟨(HG9.out.kp kk (fun e => by obtain ⟨gcs, hgb⟩ := HG9.out.bk; exact HB9.out.ne_ hgb (by decide) (Eq.symm e)) fun q cs _ hp e => ?_).mono fun q hq => hq.1.1, HD9.out.kp kk (fun e => HB9.out.ne_ HD9.out.1.st (by decide) (Eq.symm e)) (fun e => by obtain ⟨sp, hse⟩ := HD9.out.1.se; exact HB9.out.ne_ hse (by decide) (Eq.symm e))⟩
    have e : q = xg := e
    have h1 := hp.2; have h2 := HX1.out; omega)
  have HK10 := Lib.hid k10
  have HSZ := Lib.hid (show w7.heap.size ≤ w10.heap.size from by have := HS78.out; have := HS89.out; have := HK10.out.size; omega)
  clear k10 HO9 HX9
  go_loopw [9, 7] (fun i v wr => ∃ (k : Nat) (xs : List Int), k ≤ 9 ∧ i = .int .i64 k ∧ wr.ownsRow w7.heap.size 3 1 v (2 + k) (ints xs) ∧ Kp (One xg) w10 wr ∧ ∀ q, v.ownBlock = some q → q = xg ∨ w10.heap.size ≤ q) (fun i _ _ => 9 - (intOf i).toNat)
  case atStart => exact ⟨0, _, by omega, rfl, HXS.out, Kp.refl _ _, fun q e => .inl (by have e : xg = q := by simpa [Value.ownBlock] using e
                                                                                        exact e.symm)⟩
  case round =>
    obtain ⟨k, xs, hk, rfl, ho, hkp, hq⟩ := hrel
    clear HXS
    have HKR := Lib.hid hkp; have HQ := Lib.hid hq
    obtain ⟨A9, c9, rfl, _⟩ := own_len ho
    by_cases hlt : k < 9
    · have hk1 : (k : Int) < 9 := by omega
      have HOA := Lib.hid (own_kp ho ((Kp.refl No wr).alloc (.cells #[.int .i64 (-7)] 3)) fun _ _ m => m)
      have hsz : w7.heap.size ≤ (wr.alloc (.cells #[.int .i64 (-7)] 3)).heap.size := Nat.le_trans HSZ.out (hkp.alloc (.cells #[.int .i64 (-7)] 3)).size
      have HOW := Lib.hid ho
      clear ho hkp hq
      go_wp2_with (at_builtin; refine (wpList_appV _ rfl _ _ 31 rfl w7.heap.size 3 _ 8 Tryz.underlying31 Tryz.infoI rfl _ (2 + k) (ints xs) rfl HOA.out (some ⟨wr.heap.size, 0, none⟩) 1 1 [.int .i64 (-7)] rfl rfl (cs_new rfl rfl) (by simp [Value.oneCell']) (by omega) (by omega) hsz ?_); intro v9 wn on kn nn; have HON := Lib.hid on; have HKN := Lib.hid kn; have HNN := Lib.hid nn; clear on kn nn)
      go_roundw
      case rel =>
        refine ⟨k + 1, xs ++ [-7], by omega, by go_num, ?_, ?_, ?_⟩
        · have e : ints xs ++ [.int .i64 (-7)] = ints (xs ++ [-7]) := by simp [ints]
          rw [← e]
          exact HON.out
        · refine (HKR.out.alloc _).then_ HKN.out fun i hi e => ?_
          rcases HQ.out i e with h | h
          · exact h
          · omega
        · intro q e
          rcases HNN.out q e with h | h
          · exact HQ.out q h
          · right
            rw [h]
            exact (HKR.out.alloc _).size
      case measure => simp [intOf]; omega
    · have hk1 : ¬ (k : Int) < 9 := by omega
      have HYR := Lib.hid (own_kp HY10.out hkp fun g e m => by
        have e : yg = g := by simpa [Value.ownBlock] using e
        have m : g = xg := m
        exact HXY.out (e.trans m))
      obtain ⟨hg, hd⟩ := HGX.out wr (HK10.out.trans hkp)
      have HSR := Lib.hid (show GS wr w3.heap.size gb db sb 2 8 g1 d1 from ⟨hg, hd, HI.out, HB1.out, HB2.out, HB3.out⟩)
      have HKW := Lib.hid (show Kp No W wr from HK9.out.then_ (HK10.out.trans hkp) fun i hi e => by
        have e : i = xg := e
        have h1 := HX1.out; have h2 := HS78.out; have h3 := HSW.out; omega)
      clear ho hkp hq hg hd HGX HY10 HK9 HK10 HQ HKR HG9 HD9 HB9
      have HL1 := Lib.hid (slI_new wr [4, 5]).arg
      have HSA := Lib.hid (HSR.out.no ((Kp.refl _ _).alloc (.cells (ints [4, 5]).toArray 3)))
      have HYA := Lib.hid (own_argI (L := [4, 5]) (own_kp HYR.out ((Kp.refl No wr).alloc (.cells (ints [4, 5]).toArray 3)) fun _ _ m => m))
      have pe := sameInts_any (.slice (some ⟨yg, 0, none⟩) 2 yc) (.slice (some ⟨wr.heap.size, 0, none⟩) 2 2) [4, 5] [4, 5] (wr.alloc (.cells #[.int .i64 4, .int .i64 5] 3)) HYA.out HL1.out (by simp [maxLen]) (by simp [maxLen])
      rw [decide_eq_true rfl] at pe
      go_wp2_with fail
      refine pe.mono ?_
      rintro e u1 ⟨rfl, k1⟩
      have HS1 := Lib.hid (HSA.out.no k1); have HK1 := Lib.hid ((HKW.out.alloc (.cells #[.int .i64 4, .int .i64 5] 3)).trans k1)
      clear pe k1 HSA HYA HL1 HYR HKW HSR
      have ph := high_any gb db 8 g1 _ u1 HS1.out.gt (by rw [HH2.out]; simp)
      rw [HH2.out] at ph
      go_wp2_with fail
      refine ph.mono ?_
      rintro e u2 ⟨su, rfl, ou, k2⟩
      obtain ⟨Au, cu, rfl, _⟩ := own_len ou
      have HS2 := Lib.hid (HS1.out.no k2); have HK2 := Lib.hid (HK1.out.trans k2)
      have HL2 := Lib.hid (slI_new u2 [4, 5]).arg
      have HSB := Lib.hid (HS2.out.no ((Kp.refl _ _).alloc (.cells (ints [4, 5]).toArray 3)))
      have HUA := Lib.hid (own_argI (own_kp ou ((Kp.refl No u2).alloc (.cells (ints [4, 5]).toArray 3)) fun _ _ m => m))
      have pe := sameInts_any (.slice Au [(4 : Int), 5].length cu) (.slice (some ⟨u2.heap.size, 0, none⟩) 2 2) [4, 5] [4, 5] (u2.alloc (.cells #[.int .i64 4, .int .i64 5] 3)) HUA.out HL2.out (by simp [maxLen]) (by simp [maxLen])
      rw [decide_eq_true rfl] at pe
      clear ph ou k2 HS1 HK1
      go_wp2_with fail
      refine pe.mono ?_
      rintro e u3 ⟨rfl, k3⟩
      have HS3 := Lib.hid (HSB.out.no k3); have HK3 := Lib.hid ((HK2.out.alloc (.cells #[.int .i64 4, .int .i64 5] 3)).trans k3)
      clear pe k3 HSB HUA HL2 HS2 HK2
      have HN := Lib.hid (slI_new u3 [4, 4])
      have HSC := Lib.hid (HS3.out.no ((Kp.refl _ _).alloc (.cells (ints [4, 4]).toArray 3)))
      go_wp2_with fail
      refine (op_any [97] [4, 4] (some ⟨u3.heap.size, 0, none⟩) 2 _).mono ?_
      rintro e u4 ⟨rfl, k4⟩
      have HS4 := Lib.hid (HSC.out.no k4); have HK4 := Lib.hid ((HK3.out.alloc (.cells #[.int .i64 4, .int .i64 4] 3)).trans k4)
      have ph := handle_gs w3.heap.size gb db sb 2 8 g1 d1 (opM [97] [4, 4]) (some ⟨u3.heap.size, 0, none⟩) 2 u4 HS4.out (HN.out.no k4) (opM_rng (by simp)) ⟨by simp [opM, maxLen], by simp [opM, maxLen]⟩ (by rw [HH3.out]; omega)
      unfold HandS at ph
      rw [ah_own2 HH1.out] at ph
      clear k4 HSC HN HS3 HK3
      go_wp2_with fail
      refine ph.mono ?_
      rintro e u5 ⟨rfl, g5, k5⟩
      have HK5 := Lib.hid (GM.old HS4.out HB.out HK4.out k5)
      clear ph g5 k5 HS4 HK4
      go_wp2
      go_ret
      exact ⟨rfl, HK5.out.below (Nat.le_refl _) fun _ _ m => m⟩

end Go.Proofs.YtlgbmkdeamgpkaaGreatDoor.gateOwn

/- GateOwn returns true for every message: what is handed in stays and is not kept, what is answered shares no memory, a nil gate refuses. No condition. -/
namespace Go.Proofs.YtlgbmkdeamgpkaaGreatDoor.gateOwn
open Go.ChangeShapes Go.WideShapes Go.ChangeAt Go.RowKit Go.PlainAid
open Go.ChangeMaps (open_string shut_string)

theorem own : ownKnob Tryz.prog.godebug = none := by kernel_rfl
theorem laidOut : laidOutB Tryz.prog = true := by kernel_rfl

set_option maxRecDepth 100000 in
theorem lifted (os : Os) (started : os.Started) (H : Type) (enc : TypeId × Value → H) :
    ReturnsInHanded {} Tryz.checked os 5 .any (fun w args => (Rows.gateOwnSpec.pre enc Tryz.prog Tryz.f5 Rows.gateOwnRow.domain false w args ∧ laidMetH Tryz.prog [("unicode/utf8.acceptRanges", Rows.laid_unicode_utf8_acceptRanges), ("unicode/utf8.first", Rows.laid_unicode_utf8_first)] w) ∧ sizedMet enc Tryz.prog Tryz.f5 (OpenSpec.ofChange Rows.gateOwnSpec) false w args)
      (Rows.gateOwnSpec.post enc Tryz.prog Tryz.f5 false true false false) := by
  refine returnsInHanded_and_shaped (C := Tryz.checked) (X := (fun w _ => laidMetH Tryz.prog [("unicode/utf8.acceptRanges", Rows.laid_unicode_utf8_acceptRanges), ("unicode/utf8.first", Rows.laid_unicode_utf8_first)] w)) (fun _ _ _ hh h => h.of_heap hh) own started (by kernel_rfl) Tryz.func5
    (ChangeSpec.witness_shaped (enc := enc) (C := Tryz.checked) (os := os) (X := (fun w _ => laidMetH Tryz.prog [("unicode/utf8.acceptRanges", Rows.laid_unicode_utf8_acceptRanges), ("unicode/utf8.first", Rows.laid_unicode_utf8_first)] w)) false (World.laidAll Tryz.prog os [("unicode/utf8.acceptRanges", Rows.laid_unicode_utf8_acceptRanges), ("unicode/utf8.first", Rows.laid_unicode_utf8_first)]) #[(.agg #[.int .i64 0, .int .i64 0, .int .i64 0, .int .i64 0, .int .i64 0, .int .i64 0, .int .i64 0, .string ⟨#[]⟩, .int .i64 0, .int .i64 0, .int .i64 0, .bool false, .int .i64 0, .slice none 0 0, .int .i64 0, .int .i64 0])] 8 (World.laidAll_os _ _ _)
      (World.shaped_of_ZipB (by kernel_rfl) (by kernel_rfl)) (by kernel_rfl) (by kernel_rfl) (by kernel_rfl)
      (by rw [MakeChecks.laidMetH_plain _ _ _ (by kernel_rfl)]; exact laidMet_laidAll _ (by kernel_rfl) (by kernel_rfl))) ?_
  intro W base args ds gs before hval0 hW hcnd hsz0 hL hsh _
  have hval : ∀ (j : Nat) t v, Tryz.f5.params[j]? = some t → args[j]? = some v → Value.okWide Tryz.prog W .any base t v := hval0
  have hW' := hW
  obtain ⟨p, q, hA0, hV, rfl, hfz, hnd⟩ := hW
  have hA : DataW.TrodAll enc Tryz.prog W 0 (fun _ => true) true Tryz.f5.params.toList args.toList ds p := hA0
  rw [Tryz.params5] at hA hval
  obtain ⟨v0, vs0, d0, ds0, p0, q0, hargs, rfl, rfl, h0, r0⟩ := trodAll_cons hA
  obtain ⟨rfl, rfl, rfl⟩ := trodAll_nil r0
  obtain rfl : args = #[v0] := by cases args; simp_all
  obtain ⟨rfl, rfl⟩ := trodVars_none hV
  have hsz : ∀ (j : Nat) (t : TypeId) (d : DataW H), ([38] : List TypeId)[j]? = some t → [d0][j]? = some d → ∀ n ∈ d.weights Tryz.prog t, n ≤ reachBytes := by
    intro j t d ht hd n hn
    have hsz1 : (DataW.weightsEach Tryz.prog ([38] : List TypeId) [d0]).all (· ≤ reachBytes) = true := hsz0
    have := List.all_eq_true.1 hsz1 n (DataW.weights_mem_each ht hd n hn)
    simpa using this
  have k0 := h0
  have lt0 : ∀ x ∈ p0, x.block < W.heap.size := by obtain ⟨m, hm⟩ := k0; exact DataW.trod_lt m _ _ _ hm
  obtain ⟨m0, A0, c0, rfl, a0, r0, s0, z0, y0⟩ := open_msg2 (hval 0 38 v0 rfl rfl) h0 (hsz 0 38 d0 rfl rfl)
  refine (walk m0 A0 c0 W a0 r0 s0 z0).mono fun e W' ⟨he, bel⟩ => ?_
  subst he
  exact ⟨_, rfl, _, _, _, [], _, [], hW', trodAll_mk1 (shut_bool Tryz.underlying4 _), (trodAll_cons_mk (Below.trod laidOut (by kernel_rfl) (of_decide_eq_true (by kernel_rfl)) k0 bel lt0) trodAll_mk0), rfl, bel.frame _, fun h => by cases h⟩

theorem over : Rows.gateOwnRow.holds Tryz.pinned (OpenSpec.ofChange Rows.gateOwnSpec) :=
  OpenClaim.holds_of_wide 5 Tryz.f5 rfl rfl rfl rfl rfl rfl rfl ⟨rfl, rfl, rfl, rfl, rfl⟩ rfl rfl rfl rfl rfl (by kernel_rfl) Tryz.func5 (by kernel_rfl)
    (of_decide_eq_true (by kernel_rfl)) (by unfold Func.isWrapper; first | (rw [if_pos (by decide +kernel)]; kernel_rfl) | (rw [if_neg (by decide +kernel)]; exact ⟨rfl, rfl⟩))
    (fun os started H enc _ => lifted os started H enc)

theorem proved : Rows.GateOwnCardSaid :=
  Claim7.holds_tied_plain_at .later [] [.data, .pinned] true (true, "36de4b0e266865fa76cef0376ca197fae2bbf455f528766fd1e4f577ed6d676b") false over (fun _ h => by cases h) (by kernel_rfl) (fun _ h => by cases h) gateOwn_row_tie rfl ⟨rfl, rfl⟩ (by kernel_rfl) rfl
    (fun f fn hf hfn => by
      obtain rfl : f = 5 := Option.some.inj ((show Tryz.prog.funcNamed "sublet/subletlaw19.GateOwn" = some 5 by kernel_rfl).symm.trans hf) |>.symm
      obtain rfl : fn = Tryz.f5 := (Option.some.inj (Tryz.func5.symm.trans hfn)).symm
      exact ⟨by kernel_rfl, fun j t ht => by
        rw [Tryz.params5] at ht
        have hm : t ∈ ([38] : List TypeId) := by simpa using Array.mem_of_getElem? ht
        have hall : (([38] : List TypeId).all fun u => !Tryz.prog.wantsStandIn u) = true := by kernel_rfl
        exact (show Tryz.prog.wantsStandIn t = false by simpa using List.all_eq_true.1 hall t hm)⟩)
    (by kernel_rfl)
#print axioms proved
end Go.Proofs.YtlgbmkdeamgpkaaGreatDoor.gateOwn
