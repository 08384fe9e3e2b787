/- Several texts of this claim in one. No condition beyond what each theorem states. -/
import Derived.Test.YtlgbmkdeamgpkaaGreatDoorG10
import Derived.Test.YtlgbmkdeamgpkaaGreatDoorG04
import Derived.Test.YtlgbmkdeamgpkaaGreatDoorTie
import Derived.Test.YtlgbmkdeamgpkaaGreatDoorCards
/- The walk of GateRises. No condition beyond what each theorem states. -/
namespace Go.Proofs.YtlgbmkdeamgpkaaGreatDoor.gateRises
open Go.ChangeShapes Go.WideShapes Go.ChangeAt Go.RowKit Go.PlainAid
open Go.ChangeMaps (open_string shut_string)
def RisesI (W : World) (B db sb k : Nat) (w : World) (gv lv : Value) : Prop := ∃ gb g d last, gv = .pointer (some ⟨gb, 0, none⟩) ∧ (∃ A c, lv = .slice A last.length c) ∧ GS w B gb db sb 2 8 g d ∧ w.ownsRow B 3 1 lv last.length (ints last) ∧ (g.dead = true → d.off = true) ∧ 0 ≤ cmpS g.high last ∧ last.length ≤ 17592186043904 ∧ d.wr ≤ (k : Int) ∧ Kp No W w
theorem RisesI.kp {W w : World} {B db sb k : Nat} {gv lv : Value} (h : RisesI W B db sb k w gv lv) : Kp No W w := by
  obtain ⟨_, _, _, _, _, _, _, _, _, _, _, _, h⟩ := h; exact h
theorem RisesI.no {W w w' : World} {B db sb k : Nat} {gv lv : Value} (h : RisesI W B db sb k w gv lv) (hk : Kp No w w') : RisesI W B db sb k w' gv lv := by
  obtain ⟨gb, g, d, last, h1, h2, h3, h4, h5, h6, h7, h8, h9⟩ := h; exact ⟨gb, g, d, last, h1, h2, h3.no hk, own_kp h4 hk fun _ _ m => m, h5, h6, h7, h8, h9.trans hk⟩
set_option maxRecDepth 100000 in
set_option maxHeartbeats 16000000 in
theorem walk (v : Value) (l : List Opx) (W : World) (hl : ArgOps W v l) (hln : l.length ≤ 17592186043904) :
    Calls Tryz.prog 6 #[v] W fun e w' => e = .returned (.bool true) ∧ Below W.heap.size W w' := by
  obtain ⟨A, c, rfl, hc, hat⟩ := hl
  have HAT := Lib.hid hat; have HLN := Lib.hid hln
  clear hat hln
  go_enter Tryz.func6, Tryz.ntmps6
  go_wp2_with fail
  refine (awake_any _).mono ?_
  rintro e wa ⟨rfl, ka⟩
  go_wp2_with fail
  refine (begin_any _).mono ?_
  rintro e w0 ⟨gb, db, sb, rfl, h0, _, k0⟩
  have HBW := Lib.hid ka.size
  have HI := Lib.hid (show RisesI W wa.heap.size db sb 0 w0 (.pointer (some ⟨gb, 0, none⟩)) (.slice none 0 0) from ⟨gb, {}, dsk0, [], rfl, ⟨_, _, rfl⟩, h0, nil_own _ _ _ _, (fun e => by cases e), Int.le_refl _, Nat.zero_le _, Int.le_refl _, ka.trans k0⟩)
  clear ka k0 h0
  generalize wa.heap.size = B at *
  go_wp2
  go_loopw [20, 4, 5] (fun i gv lv wr => ∃ k : Nat, k ≤ l.length ∧ i = .int .i64 k ∧ RisesI W B db sb k wr gv lv) (fun i _ _ _ => l.length - (intOf i).toNat)
  case atStart => exact ⟨0, Nat.zero_le _, rfl, HI.out⟩
  case round =>
  obtain ⟨k, hk, rfl, hpl⟩ := hrel
  have HPI := Lib.hid hpl
  have hlnk := HLN.out
  clear hpl HI
  by_cases hlt : k < l.length
  rotate_left
  · have hk1 : ¬ (k : Int) < (l.length : Int) := by omega
    go_wp2
    go_ret
    exact ⟨rfl, HPI.out.kp.below (Nat.le_refl _) fun _ _ m => m⟩
  obtain ⟨g, o, rfl, hrow⟩ := HAT.out (fun e => by rw [e] at hlt; simp at hlt)
  obtain ⟨hok, hrg⟩ := hrow k hlt
  obtain ⟨x, hx⟩ : ∃ x, x = l[k] := ⟨_, rfl⟩
  rw [← hx] at hok hrg
  clear hx hrow
  obtain ⟨CX, hCX⟩ : ∃ C, C = opC x := ⟨_, rfl⟩
  have HRX := Lib.hid (show wr.rangeAt g (o + k * 18) CX from by rw [hCX]; exact range_kp hrg HPI.out.kp (fun m => m))
  have HCX := Lib.hid hCX
  have HCL := Lib.hid (show CX.length = 18 from by rw [hCX]; rfl)
  have HiX : Hid ((Tryz.prog.info? 40).map (·.size) = some CX.length) := Lib.hid (by rw [HCL.out]; kernel_rfl)
  have HiXA : Hid ((Tryz.prog.info? 40).map (·.size) = some CX.toArray.size) := Lib.hid (by rw [List.size_toArray, HCL.out]; kernel_rfl)
  have HX1 := Lib.hid (show CX.toArray.all (·.oneCell') = true from by rw [hCX]; exact op_one x)
  have HUO := Lib.hid (Tryz.underlying40); have HUH := Lib.hid (Tryz.underlying38)
  have HOK := Lib.hid hok
  have hk0 : (0 : Int) ≤ (k : Int) := by omega
  have hk1 : (k : Int) < (l.length : Int) := by omega
  clear hrg hCX hok
  obtain ⟨wo, hwo⟩ : ∃ wo : World, wo = wr := ⟨_, rfl⟩
  subst hwo
  have HTH := Lib.hid (op_there wo CX.toArray.size (by rw [List.size_toArray, HCL.out]))

  obtain ⟨gb, gg, d, last, rfl, ⟨Al, cl, rfl⟩, hg, ho, hdd, hcm, hll, hwr, hkp⟩ := HPI.out
  have HG := Lib.hid hg; have HO := Lib.hid ho; have HDD := Lib.hid hdd; have HCM := Lib.hid hcm; have HLL := Lib.hid hll; have HWR := Lib.hid hwr; have HKP := Lib.hid hkp
  clear hg ho hdd hcm hll hwr hkp HPI
  go_upto_region 7 with (fail)
  go_cut [7] (fun p wx => p = .pointer (some ⟨wo.heap.size, 0, none⟩) ∧ Bk wx wo.heap.size 40 CX ∧ Kp No wo wx)
  case first =>
    have g6 := Lib.hid (op_store wo CX HCL.out)
    go_wp2_with (first
      | (with_reducible refine wpList_load_mid rfl _ _ rfl g (o + k * 18) rfl CX _ HRX.out HUO.out rfl HiX.out ?_)
      | (with_reducible refine wpList_store_mid rfl _ _ _ rfl wo.heap.size 0 CX.toArray rfl rfl HTH.out HiXA.out HX1.out ?_))
    go_meet
    exact ⟨rfl, g6.out.1, g6.out.2⟩
  case rest =>
  obtain ⟨rfl, hbx, kx⟩ := hcut
  have HBO := Lib.hid (show Bk wc wo.heap.size 40 (opC x) from by rw [← HCX.out]; exact hbx)
  have HGC := Lib.hid (HG.out.no kx); have HOC0 := Lib.hid (own_kp HO.out kx fun _ _ m => m); have HKW := Lib.hid (HKP.out.trans kx)
  clear hbx kx HG HO HKP HRX HTH
  generalize wo.heap.size = bx at *
  have z0 : wc.cell? ⟨bx, 0, none⟩ = some (.int .i64 x.kind) := HBO.out.cell 0
  by_cases h1 : x.kind = 1
  · have d1 : (x.kind == 1) = true := beq_iff_eq.2 h1
    have z1 : wc.cell? ⟨bx, 1, none⟩ = some (.int .i64 x.k) := HBO.out.cell 1
    have pa := arm_gs B gb db sb 2 8 gg d x.k wc HGC.out (HOK.out.2.2)
    clear h1
    go_wp2_with fail
    refine pa.mono ?_
    rintro e w1 ⟨rfl, g1, k1⟩
    have HN := Lib.hid (show RisesI W B db sb (k + 1) w1 (.pointer (some ⟨gb, 0, none⟩)) (.slice Al last.length cl) from ⟨gb, gg, _, last, rfl, ⟨_, _, rfl⟩, g1, own_kp HOC0.out k1 fun q e => GS.apart HGC.out HOC0.out e, HDD.out, HCM.out, HLL.out, by have := HWR.out; show d.wr ≤ _; omega, GM.old HGC.out HBW.out HKW.out k1⟩)
    clear pa g1 k1 z0 z1 d1
    go_wp2
    go_roundw
    case rel => exact ⟨k + 1, by omega, by go_num, HN.out⟩
    case measure => simp [intOf]; omega
  have d1 : (x.kind == 1) = false := by rw [beq_eq_false_iff_ne]; exact h1
  by_cases h2 : x.kind = 2
  · have d2 : (x.kind == 2) = true := beq_iff_eq.2 h2
    have pa := on_gs B gb db sb 2 8 gg d wc HGC.out
    clear h1 h2
    go_wp2_with fail
    refine pa.mono ?_
    rintro e w1 ⟨rfl, g1, k1⟩
    have HG1 := Lib.hid g1; have HO1 := Lib.hid (own_kp HOC0.out k1 fun q e => GS.apart HGC.out HOC0.out e); have HK1 := Lib.hid (GM.old HGC.out HBW.out HKW.out k1)
    clear pa g1 k1 z0 HGC HOC0 HKW
    have ps := start_gs B gb db sb 2 8 gg { d with off := false } w1 HG1.out (by omega) (by omega) rfl
    go_wp2_with fail
    refine ps.mono ?_
    rintro e w2 ⟨gb2, rfl, _, g2, k2⟩
    have HN := Lib.hid (show RisesI W B db sb (k + 1) w2 (.pointer (some ⟨gb2, 0, none⟩)) (.slice Al last.length cl) from ⟨gb2, _, _, last, rfl, ⟨_, _, rfl⟩, g2, own_kp HO1.out k2 fun _ _ m => m, (fun e => by cases e), HCM.out, HLL.out, by have := HWR.out; show d.wr ≤ _; omega, HK1.out.trans k2⟩)
    clear ps g2 k2 d1 d2
    go_wp2
    go_roundw
    case rel => exact ⟨k + 1, by omega, by go_num, HN.out⟩
    case measure => simp [intOf]; omega
  have d2 : (x.kind == 2) = false := by rw [beq_eq_false_iff_ne]; exact h2
  clear h1 h2
  obtain ⟨wk, hwk⟩ : ∃ wk : World, wk = wc := ⟨_, rfl⟩
  subst hwk
  go_upto_region 17 with (fail)
  clear z0 d1 d2
  go_cut [10] (fun p wx => ∃ bm A' c', p = .pointer (some ⟨bm, 0, none⟩) ∧ wk.heap.size ≤ bm ∧ Bk wx bm 38 (mcells x.m (.slice A' x.m.stamp.length c')) ∧ SlI wx (.slice A' x.m.stamp.length c') x.m.stamp ∧ Kp No wk wx)
  case first =>
    obtain ⟨CM, hCM⟩ : ∃ C, C = mcells x.m (.slice x.A x.m.stamp.length x.c) := ⟨_, rfl⟩
    have HiM : Hid ((Tryz.prog.info? 38).map (·.size) = some CM.length) := Lib.hid (by rw [hCM]; kernel_rfl)
    have HRM := Lib.hid (show wk.rangeAt bx 2 CM from by rw [hCM]; exact op_range HBO.out)
    have po := own_any x.m (.slice x.A x.m.stamp.length x.c) wk (HOK.out.1.1.no HKW.out) (by have := HOK.out.1.2.2.2.1; omega)
    rw [← hCM] at po
    clear hCM
    go_wp2_with (with_reducible refine wpList_load_mid rfl _ _ rfl bx 2 rfl CM _ HRM.out HUH.out rfl HiM.out ?_)
    refine po.mono ?_
    rintro e w8 ⟨sv, rfl, o8, k8⟩
    obtain ⟨A8, c8, rfl, _⟩ := own_len o8
    have HO8 := Lib.hid (own_slI o8); have HK8 := Lib.hid k8
    have HTM := Lib.hid (msg_there w8 x.m (.slice A8 x.m.stamp.length c8))
    have HIM := Lib.hid (msg_info x.m (.slice A8 x.m.stamp.length c8))
    have HOM := Lib.hid (msg_one x.m A8 x.m.stamp.length c8)
    have gm := Lib.hid (msg_store w8 x.m A8 x.m.stamp.length c8)
    obtain ⟨CN, hCN⟩ : ∃ C, C = mcells x.m (.slice A8 x.m.stamp.length c8) := ⟨_, rfl⟩
    rw [← hCN] at HTM HIM HOM gm ⊢
    have HCN := Lib.hid hCN
    clear o8 k8 po hCN
    go_wp2_with (with_reducible refine wpList_store_mid rfl _ _ _ rfl w8.heap.size 0 CN.toArray rfl rfl HTM.out HIM.out HOM.out ?_)
    go_meet
    exact ⟨w8.heap.size, A8, c8, rfl, HK8.out.size, by rw [← HCN.out]; exact gm.out.1, HO8.out.no gm.out.2, HK8.out.trans gm.out.2⟩
  case rest =>
  obtain ⟨bm, A', c', rfl, hbm, hbk, hsl, kk⟩ := hcut
  have HSL8 := Lib.hid hsl
  have HGK := Lib.hid (HGC.out.no kk); have HOKK := Lib.hid (own_kp HOC0.out kk fun _ _ m => m); have HKK := Lib.hid (HKW.out.trans kk)
  have HBM := Lib.hid hbk
  have HWB := Lib.hid (show W.heap.size ≤ bm from Nat.le_trans HKW.out.size hbm)
  clear hsl kk hbk hbm HGC HOC0 HKW HBO
  have z2 : wc.cell? ⟨bm, 2, none⟩ = some (.int .i64 x.m.dest) := HBM.out.cell 2
  have f2 := HBM.out.frozen 2
  go_upto_region 19 with (fail)
  clear z2 f2
  have hb9 := HBM.out.set_ 2 (.int .i64 8)
  rw [toM_cells] at hb9
  have k9 : Kp (One bm) wc (wc.setCell ⟨bm, 2, none⟩ (.int .i64 8)) := (Kp.refl _ _).set (.inl (One.self _)) _ _
  generalize wc.setCell ⟨bm, 2, none⟩ (.int .i64 8) = w9 at *
  have HG9 := Lib.hid (HGK.out.kp k9 fun q _ hq e => by
    obtain ⟨t, cs, hq, ht⟩ := hq
    have e : q = bm := e
    rcases ht with rfl | rfl | rfl | rfl <;> exact hq.ne_ HBM.out (by decide) e)
  have HS9 := Lib.hid (HSL8.out.kp k9 fun q cs hq e => hq.ne_ HBM.out (by decide) e)
  have HL9 := Lib.hid (own_kp HOKK.out k9 fun q e m => by
    obtain ⟨cs, hq⟩ := own_bk HOKK.out q e
    exact hq.ne_ HBM.out (by decide) m)
  have HK9 := Lib.hid (HKK.out.then_ k9 fun i hi e => by have e : i = bm := e; have := HWB.out; omega)
  have HB9 := Lib.hid hb9
  clear k9 HGK HOKK HKK HSL8 HBM hb9
  obtain ⟨CM, hCM⟩ : ∃ C, C = mcells (toM x.m) (.slice A' x.m.stamp.length c') := ⟨_, rfl⟩
  have HiM : Hid ((Tryz.prog.info? 38).map (·.size) = some CM.length) := Lib.hid (by rw [hCM]; kernel_rfl)
  have HRM9 := Lib.hid (show w9.rangeAt bm 0 CM from by rw [hCM]; exact range_of HB9.out)
  have HSTL := Lib.hid (show x.m.stamp.length ≤ 17592186043904 from HOK.out.1.2.2.2.1)
  -- own of the message in bm, in a world that holds what w9 held in old blocks
  have POW := Lib.hid (show ∀ w W2, SlI w (.slice A' x.m.stamp.length c') x.m.stamp → Kp No w W2 → Calls Tryz.prog 14 #[.agg CM.toArray] W2 (fun e w' => ∃ A1 c1, e = .returned (.agg #[.int .i64 x.m.kind, .int .i64 x.m.from_, .int .i64 8, .int .i64 x.m.boot, .int .i64 x.m.seq, .int .i64 x.m.low, .int .i64 x.m.verb, .string ⟨x.m.path.toArray⟩, .int .i64 x.m.mode, .int .i64 x.m.term, .int .i64 x.m.id, .bool x.m.fresh, .int .i64 x.m.code, .slice A1 x.m.stamp.length c1, .int .i64 x.m.origin, .int .i64 x.m.number]) ∧ w'.ownsRow W2.heap.size 3 1 (.slice A1 x.m.stamp.length c1) x.m.stamp.length (ints x.m.stamp) ∧ Kp No W2 w') from fun w W2 hs kk => by
    rw [hCM]
    refine (own_any (toM x.m) (.slice A' x.m.stamp.length c') W2 (hs.no kk).arg (by have := HSTL.out; show x.m.stamp.length ≤ _; omega)).mono ?_
    rintro e w' ⟨sv, rfl, ho, hk⟩
    obtain ⟨A1, c1, rfl, _⟩ := own_len ho
    exact ⟨A1, c1, rfl, ho, hk⟩)
  have HCMX := Lib.hid hCM
  clear hCM
  have po := POW.out w9 w9 HS9.out (Kp.refl _ _)
  go_wp2_with (with_reducible refine wpList_load_mid rfl _ _ rfl bm 0 rfl CM _ HRM9.out HUH.out rfl HiM.out ?_)
  refine po.mono ?_
  rintro e w10 ⟨A10, c10, rfl, o10, k10⟩
  have HG10 := Lib.hid (HG9.out.no k10); have HL10 := Lib.hid (own_kp HL9.out k10 fun _ _ m => m); have HK10 := Lib.hid (HK9.out.trans k10); have HB10 := Lib.hid (HB9.out.no k10); have HS10 := Lib.hid (HS9.out.no k10)
  have ph := handle_gs B gb db sb 2 8 gg d (toM x.m) A10 c10 w10 HG10.out (own_slI o10) (toM_rng HOK.out.1.2.1) HOK.out.1.2.2.1 (by have := HWR.out; have := HLN.out; omega)
  obtain ⟨rs1, rs2, rs3, rs4⟩ := rises_step 8 gg d (toM x.m) last HDD.out HCM.out
  have wr1 := handleG_wr 8 gg d (toM x.m)
  obtain ⟨g2, d2, z2, hE⟩ : ∃ a b c, handleG 8 gg d (toM x.m) = (a, b, c) := ⟨_, _, _, rfl⟩
  unfold HandS at ph
  rw [hE] at ph rs1 rs2 rs3 rs4 wr1
  have DEAD := Lib.hid (show g2.dead = true → d2.off = true from rs1)
  have RS2 := Lib.hid (show z2 = 0 → 0 ≤ cmpS x.m.stamp last ∧ cmpS g2.high x.m.stamp = 0 from rs2)
  have RS3 := Lib.hid (show z2 = 40 → d2.off = true from rs3)
  have RS4 := Lib.hid (show z2 ≠ 0 → g2.high = gg.high from rs4)
  have WR := Lib.hid (show d2.wr ≤ ((k + 1 : Nat) : Int) from by have h := HWR.out; have wr1 : d2.wr ≤ d.wr + 1 := wr1; omega)
  clear hE rs1 rs2 rs3 rs4 wr1 po o10 k10 HG9 HL9 HK9 HB9 HS9 HRM9
  go_wp2_with fail
  refine ph.mono ?_
  rintro e wh ⟨rfl, gh, kh⟩
  have HGH := Lib.hid (show GS wh B gb db sb 2 8 g2 d2 from gh)
  have HLH := Lib.hid (own_kp HL10.out kh fun q e => GS.apart HG10.out HL10.out e)
  have HKH := Lib.hid (GM.old HG10.out HBW.out HK10.out kh)
  have HBH := Lib.hid (HB10.out.kp kh (GS.msg HG10.out HB10.out))
  have HSH := Lib.hid (HS10.out.kp kh fun q cs hq => GS.ints HG10.out hq)
  have HCM2 := HCM
  clear ph gh kh HG10 HL10 HK10 HB10 HS10 HDD HWR
  by_cases q0 : z2 = 0
  · subst q0
    have RS := Lib.hid (RS2.out rfl)
    have HRM := Lib.hid (show wh.rangeAt bm 0 CM from by rw [HCMX.out]; exact range_of HBH.out)
    have hF : (fun W2 => W2.rangeAt bm 0 CM) wh.drew := range_kp HRM.out (Kp.refl No wh).drew (fun m => m)
    have PO := Lib.hid (POW.out wh)
    have PO := Lib.hid (fun W2 kk => PO.out W2 HSH.out kk)
    obtain ⟨cq1, hcq1⟩ : ∃ cq, cq = cmpS x.m.stamp last := ⟨_, rfl⟩
    have hcq2 : ¬ cq1 < 0 := by rw [hcq1]; have := RS.out.1; omega
    have PC1 := Lib.hid (show ∀ W2, Kp No wh W2 → ∀ u, ArgInts W2 u x.m.stamp → Calls Tryz.prog 20 #[u, .slice Al last.length cl] W2 (fun e w' => e = .returned (.int .i64 cq1) ∧ Kp No W2 w') from fun W2 kk u hu => by
      rw [hcq1]
      exact compareS_any u _ x.m.stamp last W2 hu (own_argI (own_kp HLH.out kk fun _ _ m => m)) (by have := HSTL.out; unfold maxLen; omega) (by have := HLL.out; unfold maxLen; omega))
    clear hcq1
    have PH := Lib.hid (show ∀ W2, Kp No wh W2 → Calls Tryz.prog 18 #[.pointer (some ⟨gb, 0, none⟩)] W2 (HighR W2 g2.high) from fun W2 kk => high_any gb db 8 g2 _ W2 (HGH.out.no kk).gt HGH.out.high)
    have PC2 := Lib.hid (show ∀ W2, Kp No wh W2 → ∀ u u2, ArgInts W2 u g2.high → ArgInts W2 u2 x.m.stamp → Calls Tryz.prog 20 #[u, u2] W2 (fun e w' => e = .returned (.int .i64 0) ∧ Kp No W2 w') from fun W2 kk u u2 hu hu2 => by
      have := compareS_any u u2 g2.high x.m.stamp W2 hu hu2 (by have := HGH.out.high; unfold maxLen; omega) (by have := HSTL.out; unfold maxLen; omega)
      rw [RS.out.2] at this
      exact this)
    go_upto_region 21 with (fail)
    refine rg_begin (fun W2 => W2.rangeAt bm 0 CM) 15 (by kernel_rfl) ?_
    refine rg_take (i := 0) (v := ?vq0) (by simp only [List.getElem?_toArray, List.getElem?_cons_zero]; rfl) (by kernel_rfl) (by exact fun _ _ _ h => h) (by rfl) ?rq0 hF ?sq0
    case rq0 => (intro W9 hW; refine exec_load_mid W9 38 (.tmp 10) ?_ bm 0 ?_ CM _ hW Tryz.underlying38 ?_ HiM.out; exact rfl; exact rfl; exact rfl)
    try simp only [Act.put, List.setIfInBounds_toArray, List.set_cons_zero, List.set_cons_succ]
    refine rg_take (i := 3) (v := ?vq3) (by simp only [List.getElem?_toArray, List.getElem?_cons_succ, List.getElem?_cons_zero]; rfl) (by kernel_rfl) (by exact fun _ _ _ h => h) (by rfl) ?rq3 hF ?sq3
    case rq3 => (intro W hW; clear hW; go_simp; try with_reducible rfl)
    try simp only [Act.put, List.setIfInBounds_toArray, List.set_cons_zero, List.set_cons_succ]
    refine rg_one (i := 1) (oi := ?oq1) ?aq1 ?bq1 ?cq1 ?dq1
    case aq1 => (simp only [List.getElem?_toArray, List.getElem?_cons_succ, List.getElem?_cons_zero]; rfl)
    case bq1 => kernel_rfl
    case cq1 => rfl
    intro K hK
    (go_simp; refine (PO.out _ (Kp.refl No wh).drew).mono ?_; rintro e v1 ⟨Aa, ca, rfl, oa, ka⟩; have HKA := Lib.hid ((Kp.refl No wh).drew.trans ka); have HOA := Lib.hid oa; clear oa)
    refine rg_use hK (range_kp HRM.out HKA.out (fun m => m)) (fun hF => ?_)
    clear hK K
    try simp only [Act.put, List.setIfInBounds_toArray, List.set_cons_zero, List.set_cons_succ]
    refine rg_one (i := 2) (oi := ?oq2) ?aq2 ?bq2 ?cq2 ?dq2
    case aq2 => (simp only [List.getElem?_toArray, List.getElem?_cons_succ, List.getElem?_cons_zero]; rfl)
    case bq2 => kernel_rfl
    case cq2 => rfl
    intro K hK
    go_simp
    refine rg_use hK hF (fun hF => ?_)
    clear hK K
    try simp only [Act.put, List.setIfInBounds_toArray, List.set_cons_zero, List.set_cons_succ]
    refine rg_one (i := 4) (oi := ?oq4) ?aq4 ?bq4 ?cq4 ?dq4
    case aq4 => (simp only [List.getElem?_toArray, List.getElem?_cons_succ, List.getElem?_cons_zero]; rfl)
    case bq4 => kernel_rfl
    case cq4 => rfl
    intro K hK
    (go_simp; refine (PC1.out v1 HKA.out (.slice Aa x.m.stamp.length ca) (own_argI HOA.out)).mono ?_; rintro e v2 ⟨rfl, kb⟩; have HKB := Lib.hid (HKA.out.trans kb); clear kb)
    refine rg_use hK (range_kp HRM.out HKB.out (fun m => m)) (fun hF => ?_)
    clear hK K
    try simp only [Act.put, List.setIfInBounds_toArray, List.set_cons_zero, List.set_cons_succ]
    refine rg_take (i := 5) (v := (.bool false)) (by simp only [List.getElem?_toArray, List.getElem?_cons_succ, List.getElem?_cons_zero]; rfl) (by kernel_rfl) (by exact fun _ _ _ h => h) (by rfl) ?rq5 hF ?sq5
    case rq5 => (intro W hW; clear hW; go_simp; try with_reducible rfl)
    try simp only [Act.put, List.setIfInBounds_toArray, List.set_cons_zero, List.set_cons_succ]
    refine rg_take (i := 6) (v := (.bool false)) (by simp only [List.getElem?_toArray, List.getElem?_cons_succ, List.getElem?_cons_zero]; rfl) (by kernel_rfl) (by exact fun _ _ _ h => h) (by rfl) ?rq6 hF ?sq6
    case rq6 => (intro W hW; clear hW; go_simp; try with_reducible rfl)
    try simp only [Act.put, List.setIfInBounds_toArray, List.set_cons_zero, List.set_cons_succ]
    refine rg_take (i := 7) (v := ?vq7) (by simp only [List.getElem?_toArray, List.getElem?_cons_succ, List.getElem?_cons_zero]; rfl) (by kernel_rfl) (by exact fun _ _ _ h => h) (by rfl) ?rq7 hF ?sq7
    case rq7 => (intro W hW; clear hW; go_simp; try with_reducible rfl)
    try simp only [Act.put, List.setIfInBounds_toArray, List.set_cons_zero, List.set_cons_succ]
    refine rg_take (i := 9) (v := ?vq9) (by simp only [List.getElem?_toArray, List.getElem?_cons_succ, List.getElem?_cons_zero]; rfl) (by kernel_rfl) (by exact fun _ _ _ h => h) (by rfl) ?rq9 hF ?sq9
    case rq9 => (intro W9 hW; refine exec_load_mid W9 38 (.tmp 10) ?_ bm 0 ?_ CM _ hW Tryz.underlying38 ?_ HiM.out; exact rfl; exact rfl; exact rfl)
    try simp only [Act.put, List.setIfInBounds_toArray, List.set_cons_zero, List.set_cons_succ]
    refine rg_one (i := 8) (oi := ?oq8) ?aq8 ?bq8 ?cq8 ?dq8
    case aq8 => (simp only [List.getElem?_toArray, List.getElem?_cons_succ, List.getElem?_cons_zero]; rfl)
    case bq8 => kernel_rfl
    case cq8 => rfl
    intro K hK
    (go_simp; refine (PH.out v2 HKB.out).mono ?_; rintro e v3 ⟨sv, rfl, oc, kc⟩; obtain ⟨Ac, cc', rfl, _⟩ := own_len oc; have HOC := Lib.hid oc; have HKC := Lib.hid (HKB.out.trans kc); clear oc)
    refine rg_use hK (range_kp HRM.out HKC.out (fun m => m)) (fun hF => ?_)
    clear hK K
    try simp only [Act.put, List.setIfInBounds_toArray, List.set_cons_zero, List.set_cons_succ]
    refine rg_one (i := 10) (oi := ?oq10) ?aq10 ?bq10 ?cq10 ?dq10
    case aq10 => (simp only [List.getElem?_toArray, List.getElem?_cons_succ, List.getElem?_cons_zero]; rfl)
    case bq10 => kernel_rfl
    case cq10 => rfl
    intro K hK
    (go_simp; refine (PO.out v3 HKC.out).mono ?_; rintro e v4 ⟨Ad, cd, rfl, od, kd⟩; have HOD := Lib.hid od; have HOC4 := Lib.hid (own_kp HOC.out kd fun _ _ m => m); have HKD := Lib.hid (HKC.out.trans kd); clear od)
    refine rg_use hK (range_kp HRM.out HKD.out (fun m => m)) (fun hF => ?_)
    clear hK K
    try simp only [Act.put, List.setIfInBounds_toArray, List.set_cons_zero, List.set_cons_succ]
    refine rg_one (i := 11) (oi := ?oq11) ?aq11 ?bq11 ?cq11 ?dq11
    case aq11 => (simp only [List.getElem?_toArray, List.getElem?_cons_succ, List.getElem?_cons_zero]; rfl)
    case bq11 => kernel_rfl
    case cq11 => rfl
    intro K hK
    go_simp
    refine rg_use hK hF (fun hF => ?_)
    clear hK K
    try simp only [Act.put, List.setIfInBounds_toArray, List.set_cons_zero, List.set_cons_succ]
    refine rg_one (i := 12) (oi := ?oq12) ?aq12 ?bq12 ?cq12 ?dq12
    case aq12 => (simp only [List.getElem?_toArray, List.getElem?_cons_succ, List.getElem?_cons_zero]; rfl)
    case bq12 => kernel_rfl
    case cq12 => rfl
    intro K hK
    (go_simp; refine (PC2.out v4 HKD.out (.slice Ac g2.high.length cc') (.slice Ad x.m.stamp.length cd) (own_argI HOC4.out) (own_argI HOD.out)).mono ?_; rintro e v5 ⟨rfl, ke⟩; have HKE := Lib.hid (HKD.out.trans ke); clear ke)
    refine rg_use hK (range_kp HRM.out HKE.out (fun m => m)) (fun hF => ?_)
    clear hK K
    try simp only [Act.put, List.setIfInBounds_toArray, List.set_cons_zero, List.set_cons_succ]
    refine rg_take (i := 13) (v := (.bool false)) (by simp only [List.getElem?_toArray, List.getElem?_cons_succ, List.getElem?_cons_zero]; rfl) (by kernel_rfl) (by exact fun _ _ _ h => h) (by rfl) ?rq13 hF ?sq13
    case rq13 => (intro W hW; clear hW; go_simp; try with_reducible rfl)
    try simp only [Act.put, List.setIfInBounds_toArray, List.set_cons_zero, List.set_cons_succ]
    refine rg_take (i := 14) (v := (.bool false)) (by simp only [List.getElem?_toArray, List.getElem?_cons_succ, List.getElem?_cons_zero]; rfl) (by kernel_rfl) (by exact fun _ _ _ h => h) (by rfl) ?rq14 hF ?sq14
    case rq14 => (intro W hW; clear hW; go_simp; try with_reducible rfl)
    try simp only [Act.put, List.setIfInBounds_toArray, List.set_cons_zero, List.set_cons_succ]
    refine rg_done (by kernel_rfl) ?_
    have HGE := Lib.hid (HGH.out.no HKE.out); have HKEW := Lib.hid (HKH.out.trans HKE.out)
    have z13 : (v5.alloc (.cells #[] 3)).cell? ⟨bm, 13, none⟩ = some (.slice A' x.m.stamp.length c') := ((HBH.out.no HKE.out).alloc _).cell 13
    have HSE := Lib.hid (HSH.out.no HKE.out).arg
    have hstl := HSTL.out
    have HLO := Lib.hid (show B ≤ v5.heap.size from HGE.out.lt)
    clear hF HKA HKB HKC HKD HOA HOC HOC4 HOD PO PC1 PH PC2 HGH HKH HBH HSH HLH ka kc kd HRM hcq2
    go_upto_region 24 with (at_builtin; refine copy_g (w0 := v5) (by rfl) _ _ rfl rfl A' x.m.stamp c' rfl HSE.out (by omega) ?_; intro An cn v6 on kn; have HON := Lib.hid on; have HKN := Lib.hid kn; clear on kn)
    have HG6 := Lib.hid (HGE.out.no HKN.out); have HK6 := Lib.hid (HKEW.out.trans HKN.out); have HL6 := Lib.hid (own_low HON.out HLO.out)
    clear z13 HSE HGE HKEW HKE HON HKN HLO HLL hstl
    have HLL := HSTL
    have ph := high_any gb db 8 g2 _ v6 HG6.out.gt HG6.out.high
    go_wp2_with fail
    refine ph.mono ?_
    rintro e y1 ⟨sv, rfl, oy, ky⟩
    obtain ⟨Ay, cy, rfl, _⟩ := own_len oy
    have hh4 := HG6.out.high
    have pc := compareS_any (.slice Ay g2.high.length cy) (.slice An x.m.stamp.length cn) g2.high x.m.stamp y1 (own_argI oy) (own_argI (own_kp HL6.out ky fun _ _ m => m)) (by unfold maxLen; omega) (by have := HLL.out; unfold maxLen; omega)
    obtain ⟨cq, hcq⟩ : ∃ cq, cq = cmpS g2.high x.m.stamp := ⟨_, rfl⟩
    have hcq0 : ¬ cq < 0 := by rw [hcq]; have := RS.out.2; omega
    rw [← hcq] at pc
    have HGY := Lib.hid (HG6.out.no ky); have HLY := Lib.hid (own_kp HL6.out ky fun _ _ m => m); have HKY := Lib.hid (HK6.out.trans ky)
    clear ph oy ky hcq hh4
    go_wp2_with fail
    refine pc.mono ?_
    rintro e y2 ⟨rfl, kz⟩
    have HN := Lib.hid (show RisesI W B db sb (k + 1) y2 (.pointer (some ⟨gb, 0, none⟩)) (.slice An x.m.stamp.length cn) from ⟨gb, g2, d2, x.m.stamp, rfl, ⟨_, _, rfl⟩, HGY.out.no kz, own_kp HLY.out kz fun _ _ m => m, DEAD.out, by have := RS.out.2; omega, HLL.out, WR.out, HKY.out.trans kz⟩)
    clear pc kz
    go_wp2
    go_roundw
    case rel => exact ⟨k + 1, by omega, by go_num, HN.out⟩
    case measure => simp [intOf]; omega
  have q0b : (z2 == 0) = false := by rw [beq_eq_false_iff_ne]; exact q0
  have HHE := Lib.hid (RS4.out q0)
  by_cases q4 : z2 = 40
  · subst q4
    have OFF := Lib.hid (RS3.out rfl)
    clear q0
    have pf := off_gs B gb db sb 2 8 g2 d2 wh HGH.out
    rw [OFF.out] at pf
    go_wp2_with fail
    refine pf.mono ?_
    rintro e w' ⟨rfl, rfl⟩
    clear pf
    have ph := high_any gb db 8 g2 _ wh HGH.out.gt HGH.out.high
    go_wp2_with fail
    refine ph.mono ?_
    rintro e y1 ⟨sv, rfl, oy, ky⟩
    obtain ⟨Ay, cy, rfl, _⟩ := own_len oy
    have hh4 := HGH.out.high
    have pc := compareS_any (.slice Ay g2.high.length cy) (.slice Al last.length cl) g2.high last y1 (own_argI oy) (own_argI (own_kp HLH.out ky fun _ _ m => m)) (by unfold maxLen; omega) (by have := HLL.out; unfold maxLen; omega)
    obtain ⟨cq, hcq⟩ : ∃ cq, cq = cmpS g2.high last := ⟨_, rfl⟩
    have hcq0 : ¬ cq < 0 := by rw [hcq]; rw [HHE.out]; have := HCM2.out; omega
    rw [← hcq] at pc
    have HGY := Lib.hid (HGH.out.no ky); have HLY := Lib.hid (own_kp HLH.out ky fun _ _ m => m); have HKY := Lib.hid (HKH.out.trans ky)
    clear ph oy ky hcq hh4
    go_wp2_with fail
    refine pc.mono ?_
    rintro e y2 ⟨rfl, kz⟩
    have HN := Lib.hid (show RisesI W B db sb (k + 1) y2 (.pointer (some ⟨gb, 0, none⟩)) (.slice Al last.length cl) from ⟨gb, g2, d2, last, rfl, ⟨_, _, rfl⟩, HGY.out.no kz, own_kp HLY.out kz fun _ _ m => m, DEAD.out, by rw [HHE.out]; exact HCM2.out, HLL.out, WR.out, HKY.out.trans kz⟩)
    clear pc kz
    go_wp2
    go_roundw
    case rel => exact ⟨k + 1, by omega, by go_num, HN.out⟩
    case measure => simp [intOf]; omega
  · have q4b : (z2 == 40) = false := by rw [beq_eq_false_iff_ne]; exact q4
    clear q0 q4
    have ph := high_any gb db 8 g2 _ wh HGH.out.gt HGH.out.high
    go_wp2_with fail
    refine ph.mono ?_
    rintro e y1 ⟨sv, rfl, oy, ky⟩
    obtain ⟨Ay, cy, rfl, _⟩ := own_len oy
    have hh4 := HGH.out.high
    have pc := compareS_any (.slice Ay g2.high.length cy) (.slice Al last.length cl) g2.high last y1 (own_argI oy) (own_argI (own_kp HLH.out ky fun _ _ m => m)) (by unfold maxLen; omega) (by have := HLL.out; unfold maxLen; omega)
    obtain ⟨cq, hcq⟩ : ∃ cq, cq = cmpS g2.high last := ⟨_, rfl⟩
    have hcq0 : ¬ cq < 0 := by rw [hcq]; rw [HHE.out]; have := HCM2.out; omega
    rw [← hcq] at pc
    have HGY := Lib.hid (HGH.out.no ky); have HLY := Lib.hid (own_kp HLH.out ky fun _ _ m => m); have HKY := Lib.hid (HKH.out.trans ky)
    clear ph oy ky hcq hh4
    go_wp2_with fail
    refine pc.mono ?_
    rintro e y2 ⟨rfl, kz⟩
    have HN := Lib.hid (show RisesI W B db sb (k + 1) y2 (.pointer (some ⟨gb, 0, none⟩)) (.slice Al last.length cl) from ⟨gb, g2, d2, last, rfl, ⟨_, _, rfl⟩, HGY.out.no kz, own_kp HLY.out kz fun _ _ m => m, DEAD.out, by rw [HHE.out]; exact HCM2.out, HLL.out, WR.out, HKY.out.trans kz⟩)
    clear pc kz
    go_wp2
    go_roundw
    case rel => exact ⟨k + 1, by omega, by go_num, HN.out⟩
    case measure => simp [intOf]; omega

end Go.Proofs.YtlgbmkdeamgpkaaGreatDoor.gateRises

/- GateRises returns true for every script: the stamps that a gate lets by never fall, over power cuts and new beginnings. No condition. -/
namespace Go.Proofs.YtlgbmkdeamgpkaaGreatDoor.gateRises
open Go.ChangeShapes Go.WideShapes Go.ChangeAt Go.RowKit Go.PlainAid
open Go.ChangeMaps (open_string shut_string)

theorem own : ownKnob Tryz.prog.godebug = none := by kernel_rfl
theorem laidOut : laidOutB Tryz.prog = true := by kernel_rfl

set_option maxRecDepth 100000 in
theorem lifted (os : Os) (started : os.Started) (H : Type) (enc : TypeId × Value → H) :
    ReturnsInHanded {} Tryz.checked os 6 .any (fun w args => (Rows.gateRisesSpec.pre enc Tryz.prog Tryz.f6 Rows.gateRisesRow.domain false w args ∧ laidMetH Tryz.prog [("unicode/utf8.acceptRanges", Rows.laid_unicode_utf8_acceptRanges), ("unicode/utf8.first", Rows.laid_unicode_utf8_first)] w) ∧ sizedMet enc Tryz.prog Tryz.f6 (OpenSpec.ofChange Rows.gateRisesSpec) false w args)
      (Rows.gateRisesSpec.post enc Tryz.prog Tryz.f6 false true false false) := by
  refine returnsInHanded_and_shaped (C := Tryz.checked) (X := (fun w _ => laidMetH Tryz.prog [("unicode/utf8.acceptRanges", Rows.laid_unicode_utf8_acceptRanges), ("unicode/utf8.first", Rows.laid_unicode_utf8_first)] w)) (fun _ _ _ hh h => h.of_heap hh) own started (by kernel_rfl) Tryz.func6
    (ChangeSpec.witness_shaped (enc := enc) (C := Tryz.checked) (os := os) (X := (fun w _ => laidMetH Tryz.prog [("unicode/utf8.acceptRanges", Rows.laid_unicode_utf8_acceptRanges), ("unicode/utf8.first", Rows.laid_unicode_utf8_first)] w)) false (World.laidAll Tryz.prog os [("unicode/utf8.acceptRanges", Rows.laid_unicode_utf8_acceptRanges), ("unicode/utf8.first", Rows.laid_unicode_utf8_first)]) #[.slice none 0 0] 8 (World.laidAll_os _ _ _)
      (World.shaped_of_ZipB (by kernel_rfl) (by kernel_rfl)) (by kernel_rfl) (by kernel_rfl) (by kernel_rfl)
      (by rw [MakeChecks.laidMetH_plain _ _ _ (by kernel_rfl)]; exact laidMet_laidAll _ (by kernel_rfl) (by kernel_rfl))) ?_
  intro W base args ds gs before hval0 hW hcnd hsz0 hL hsh _
  have hval : ∀ (j : Nat) t v, Tryz.f6.params[j]? = some t → args[j]? = some v → Value.okWide Tryz.prog W .any base t v := hval0
  have hW' := hW
  obtain ⟨p, q, hA0, hV, rfl, hfz, hnd⟩ := hW
  have hA : DataW.TrodAll enc Tryz.prog W 0 (fun _ => true) true Tryz.f6.params.toList args.toList ds p := hA0
  rw [Tryz.params6] at hA hval
  obtain ⟨v0, vs0, d0, ds0, p0, q0, hargs, rfl, rfl, h0, r0⟩ := trodAll_cons hA
  obtain ⟨rfl, rfl, rfl⟩ := trodAll_nil r0
  obtain rfl : args = #[v0] := by cases args; simp_all
  obtain ⟨rfl, rfl⟩ := trodVars_none hV
  have hsz : ∀ (j : Nat) (t : TypeId) (d : DataW H), ([30] : List TypeId)[j]? = some t → [d0][j]? = some d → ∀ n ∈ d.weights Tryz.prog t, n ≤ reachBytes := by
    intro j t d ht hd n hn
    have hsz1 : (DataW.weightsEach Tryz.prog ([30] : List TypeId) [d0]).all (· ≤ reachBytes) = true := hsz0
    have := List.all_eq_true.1 hsz1 n (DataW.weights_mem_each ht hd n hn)
    simpa using this
  have k0 := h0
  have lt0 : ∀ x ∈ p0, x.block < W.heap.size := by obtain ⟨m, hm⟩ := k0; exact DataW.trod_lt m _ _ _ hm
  obtain ⟨l0, hl0, hs0⟩ := open_ops (hval 0 30 v0 rfl rfl) h0 (hsz 0 30 d0 rfl rfl)
  refine (walk v0 l0 W hl0 hs0).mono fun e W' ⟨he, bel⟩ => ?_
  subst he
  exact ⟨_, rfl, _, _, _, [], _, [], hW', trodAll_mk1 (shut_bool Tryz.underlying4 _), (trodAll_cons_mk (Below.trod laidOut (by kernel_rfl) (of_decide_eq_true (by kernel_rfl)) k0 bel lt0) trodAll_mk0), rfl, bel.frame _, fun h => by cases h⟩

theorem over : Rows.gateRisesRow.holds Tryz.pinned (OpenSpec.ofChange Rows.gateRisesSpec) :=
  OpenClaim.holds_of_wide 6 Tryz.f6 rfl rfl rfl rfl rfl rfl rfl ⟨rfl, rfl, rfl, rfl, rfl⟩ rfl rfl rfl rfl rfl (by kernel_rfl) Tryz.func6 (by kernel_rfl)
    (of_decide_eq_true (by kernel_rfl)) (by unfold Func.isWrapper; first | (rw [if_pos (by decide +kernel)]; kernel_rfl) | (rw [if_neg (by decide +kernel)]; exact ⟨rfl, rfl⟩))
    (fun os started H enc _ => lifted os started H enc)

theorem proved : Rows.GateRisesCardSaid :=
  Claim7.holds_tied_plain_at .later [] [.data, .pinned] true (true, "36de4b0e266865fa76cef0376ca197fae2bbf455f528766fd1e4f577ed6d676b") false over (fun _ h => by cases h) (by kernel_rfl) (fun _ h => by cases h) gateRises_row_tie rfl ⟨rfl, rfl⟩ (by kernel_rfl) rfl
    (fun f fn hf hfn => by
      obtain rfl : f = 6 := Option.some.inj ((show Tryz.prog.funcNamed "sublet/subletlaw19.GateRises" = some 6 by kernel_rfl).symm.trans hf) |>.symm
      obtain rfl : fn = Tryz.f6 := (Option.some.inj (Tryz.func6.symm.trans hfn)).symm
      exact ⟨by kernel_rfl, fun j t ht => by
        rw [Tryz.params6] at ht
        have hm : t ∈ ([30] : List TypeId) := by simpa using Array.mem_of_getElem? ht
        have hall : (([30] : List TypeId).all fun u => !Tryz.prog.wantsStandIn u) = true := by kernel_rfl
        exact (show Tryz.prog.wantsStandIn t = false by simpa using List.all_eq_true.1 hall t hm)⟩)
    (by kernel_rfl)
#print axioms proved
end Go.Proofs.YtlgbmkdeamgpkaaGreatDoor.gateRises
