/- Several texts of this claim in one. No condition beyond what each theorem states. -/
import Derived.Test.YtlgbmkdeamgpkaaGreatDoorG10
import Derived.Test.YtlgbmkdeamgpkaaGreatDoorG06
import Derived.Test.YtlgbmkdeamgpkaaGreatDoorTie
import Derived.Test.YtlgbmkdeamgpkaaGreatDoorCards
/- The walk of GateKeeps. No condition beyond what each theorem states. -/
namespace Go.Proofs.YtlgbmkdeamgpkaaGreatDoor.gateKeeps
open Go.ChangeShapes Go.WideShapes Go.ChangeAt Go.RowKit Go.PlainAid
open Go.ChangeMaps (open_string shut_string)
theorem cmp_nil (L : List Int) : 0 ≤ cmpS L [] := by
  cases L with
  | nil => exact Int.le_refl 0
  | cons a l => show (0 : Int) ≤ 1; omega
def KeepsI (W : World) (B db sb k : Nat) (w : World) (gv : Value) : Prop := ∃ gb g d, gv = .pointer (some ⟨gb, 0, none⟩) ∧ GS w B gb db sb 2 8 g d ∧ (g.dead = true → d.off = true) ∧ d.wr ≤ (k : Int) ∧ Kp No W w
theorem KeepsI.kp {W w : World} {B db sb k : Nat} {gv : Value} (h : KeepsI W B db sb k w gv) : Kp No W w := by
  obtain ⟨_, _, _, _, _, _, _, h⟩ := h; exact h
set_option maxRecDepth 100000 in
set_option maxHeartbeats 16000000 in
theorem walk (v : Value) (l : List Opx) (W : World) (hl : ArgOps W v l) (hln : l.length ≤ 17592186043904) :
    Calls Tryz.prog 9 #[v] W fun e w' => e = .returned (.bool true) ∧ Below W.heap.size W w' := by
  obtain ⟨A, c, rfl, hc, hat⟩ := hl
  have HAT := Lib.hid hat; have HLN := Lib.hid hln
  clear hat hln
  go_enter Tryz.func9, Tryz.ntmps9
  go_wp2_with fail
  refine (awake_any _).mono ?_
  rintro e wa ⟨rfl, ka⟩
  go_wp2_with fail
  refine (begin_any _).mono ?_
  rintro e w0 ⟨gb, db, sb, rfl, h0, _, k0⟩
  have HBW := Lib.hid ka.size
  have HI := Lib.hid (show KeepsI W wa.heap.size db sb 0 w0 (.pointer (some ⟨gb, 0, none⟩)) from ⟨gb, {}, dsk0, rfl, h0, (fun e => by cases e), Int.le_refl _, ka.trans k0⟩)
  clear ka k0 h0
  generalize wa.heap.size = B at *
  go_wp2
  go_loopw [23, 4] (fun i gv wr => ∃ k : Nat, k ≤ l.length ∧ i = .int .i64 k ∧ KeepsI W B db sb k wr gv) (fun i _ _ => l.length - (intOf i).toNat)
  case atStart => exact ⟨0, Nat.zero_le _, rfl, HI.out⟩
  case round =>
  obtain ⟨k, hk, rfl, hpl⟩ := hrel
  have HPI := Lib.hid hpl
  have hlnk := HLN.out
  clear hpl HI
  by_cases hlt : k < l.length
  rotate_left
  · have hk1 : ¬ (k : Int) < (l.length : Int) := by omega
    go_wp2
    go_ret
    exact ⟨rfl, HPI.out.kp.below (Nat.le_refl _) fun _ _ m => m⟩
  obtain ⟨g, o, rfl, hrow⟩ := HAT.out (fun e => by rw [e] at hlt; simp at hlt)
  obtain ⟨hok, hrg⟩ := hrow k hlt
  obtain ⟨x, hx⟩ : ∃ x, x = l[k] := ⟨_, rfl⟩
  rw [← hx] at hok hrg
  clear hx hrow
  obtain ⟨CX, hCX⟩ : ∃ C, C = opC x := ⟨_, rfl⟩
  have HRX := Lib.hid (show wr.rangeAt g (o + k * 18) CX from by rw [hCX]; exact range_kp hrg HPI.out.kp (fun m => m))
  have HCX := Lib.hid hCX
  have HCL := Lib.hid (show CX.length = 18 from by rw [hCX]; rfl)
  have HiX : Hid ((Tryz.prog.info? 40).map (·.size) = some CX.length) := Lib.hid (by rw [HCL.out]; kernel_rfl)
  have HiXA : Hid ((Tryz.prog.info? 40).map (·.size) = some CX.toArray.size) := Lib.hid (by rw [List.size_toArray, HCL.out]; kernel_rfl)
  have HX1 := Lib.hid (show CX.toArray.all (·.oneCell') = true from by rw [hCX]; exact op_one x)
  have HUO := Lib.hid (Tryz.underlying40); have HUH := Lib.hid (Tryz.underlying38)
  have HOK := Lib.hid hok
  have hk0 : (0 : Int) ≤ (k : Int) := by omega
  have hk1 : (k : Int) < (l.length : Int) := by omega
  clear hrg hCX hok
  obtain ⟨wo, hwo⟩ : ∃ wo : World, wo = wr := ⟨_, rfl⟩
  subst hwo
  have HTH := Lib.hid (op_there wo CX.toArray.size (by rw [List.size_toArray, HCL.out]))

  obtain ⟨gb, gg, d, rfl, hg, hdd, hwr, hkp⟩ := HPI.out
  have HG := Lib.hid hg; have HDD := Lib.hid hdd; have HWR := Lib.hid hwr; have HKP := Lib.hid hkp
  clear hg hdd hwr hkp HPI
  go_upto_region 6 with (fail)
  go_cut [6] (fun p wx => p = .pointer (some ⟨wo.heap.size, 0, none⟩) ∧ Bk wx wo.heap.size 40 CX ∧ Kp No wo wx)
  case first =>
    have g6 := Lib.hid (op_store wo CX HCL.out)
    go_wp2_with (first
      | (with_reducible refine wpList_load_mid rfl _ _ rfl g (o + k * 18) rfl CX _ HRX.out HUO.out rfl HiX.out ?_)
      | (with_reducible refine wpList_store_mid rfl _ _ _ rfl wo.heap.size 0 CX.toArray rfl rfl HTH.out HiXA.out HX1.out ?_))
    go_meet
    exact ⟨rfl, g6.out.1, g6.out.2⟩
  case rest =>
  obtain ⟨rfl, hbx, kx⟩ := hcut
  have HBO := Lib.hid (show Bk wc wo.heap.size 40 (opC x) from by rw [← HCX.out]; exact hbx)
  have HGC := Lib.hid (HG.out.no kx); have HKW := Lib.hid (HKP.out.trans kx)
  clear hbx kx HG HKP HRX HTH
  generalize wo.heap.size = bx at *
  have z0 : wc.cell? ⟨bx, 0, none⟩ = some (.int .i64 x.kind) := HBO.out.cell 0
  by_cases h1 : x.kind = 1
  · have d1 : (x.kind == 1) = true := beq_iff_eq.2 h1
    have z1 : wc.cell? ⟨bx, 1, none⟩ = some (.int .i64 x.k) := HBO.out.cell 1
    have pa := arm_gs B gb db sb 2 8 gg d x.k wc HGC.out (HOK.out.2.2)
    clear h1
    go_wp2_with fail
    refine pa.mono ?_
    rintro e w1 ⟨rfl, g1, k1⟩
    have HN := Lib.hid (show KeepsI W B db sb (k + 1) w1 (.pointer (some ⟨gb, 0, none⟩)) from ⟨gb, gg, _, rfl, g1, HDD.out, by have := HWR.out; show d.wr ≤ _; omega, GM.old HGC.out HBW.out HKW.out k1⟩)
    clear pa g1 k1 z0 z1 d1
    go_wp2
    go_roundw
    case rel => exact ⟨k + 1, by omega, by go_num, HN.out⟩
    case measure => simp [intOf]; omega
  have d1 : (x.kind == 1) = false := by rw [beq_eq_false_iff_ne]; exact h1
  clear h1
  obtain ⟨wk, hwk⟩ : ∃ wk : World, wk = wc := ⟨_, rfl⟩
  subst hwk
  go_upto_region 9 with (fail)
  clear z0 d1
  go_cut [7] (fun p wx => ∃ bm A' c', p = .pointer (some ⟨bm, 0, none⟩) ∧ wk.heap.size ≤ bm ∧ Bk wx bm 38 (mcells x.m (.slice A' x.m.stamp.length c')) ∧ SlI wx (.slice A' x.m.stamp.length c') x.m.stamp ∧ Kp No wk wx)
  case first =>
    obtain ⟨CM, hCM⟩ : ∃ C, C = mcells x.m (.slice x.A x.m.stamp.length x.c) := ⟨_, rfl⟩
    have HiM : Hid ((Tryz.prog.info? 38).map (·.size) = some CM.length) := Lib.hid (by rw [hCM]; kernel_rfl)
    have HRM := Lib.hid (show wk.rangeAt bx 2 CM from by rw [hCM]; exact op_range HBO.out)
    have po := own_any x.m (.slice x.A x.m.stamp.length x.c) wk (HOK.out.1.1.no HKW.out) (by have := HOK.out.1.2.2.2.1; omega)
    rw [← hCM] at po
    clear hCM
    go_wp2_with (with_reducible refine wpList_load_mid rfl _ _ rfl bx 2 rfl CM _ HRM.out HUH.out rfl HiM.out ?_)
    refine po.mono ?_
    rintro e w8 ⟨sv, rfl, o8, k8⟩
    obtain ⟨A8, c8, rfl, _⟩ := own_len o8
    have HO8 := Lib.hid (own_slI o8); have HK8 := Lib.hid k8
    have HTM := Lib.hid (msg_there w8 x.m (.slice A8 x.m.stamp.length c8))
    have HIM := Lib.hid (msg_info x.m (.slice A8 x.m.stamp.length c8))
    have HOM := Lib.hid (msg_one x.m A8 x.m.stamp.length c8)
    have gm := Lib.hid (msg_store w8 x.m A8 x.m.stamp.length c8)
    obtain ⟨CN, hCN⟩ : ∃ C, C = mcells x.m (.slice A8 x.m.stamp.length c8) := ⟨_, rfl⟩
    rw [← hCN] at HTM HIM HOM gm ⊢
    have HCN := Lib.hid hCN
    clear o8 k8 po hCN
    go_wp2_with (with_reducible refine wpList_store_mid rfl _ _ _ rfl w8.heap.size 0 CN.toArray rfl rfl HTM.out HIM.out HOM.out ?_)
    go_meet
    exact ⟨w8.heap.size, A8, c8, rfl, HK8.out.size, by rw [← HCN.out]; exact gm.out.1, HO8.out.no gm.out.2, HK8.out.trans gm.out.2⟩
  case rest =>
  obtain ⟨bm, A', c', rfl, hbm, hbk, hsl, kk⟩ := hcut
  have HSL8 := Lib.hid hsl
  have HGK := Lib.hid (HGC.out.no kk); have HKK := Lib.hid (HKW.out.trans kk)
  have HBM := Lib.hid hbk
  have HWB := Lib.hid (show W.heap.size ≤ bm from Nat.le_trans HKW.out.size hbm)
  clear hsl kk hbk hbm HGC HKW HBO
  have z2 : wc.cell? ⟨bm, 2, none⟩ = some (.int .i64 x.m.dest) := HBM.out.cell 2
  have f2 := HBM.out.frozen 2
  go_upto_region 11 with (fail)
  clear z2 f2
  have hb9 := HBM.out.set_ 2 (.int .i64 8)
  rw [toM_cells] at hb9
  have k9 : Kp (One bm) wc (wc.setCell ⟨bm, 2, none⟩ (.int .i64 8)) := (Kp.refl _ _).set (.inl (One.self _)) _ _
  generalize wc.setCell ⟨bm, 2, none⟩ (.int .i64 8) = w9 at *
  have HG9 := Lib.hid (HGK.out.kp k9 fun q _ hq e => by
    obtain ⟨t, cs, hq, ht⟩ := hq
    have e : q = bm := e
    rcases ht with rfl | rfl | rfl | rfl <;> exact hq.ne_ HBM.out (by decide) e)
  have HS9 := Lib.hid (HSL8.out.kp k9 fun q cs hq e => hq.ne_ HBM.out (by decide) e)
  have HK9 := Lib.hid (HKK.out.then_ k9 fun i hi e => by have e : i = bm := e; have := HWB.out; omega)
  have HB9 := Lib.hid hb9
  clear k9 HGK HKK HSL8 HBM hb9
  -- was
  have ph := high_any gb db 8 gg _ w9 HG9.out.gt HG9.out.high
  go_wp2_with fail
  refine ph.mono ?_
  rintro e wv ⟨sw, rfl, ow, kw⟩
  obtain ⟨Aw, cw, rfl, _⟩ := own_len ow
  have HGV := Lib.hid (HG9.out.no kw); have HSV := Lib.hid (HS9.out.no kw); have HBV := Lib.hid (HB9.out.no kw); have HKV := Lib.hid (HK9.out.trans kw); have HWV := Lib.hid ow
  clear ph ow kw HG9 HS9 HB9 HK9
  obtain ⟨CM, hCM⟩ : ∃ C, C = mcells (toM x.m) (.slice A' x.m.stamp.length c') := ⟨_, rfl⟩
  have HiM : Hid ((Tryz.prog.info? 38).map (·.size) = some CM.length) := Lib.hid (by rw [hCM]; kernel_rfl)
  have HRM9 := Lib.hid (show wv.rangeAt bm 0 CM from by rw [hCM]; exact range_of HBV.out)
  have HSTL := Lib.hid (show x.m.stamp.length ≤ 17592186043904 from HOK.out.1.2.2.2.1)
  have po : Calls Tryz.prog 14 #[.agg CM.toArray] wv (fun e w' => ∃ A1 c1, e = .returned (.agg #[.int .i64 x.m.kind, .int .i64 x.m.from_, .int .i64 8, .int .i64 x.m.boot, .int .i64 x.m.seq, .int .i64 x.m.low, .int .i64 x.m.verb, .string ⟨x.m.path.toArray⟩, .int .i64 x.m.mode, .int .i64 x.m.term, .int .i64 x.m.id, .bool x.m.fresh, .int .i64 x.m.code, .slice A1 x.m.stamp.length c1, .int .i64 x.m.origin, .int .i64 x.m.number]) ∧ w'.ownsRow wv.heap.size 3 1 (.slice A1 x.m.stamp.length c1) x.m.stamp.length (ints x.m.stamp) ∧ Kp No wv w') := by
    rw [hCM]
    refine (own_any (toM x.m) (.slice A' x.m.stamp.length c') wv HSV.out.arg (by have := HSTL.out; show x.m.stamp.length ≤ _; omega)).mono ?_
    rintro e w' ⟨sv, rfl, ho, hk⟩
    obtain ⟨A1, c1, rfl, _⟩ := own_len ho
    exact ⟨A1, c1, rfl, ho, hk⟩
  clear hCM
  go_wp2_with (with_reducible refine wpList_load_mid rfl _ _ rfl bm 0 rfl CM _ HRM9.out HUH.out rfl HiM.out ?_)
  refine po.mono ?_
  rintro e w10 ⟨A10, c10, rfl, o10, k10⟩
  have HG10 := Lib.hid (HGV.out.no k10); have HW10 := Lib.hid (own_kp HWV.out k10 fun _ _ m => m); have HK10 := Lib.hid (HKV.out.trans k10); have HB10 := Lib.hid (HBV.out.no k10); have HS10 := Lib.hid (HSV.out.no k10)
  have ph := handle_gs B gb db sb 2 8 gg d (toM x.m) A10 c10 w10 HG10.out (own_slI o10) (toM_rng HOK.out.1.2.1) HOK.out.1.2.2.1 (by have := HWR.out; have := HLN.out; omega)
  obtain ⟨rs1, rs2, _, rs4⟩ := rises_step 8 gg d (toM x.m) [] HDD.out (cmp_nil _)
  have wr1 := handleG_wr 8 gg d (toM x.m)
  obtain ⟨g2, d2, z2, hE⟩ : ∃ a b c, handleG 8 gg d (toM x.m) = (a, b, c) := ⟨_, _, _, rfl⟩
  unfold HandS at ph
  rw [hE] at ph rs1 rs2 rs4 wr1
  have DEAD := Lib.hid (show g2.dead = true → d2.off = true from rs1)
  have RS2 := Lib.hid (show z2 = 0 → 0 ≤ cmpS x.m.stamp [] ∧ cmpS g2.high x.m.stamp = 0 from rs2)
  have RS4 := Lib.hid (show z2 ≠ 0 → g2.high = gg.high from rs4)
  have WR := Lib.hid (show d2.wr ≤ ((k + 1 : Nat) : Int) from by have h := HWR.out; have wr1 : d2.wr ≤ d.wr + 1 := wr1; omega)
  clear hE rs1 rs2 rs4 wr1 po o10 k10 HGV HSV HBV HKV HWV HRM9
  go_wp2_with fail
  refine ph.mono ?_
  rintro e wh ⟨rfl, gh, kh⟩
  have HGH := Lib.hid (show GS wh B gb db sb 2 8 g2 d2 from gh)
  have HWH := Lib.hid (own_kp HW10.out kh fun q e => GS.apart HG10.out HW10.out e)
  have HKH := Lib.hid (GM.old HG10.out HBW.out HK10.out kh)
  have HBH := Lib.hid (HB10.out.kp kh (GS.msg HG10.out HB10.out))
  have HSH := Lib.hid (HS10.out.kp kh fun q cs hq => GS.ints HG10.out hq)
  have HHG := Lib.hid HG10.out.high
  clear ph gh kh HG10 HW10 HK10 HB10 HS10 HDD HWR
  -- the copy of the disk
  have pim := image_any db sb 2 wh d2.L d2.wr d2.ar d2.lf d2.off HGH.out.dk.1
  go_wp2_with fail
  refine pim.mono ?_
  rintro e wi ⟨vi, rfl, hro, ki⟩
  have pfr := from_any vi d2.L wi hro.arg (by rw [HGH.out.inv.two]; omega) (by rw [HGH.out.inv.two]; omega)
  have HGI := Lib.hid (HGH.out.no ki); have HWI := Lib.hid (own_kp HWH.out ki fun _ _ m => m); have HKI := Lib.hid (HKH.out.trans ki); have HBI := Lib.hid (HBH.out.no ki); have HSI := Lib.hid (HSH.out.no ki)
  obtain ⟨Ai, ci, xsi, rfl, _⟩ := hro.arg
  clear pim hro ki HGH HWH HKH HBH HSH
  go_wp2_with fail
  refine pfr.mono ?_
  rintro e wf ⟨kf, _, hok⟩
  obtain ⟨cb, csb, ccap, rfl, _, _, hcd⟩ := hok HGI.out.inv.len
  have HGF := Lib.hid (HGI.out.no kf); have HWF := Lib.hid (own_kp HWI.out kf fun _ _ m => m); have HKF := Lib.hid (HKI.out.trans kf); have HBF := Lib.hid (HBI.out.no kf); have HSF := Lib.hid (HSI.out.no kf)
  have pst := start_any 8 cb csb ccap d2.L 0 false 0 wf hcd.1 (by omega) (by omega) (by rw [HGI.out.inv.two]; omega)
  unfold StartR at pst
  rw [HGI.out.inv.at_] at pst
  clear pfr kf hok hcd HGI HWI HKI HBI HSI
  go_wp2_with fail
  refine pst.mono ?_
  rintro e ws ⟨hb, rfl, _, hgt, ks⟩
  have HGS := Lib.hid (HGF.out.no ks); have HWS := Lib.hid (own_kp HWF.out ks fun _ _ m => m); have HKS := Lib.hid (HKF.out.trans ks); have HBS := Lib.hid (HBF.out.no ks); have HSS := Lib.hid (HSF.out.no ks)
  have HH := Lib.hid hgt
  clear pst ks hgt HGF HWF HKF HBF HSF
  have ph := high_any hb cb 8 ⟨g2.high, g2.seq, false⟩ _ ws HH.out HGS.out.high
  go_wp2_with fail
  refine ph.mono ?_
  rintro e wt ⟨sv, rfl, ot, kt⟩
  obtain ⟨At, ct, rfl, _⟩ := own_len ot
  have HGT := Lib.hid (HGS.out.no kt); have HWT := Lib.hid (own_kp HWS.out kt fun _ _ m => m); have HKT := Lib.hid (HKS.out.trans kt); have HBT := Lib.hid (HBS.out.no kt); have HST := Lib.hid (HSS.out.no kt)
  have HHT := Lib.hid (HH.out.no kt); have HOT := Lib.hid ot
  clear ph ot kt HGS HWS HKS HBS HSS HH
  have z13 : wt.cell? ⟨bm, 13, none⟩ = some (.slice A' x.m.stamp.length c') := HBT.out.cell 13
  by_cases q0 : z2 = 0
  · subst q0
    have RS := Lib.hid (RS2.out rfl)
    have pc := compareS_any (.slice At g2.high.length ct) (.slice A' x.m.stamp.length c') g2.high x.m.stamp wt (own_argI HOT.out) HST.out.arg (by have := HGT.out.high; unfold maxLen; omega) (by have := HSTL.out; unfold maxLen; omega)
    rw [RS.out.2] at pc
    go_wp2_with fail
    refine pc.mono ?_
    rintro e wu ⟨rfl, ku⟩
    have HGU := Lib.hid (HGT.out.no ku); have HKU := Lib.hid (HKT.out.trans ku); have HHU := Lib.hid (HHT.out.no ku)
    clear pc ku z13 HGT HKT HBT HST HHT HOT HWT
    have pc1 := count_any hb cb 8 ⟨g2.high, g2.seq, false⟩ _ wu HHU.out
    go_wp2_with fail
    refine pc1.mono ?_
    rintro e w' ⟨rfl, rfl⟩
    clear pc1
    have pc2 := count_any gb db 8 g2 _ wu HGU.out.gt
    go_wp2_with fail
    refine pc2.mono ?_
    rintro e w' ⟨rfl, rfl⟩
    clear pc2
    have pf := off_gs B gb db sb 2 8 g2 d2 wu HGU.out
    cases hoff : d2.off with
    | false =>
      rw [hoff] at pf
      have HN := Lib.hid (show KeepsI W B db sb (k + 1) wu (.pointer (some ⟨gb, 0, none⟩)) from ⟨gb, g2, d2, rfl, HGU.out, DEAD.out, WR.out, HKU.out⟩)
      clear hoff
      go_wp2_with fail
      refine pf.mono ?_
      rintro e w' ⟨rfl, rfl⟩
      clear pf
      go_wp2
      go_roundw
      case rel => exact ⟨k + 1, by omega, by go_num, HN.out⟩
      case measure => simp [intOf]; omega
    | true =>
      rw [hoff] at pf
      clear hoff
      go_wp2_with fail
      refine pf.mono ?_
      rintro e w' ⟨rfl, rfl⟩
      clear pf
      have pa := on_gs B gb db sb 2 8 g2 d2 wu HGU.out
      go_wp2_with fail
      refine pa.mono ?_
      rintro e y1 ⟨rfl, gy, ky⟩
      have HGY := Lib.hid gy; have HKY := Lib.hid (GM.old HGU.out HBW.out HKU.out ky)
      clear pa gy ky
      have ps := start_gs B gb db sb 2 8 g2 { d2 with off := false } y1 HGY.out (by omega) (by omega) rfl
      go_wp2_with fail
      refine ps.mono ?_
      rintro e y2 ⟨gb2, rfl, _, gz, kz⟩
      have HN := Lib.hid (show KeepsI W B db sb (k + 1) y2 (.pointer (some ⟨gb2, 0, none⟩)) from ⟨gb2, _, _, rfl, gz, (fun e => by cases e), by have := WR.out; show d2.wr ≤ _; omega, HKY.out.trans kz⟩)
      clear ps gz kz
      go_wp2
      go_roundw
      case rel => exact ⟨k + 1, by omega, by go_num, HN.out⟩
      case measure => simp [intOf]; omega
  · have q0b : (z2 == 0) = false := by rw [beq_eq_false_iff_ne]; exact q0
    have q0c : (z2 != 0) = true := by rw [bne_iff_ne]; exact q0
    have HHE := Lib.hid (RS4.out q0)
    have hh4 := HHG.out
    have pc := compareS_any (.slice At g2.high.length ct) (.slice Aw gg.high.length cw) g2.high gg.high wt (own_argI HOT.out) (own_argI HWT.out) (by have := HGT.out.high; unfold maxLen; omega) (by unfold maxLen; omega)
    rw [show cmpS g2.high gg.high = 0 from by rw [HHE.out]; exact cmpS_self _] at pc
    clear q0 hh4
    go_wp2_with fail
    refine pc.mono ?_
    rintro e wu ⟨rfl, ku⟩
    have HGU := Lib.hid (HGT.out.no ku); have HKU := Lib.hid (HKT.out.trans ku); have HHU := Lib.hid (HHT.out.no ku)
    clear pc ku z13 HGT HKT HBT HST HHT HOT HWT
    have pc1 := count_any hb cb 8 ⟨g2.high, g2.seq, false⟩ _ wu HHU.out
    go_wp2_with fail
    refine pc1.mono ?_
    rintro e w' ⟨rfl, rfl⟩
    clear pc1
    have pc2 := count_any gb db 8 g2 _ wu HGU.out.gt
    go_wp2_with fail
    refine pc2.mono ?_
    rintro e w' ⟨rfl, rfl⟩
    clear pc2
    have pf := off_gs B gb db sb 2 8 g2 d2 wu HGU.out
    cases hoff : d2.off with
    | false =>
      rw [hoff] at pf
      have HN := Lib.hid (show KeepsI W B db sb (k + 1) wu (.pointer (some ⟨gb, 0, none⟩)) from ⟨gb, g2, d2, rfl, HGU.out, DEAD.out, WR.out, HKU.out⟩)
      clear hoff
      go_wp2_with fail
      refine pf.mono ?_
      rintro e w' ⟨rfl, rfl⟩
      clear pf
      go_wp2
      go_roundw
      case rel => exact ⟨k + 1, by omega, by go_num, HN.out⟩
      case measure => simp [intOf]; omega
    | true =>
      rw [hoff] at pf
      clear hoff
      go_wp2_with fail
      refine pf.mono ?_
      rintro e w' ⟨rfl, rfl⟩
      clear pf
      have pa := on_gs B gb db sb 2 8 g2 d2 wu HGU.out
      go_wp2_with fail
      refine pa.mono ?_
      rintro e y1 ⟨rfl, gy, ky⟩
      have HGY := Lib.hid gy; have HKY := Lib.hid (GM.old HGU.out HBW.out HKU.out ky)
      clear pa gy ky
      have ps := start_gs B gb db sb 2 8 g2 { d2 with off := false } y1 HGY.out (by omega) (by omega) rfl
      go_wp2_with fail
      refine ps.mono ?_
      rintro e y2 ⟨gb2, rfl, _, gz, kz⟩
      have HN := Lib.hid (show KeepsI W B db sb (k + 1) y2 (.pointer (some ⟨gb2, 0, none⟩)) from ⟨gb2, _, _, rfl, gz, (fun e => by cases e), by have := WR.out; show d2.wr ≤ _; omega, HKY.out.trans kz⟩)
      clear ps gz kz
      go_wp2
      go_roundw
      case rel => exact ⟨k + 1, by omega, by go_num, HN.out⟩
      case measure => simp [intOf]; omega

end Go.Proofs.YtlgbmkdeamgpkaaGreatDoor.gateKeeps

/- GateKeeps returns true for every script: whatever a gate has let by is on its disk, whatever fails. No condition. -/
namespace Go.Proofs.YtlgbmkdeamgpkaaGreatDoor.gateKeeps
open Go.ChangeShapes Go.WideShapes Go.ChangeAt Go.RowKit Go.PlainAid
open Go.ChangeMaps (open_string shut_string)

theorem own : ownKnob Tryz.prog.godebug = none := by kernel_rfl
theorem laidOut : laidOutB Tryz.prog = true := by kernel_rfl

set_option maxRecDepth 100000 in
theorem lifted (os : Os) (started : os.Started) (H : Type) (enc : TypeId × Value → H) :
    ReturnsInHanded {} Tryz.checked os 9 .any (fun w args => (Rows.gateKeepsSpec.pre enc Tryz.prog Tryz.f9 Rows.gateKeepsRow.domain false w args ∧ laidMetH Tryz.prog [("unicode/utf8.acceptRanges", Rows.laid_unicode_utf8_acceptRanges), ("unicode/utf8.first", Rows.laid_unicode_utf8_first)] w) ∧ sizedMet enc Tryz.prog Tryz.f9 (OpenSpec.ofChange Rows.gateKeepsSpec) false w args)
      (Rows.gateKeepsSpec.post enc Tryz.prog Tryz.f9 false true false false) := by
  refine returnsInHanded_and_shaped (C := Tryz.checked) (X := (fun w _ => laidMetH Tryz.prog [("unicode/utf8.acceptRanges", Rows.laid_unicode_utf8_acceptRanges), ("unicode/utf8.first", Rows.laid_unicode_utf8_first)] w)) (fun _ _ _ hh h => h.of_heap hh) own started (by kernel_rfl) Tryz.func9
    (ChangeSpec.witness_shaped (enc := enc) (C := Tryz.checked) (os := os) (X := (fun w _ => laidMetH Tryz.prog [("unicode/utf8.acceptRanges", Rows.laid_unicode_utf8_acceptRanges), ("unicode/utf8.first", Rows.laid_unicode_utf8_first)] w)) false (World.laidAll Tryz.prog os [("unicode/utf8.acceptRanges", Rows.laid_unicode_utf8_acceptRanges), ("unicode/utf8.first", Rows.laid_unicode_utf8_first)]) #[.slice none 0 0] 8 (World.laidAll_os _ _ _)
      (World.shaped_of_ZipB (by kernel_rfl) (by kernel_rfl)) (by kernel_rfl) (by kernel_rfl) (by kernel_rfl)
      (by rw [MakeChecks.laidMetH_plain _ _ _ (by kernel_rfl)]; exact laidMet_laidAll _ (by kernel_rfl) (by kernel_rfl))) ?_
  intro W base args ds gs before hval0 hW hcnd hsz0 hL hsh _
  have hval : ∀ (j : Nat) t v, Tryz.f9.params[j]? = some t → args[j]? = some v → Value.okWide Tryz.prog W .any base t v := hval0
  have hW' := hW
  obtain ⟨p, q, hA0, hV, rfl, hfz, hnd⟩ := hW
  have hA : DataW.TrodAll enc Tryz.prog W 0 (fun _ => true) true Tryz.f9.params.toList args.toList ds p := hA0
  rw [Tryz.params9] at hA hval
  obtain ⟨v0, vs0, d0, ds0, p0, q0, hargs, rfl, rfl, h0, r0⟩ := trodAll_cons hA
  obtain ⟨rfl, rfl, rfl⟩ := trodAll_nil r0
  obtain rfl : args = #[v0] := by cases args; simp_all
  obtain ⟨rfl, rfl⟩ := trodVars_none hV
  have hsz : ∀ (j : Nat) (t : TypeId) (d : DataW H), ([30] : List TypeId)[j]? = some t → [d0][j]? = some d → ∀ n ∈ d.weights Tryz.prog t, n ≤ reachBytes := by
    intro j t d ht hd n hn
    have hsz1 : (DataW.weightsEach Tryz.prog ([30] : List TypeId) [d0]).all (· ≤ reachBytes) = true := hsz0
    have := List.all_eq_true.1 hsz1 n (DataW.weights_mem_each ht hd n hn)
    simpa using this
  have k0 := h0
  have lt0 : ∀ x ∈ p0, x.block < W.heap.size := by obtain ⟨m, hm⟩ := k0; exact DataW.trod_lt m _ _ _ hm
  obtain ⟨l0, hl0, hs0⟩ := open_ops (hval 0 30 v0 rfl rfl) h0 (hsz 0 30 d0 rfl rfl)
  refine (walk v0 l0 W hl0 hs0).mono fun e W' ⟨he, bel⟩ => ?_
  subst he
  exact ⟨_, rfl, _, _, _, [], _, [], hW', trodAll_mk1 (shut_bool Tryz.underlying4 _), (trodAll_cons_mk (Below.trod laidOut (by kernel_rfl) (of_decide_eq_true (by kernel_rfl)) k0 bel lt0) trodAll_mk0), rfl, bel.frame _, fun h => by cases h⟩

theorem over : Rows.gateKeepsRow.holds Tryz.pinned (OpenSpec.ofChange Rows.gateKeepsSpec) :=
  OpenClaim.holds_of_wide 9 Tryz.f9 rfl rfl rfl rfl rfl rfl rfl ⟨rfl, rfl, rfl, rfl, rfl⟩ rfl rfl rfl rfl rfl (by kernel_rfl) Tryz.func9 (by kernel_rfl)
    (of_decide_eq_true (by kernel_rfl)) (by unfold Func.isWrapper; first | (rw [if_pos (by decide +kernel)]; kernel_rfl) | (rw [if_neg (by decide +kernel)]; exact ⟨rfl, rfl⟩))
    (fun os started H enc _ => lifted os started H enc)

theorem proved : Rows.GateKeepsCardSaid :=
  Claim7.holds_tied_plain_at .later [] [.data, .pinned] true (true, "36de4b0e266865fa76cef0376ca197fae2bbf455f528766fd1e4f577ed6d676b") false over (fun _ h => by cases h) (by kernel_rfl) (fun _ h => by cases h) gateKeeps_row_tie rfl ⟨rfl, rfl⟩ (by kernel_rfl) rfl
    (fun f fn hf hfn => by
      obtain rfl : f = 9 := Option.some.inj ((show Tryz.prog.funcNamed "sublet/subletlaw19.GateKeeps" = some 9 by kernel_rfl).symm.trans hf) |>.symm
      obtain rfl : fn = Tryz.f9 := (Option.some.inj (Tryz.func9.symm.trans hfn)).symm
      exact ⟨by kernel_rfl, fun j t ht => by
        rw [Tryz.params9] at ht
        have hm : t ∈ ([30] : List TypeId) := by simpa using Array.mem_of_getElem? ht
        have hall : (([30] : List TypeId).all fun u => !Tryz.prog.wantsStandIn u) = true := by kernel_rfl
        exact (show Tryz.prog.wantsStandIn t = false by simpa using List.all_eq_true.1 hall t hm)⟩)
    (by kernel_rfl)
#print axioms proved
end Go.Proofs.YtlgbmkdeamgpkaaGreatDoor.gateKeeps
