/- Several texts of this claim in one. No condition beyond what each theorem states. -/
import Derived.Test.YtlgbmkdeamgpkaaGreatDoorG10
import Derived.Test.YtlgbmkdeamgpkaaGreatDoorTie
import Derived.Test.YtlgbmkdeamgpkaaGreatDoorCards
/- The walk of GateFair. No condition beyond what each theorem states. -/
namespace Go.Proofs.YtlgbmkdeamgpkaaGreatDoor.gateFair
open Go.ChangeShapes Go.WideShapes Go.ChangeAt Go.RowKit Go.PlainAid
open Go.ChangeMaps (open_string shut_string)
theorem own_again (w w' : World) (L : List Int) (h : w = w') (hs : ArgInts w (.slice none 0 0) L) : ArgInts w' (.slice none 0 0) L := by rw [← h]; exact hs
def FairI (W : World) (B gb db sb k : Nat) (w : World) : Prop := ∃ g d, GS w B gb db sb 2 8 g d ∧ d.ar = false ∧ d.off = false ∧ g.dead = false ∧ g.seq ≤ k ∧ d.wr ≤ (k : Int) ∧ Kp No W w
theorem FairI.kp {W w : World} {B gb db sb k : Nat} (h : FairI W B gb db sb k w) : Kp No W w := by
  obtain ⟨_, _, _, _, _, _, _, _, h⟩ := h; exact h
theorem FairI.no {W w w' : World} {B gb db sb k : Nat} (h : FairI W B gb db sb k w) (hk : Kp No w w') : FairI W B gb db sb k w' := by
  obtain ⟨g, d, h1, h2, h3, h4, h5, h6, h7⟩ := h; exact ⟨g, d, h1.no hk, h2, h3, h4, h5, h6, h7.trans hk⟩
theorem FairI.up {W w : World} {B gb db sb k k' : Nat} (h : FairI W B gb db sb k w) (hk : k ≤ k') : FairI W B gb db sb k' w := by
  obtain ⟨g, d, h1, h2, h3, h4, h5, h6, h7⟩ := h; exact ⟨g, d, h1, h2, h3, h4, by omega, by omega, h7⟩
set_option maxRecDepth 100000 in
set_option maxHeartbeats 16000000 in
theorem walk (v : Value) (l : List Opx) (pl : List UInt8) (u : Value) (S : List Int) (W : World) (hl : ArgOps W v l) (hln : l.length ≤ 17592186043904) (hb : pl.length ≤ 140737488351232) (ha : ArgInts W u S) (hS : S.length ≤ 17592186043904) (hz : ∀ n ∈ S, -9223372036854775808 ≤ n ∧ n ≤ 9223372036854775807) :
    Calls Tryz.prog 4 #[v, .string ⟨⟨pl⟩⟩, u] W fun e w' => e = .returned (.bool true) ∧ Below W.heap.size W w' := by
  obtain ⟨A, c, rfl, hc, hat⟩ := hl
  have HAT := Lib.hid hat; have HS := Lib.hid ha; have HZ := Lib.hid hz; have HSL := Lib.hid hS; have HPL := Lib.hid hb; have HLN := Lib.hid hln
  obtain ⟨AS, cS, rfl, _⟩ := ha
  clear hat hz hS hb hln
  go_enter Tryz.func4, Tryz.ntmps4
  go_wp2_with fail
  refine (awake_any _).mono ?_
  rintro e wa ⟨rfl, ka⟩
  go_wp2_with fail
  refine (begin_any _).mono ?_
  rintro e w0 ⟨gb, db, sb, rfl, h0, _, k0⟩
  have HBW := Lib.hid ka.size
  have HI := Lib.hid (show FairI W wa.heap.size gb db sb 0 w0 from ⟨{}, dsk0, h0, rfl, rfl, rfl, Nat.le_refl _, Int.le_refl _, ka.trans k0⟩)
  clear ka k0 h0
  generalize wa.heap.size = B at *
  go_upto_block 0 with (fail)
  go_cut [] (fun wx => FairI W B gb db sb 2001 wx)
  case first =>
    go_wp2
    go_loopw [24] (fun i wr => ∃ k : Nat, k ≤ l.length ∧ k ≤ 2001 ∧ i = .int .i64 k ∧ FairI W B gb db sb k wr) (fun i _ => l.length - (intOf i).toNat)
    case atStart => exact ⟨0, Nat.zero_le _, Nat.zero_le _, rfl, HI.out⟩
    case round =>
    obtain ⟨k, hk, hk2, rfl, hpl⟩ := hrel
    have HPI := Lib.hid hpl
    clear hpl HI
    by_cases hlt : k < l.length
    rotate_left
    · have hk1 : ¬ (k : Int) < (l.length : Int) := by omega
      go_wp2
      go_meet
      exact HPI.out.up hk2
    obtain ⟨g, o, rfl, hrow⟩ := HAT.out (fun e => by rw [e] at hlt; simp at hlt)
    obtain ⟨hok, hrg⟩ := hrow k hlt
    obtain ⟨x, hx⟩ : ∃ x, x = l[k] := ⟨_, rfl⟩
    rw [← hx] at hok hrg
    clear hx hrow
    obtain ⟨CX, hCX⟩ : ∃ C, C = opC x := ⟨_, rfl⟩
    have HRX := Lib.hid (show wr.rangeAt g (o + k * 18) CX from by rw [hCX]; exact range_kp hrg HPI.out.kp (fun m => m))
    have HCX := Lib.hid hCX
    have HCL := Lib.hid (show CX.length = 18 from by rw [hCX]; rfl)
    have HiX : Hid ((Tryz.prog.info? 40).map (·.size) = some CX.length) := Lib.hid (by rw [HCL.out]; kernel_rfl)
    have HiXA : Hid ((Tryz.prog.info? 40).map (·.size) = some CX.toArray.size) := Lib.hid (by rw [List.size_toArray, HCL.out]; kernel_rfl)
    have HX1 := Lib.hid (show CX.toArray.all (·.oneCell') = true from by rw [hCX]; exact op_one x)
    have HUO := Lib.hid (Tryz.underlying40); have HUH := Lib.hid (Tryz.underlying38)
    have HOK := Lib.hid hok
    have hk0 : (0 : Int) ≤ (k : Int) := by omega
    have hk1 : (k : Int) < (l.length : Int) := by omega
    clear hrg hCX hok
    obtain ⟨wo, hwo⟩ : ∃ wo : World, wo = wr := ⟨_, rfl⟩
    subst hwo
    have HTH := Lib.hid (op_there wo CX.toArray.size (by rw [List.size_toArray, HCL.out]))

    go_upto_region 6 with (fail)
    go_cut [9, 10] (fun i p wx => i = .int .i64 (k : Int) ∧ p = .pointer (some ⟨wo.heap.size, 0, none⟩) ∧ Bk wx wo.heap.size 40 CX ∧ Kp No wo wx)
    case first =>
      have g6 := Lib.hid (op_store wo CX HCL.out)
      go_wp2_with (first
        | (with_reducible refine wpList_load_mid rfl _ _ rfl g (o + k * 18) rfl CX _ HRX.out HUO.out rfl HiX.out ?_)
        | (with_reducible refine wpList_store_mid rfl _ _ _ rfl wo.heap.size 0 CX.toArray rfl rfl HTH.out HiXA.out HX1.out ?_))
      go_meet
      exact ⟨rfl, rfl, g6.out.1, g6.out.2⟩
    case rest =>
    obtain ⟨rfl, rfl, hbx, kx⟩ := hcut
    have HBO := Lib.hid (show Bk wc wo.heap.size 40 (opC x) from by rw [← HCX.out]; exact hbx)
    have HPC := Lib.hid (HPI.out.no kx)
    clear hbx kx HPI HRX HTH
    generalize wo.heap.size = bx at *
    by_cases h2 : k ≤ 2000
    rotate_left
    · have h2b : (2000 : Int) < (k : Int) := by omega
      go_wp2
      go_meet
      exact HPC.out.up hk2
    have h2b : ¬ (2000 : Int) < (k : Int) := by omega
    have HKW := Lib.hid HPC.out.kp
    obtain ⟨wk, hwk⟩ : ∃ wk : World, wk = wc := ⟨_, rfl⟩
    subst hwk
    go_upto_region 8 with (fail)
    go_cut [11] (fun p wx => ∃ bm A' c', p = .pointer (some ⟨bm, 0, none⟩) ∧ wk.heap.size ≤ bm ∧ Bk wx bm 38 (mcells x.m (.slice A' x.m.stamp.length c')) ∧ SlI wx (.slice A' x.m.stamp.length c') x.m.stamp ∧ Kp No wk wx)
    case first =>
      obtain ⟨CM, hCM⟩ : ∃ C, C = mcells x.m (.slice x.A x.m.stamp.length x.c) := ⟨_, rfl⟩
      have HiM : Hid ((Tryz.prog.info? 38).map (·.size) = some CM.length) := Lib.hid (by rw [hCM]; kernel_rfl)
      have HRM := Lib.hid (show wk.rangeAt bx 2 CM from by rw [hCM]; exact op_range HBO.out)
      have po := own_any x.m (.slice x.A x.m.stamp.length x.c) wk (HOK.out.1.1.no HKW.out) (by have := HOK.out.1.2.2.2.1; omega)
      rw [← hCM] at po
      clear hCM
      go_wp2_with (with_reducible refine wpList_load_mid rfl _ _ rfl bx 2 rfl CM _ HRM.out HUH.out rfl HiM.out ?_)
      refine po.mono ?_
      rintro e w8 ⟨sv, rfl, o8, k8⟩
      obtain ⟨A8, c8, rfl, _⟩ := own_len o8
      have HO8 := Lib.hid (own_slI o8); have HK8 := Lib.hid k8
      have HTM := Lib.hid (msg_there w8 x.m (.slice A8 x.m.stamp.length c8))
      have HIM := Lib.hid (msg_info x.m (.slice A8 x.m.stamp.length c8))
      have HOM := Lib.hid (msg_one x.m A8 x.m.stamp.length c8)
      have gm := Lib.hid (msg_store w8 x.m A8 x.m.stamp.length c8)
      obtain ⟨CN, hCN⟩ : ∃ C, C = mcells x.m (.slice A8 x.m.stamp.length c8) := ⟨_, rfl⟩
      rw [← hCN] at HTM HIM HOM gm ⊢
      have HCN := Lib.hid hCN
      clear o8 k8 po hCN
      go_wp2_with (with_reducible refine wpList_store_mid rfl _ _ _ rfl w8.heap.size 0 CN.toArray rfl rfl HTM.out HIM.out HOM.out ?_)
      go_meet
      exact ⟨w8.heap.size, A8, c8, rfl, HK8.out.size, by rw [← HCN.out]; exact gm.out.1, HO8.out.no gm.out.2, HK8.out.trans gm.out.2⟩
    case rest =>
    obtain ⟨bm, A', c', rfl, hbm, hbk, hsl, kk⟩ := hcut
    have HSL8 := Lib.hid hsl
    have HPK := Lib.hid (HPC.out.no kk)
    have HBM := Lib.hid hbk
    have HWB := Lib.hid (show W.heap.size ≤ bm from Nat.le_trans HKW.out.size hbm)
    clear hsl kk hbk hbm HPC HKW HBO
    have z2 : wc.cell? ⟨bm, 2, none⟩ = some (.int .i64 x.m.dest) := HBM.out.cell 2
    have f2 := HBM.out.frozen 2
    go_upto_region 10 with (fail)
    clear z2 f2
    have hb9 := HBM.out.set_ 2 (.int .i64 8)
    rw [toM_cells] at hb9
    have k9 : Kp (One bm) wc (wc.setCell ⟨bm, 2, none⟩ (.int .i64 8)) := (Kp.refl _ _).set (.inl (One.self _)) _ _
    generalize wc.setCell ⟨bm, 2, none⟩ (.int .i64 8) = w9 at *
    obtain ⟨gg, d, hg, ha1, ho1, hd1, hq1, hw1, hkk⟩ := HPK.out
    have HG9 := Lib.hid (hg.kp k9 fun q _ hq e => by
      obtain ⟨t, cs, hq, ht⟩ := hq
      have e : q = bm := e
      rcases ht with rfl | rfl | rfl | rfl <;> exact hq.ne_ HBM.out (by decide) e)
    have HS9 := Lib.hid (HSL8.out.kp k9 fun q cs hq e => hq.ne_ HBM.out (by decide) e)
    have HK9 := Lib.hid (hkk.then_ k9 fun i hi e => by have e : i = bm := e; have := HWB.out; omega)
    have HF := Lib.hid (And.intro ha1 (And.intro ho1 (And.intro hd1 (And.intro hq1 hw1))))
    clear hg ha1 ho1 hd1 hq1 hw1 hkk k9 HPK HSL8 HBM
    obtain ⟨CM, hCM⟩ : ∃ C, C = mcells (toM x.m) (.slice A' x.m.stamp.length c') := ⟨_, rfl⟩
    have HiM : Hid ((Tryz.prog.info? 38).map (·.size) = some CM.length) := Lib.hid (by rw [hCM]; kernel_rfl)
    have HRM := Lib.hid (show w9.rangeAt bm 0 CM from by rw [hCM]; exact range_of hb9)
    have ph := handle_gs B gb db sb 2 8 gg d (toM x.m) A' c' w9 HG9.out HS9.out (toM_rng HOK.out.1.2.1) HOK.out.1.2.2.1 (by have := HF.out.2.2.2.2; omega)
    have ph : Calls Tryz.prog 15 #[.pointer (some ⟨gb, 0, none⟩), .agg CM.toArray] w9 (HandS w9 B gb db sb 2 8 gg d (toM x.m)) := by rw [hCM]; exact ph
    clear hCM hb9
    go_wp2_with (with_reducible refine wpList_load_mid rfl _ _ rfl bm 0 rfl CM _ HRM.out HUH.out rfl HiM.out ?_)
    refine ph.mono ?_
    rintro e w10 ⟨rfl, g10, k10⟩
    have HN := Lib.hid (show FairI W B gb db sb (k + 1) w10 from by
      obtain ⟨f1, f2, f3, f4, f5⟩ := HF.out
      obtain ⟨e1, e2, e3, e4⟩ := fair_step 8 gg d (toM x.m) f1 f2 f3
      have e5 := handleG_wr 8 gg d (toM x.m)
      exact ⟨_, _, g10, e1, e2, e3, by omega, by omega, GM.old HG9.out HBW.out HK9.out k10⟩)
    clear ph g10 k10 HRM
    go_wp2
    go_roundw
    case rel => exact ⟨k + 1, by omega, by omega, by go_num, HN.out⟩
    case measure => simp [intOf]; omega
  case rest =>
  obtain ⟨gg, d, hg, ha1, ho1, hd1, hq1, hw1, hkk⟩ := hcut
  have HG := Lib.hid hg; have HF := Lib.hid (And.intro ha1 (And.intro ho1 (And.intro hd1 (And.intro hq1 hw1)))); have HK := Lib.hid hkk
  clear hg ha1 ho1 hd1 hq1 hw1 hkk HI HAT
  have pv := valid_any ⟨⟨pl⟩⟩ wc (by have := HPL.out; unfold maxLen; show pl.length ≤ _; omega)
  rw [show (path (⟨⟨pl⟩⟩ : ByteArray).data.toList).isSome = vpP pl from rfl] at pv
  cases hp : vpP pl with
  | false =>
    rw [hp] at pv
    clear hp
    go_wp2_with fail
    refine pv.mono ?_
    rintro e w' ⟨rfl, rfl⟩
    clear pv
    go_wp2
    go_ret
    exact ⟨rfl, HK.out.below (Nat.le_refl _) fun _ _ m => m⟩
  | true =>
  rw [hp] at pv
  have HP := Lib.hid hp
  clear hp
  go_wp2_with fail
  refine pv.mono ?_
  rintro e w' ⟨rfl, rfl⟩
  clear pv
  have hS1 := HSL.out
  go_wp2_with (at_builtin; refine copy_g (by rfl) _ _ rfl rfl AS S cS rfl (HS.out.no HK.out) (by omega) ?_; intro A1 c1 w1 o1 k1; have HO1 := Lib.hid o1; have HK1 := Lib.hid (HK.out.trans k1); have HG1 := Lib.hid (HG.out.no k1); clear o1 k1)
  clear HG HK
  have pv := validS_any (.slice A1 S.length c1) S w1 (own_argI HO1.out) (by unfold maxLen; omega)
  cases hv : validS S with
  | false =>
    rw [hv] at pv
    clear hv
    refine pv.mono ?_
    rintro e w2 ⟨rfl, rfl⟩
    clear pv
    go_wp2
    go_ret
    exact ⟨rfl, HK1.out.below (Nat.le_refl _) fun _ _ m => m⟩
  | true =>
  rw [hv] at pv
  have HV := Lib.hid hv
  clear hv
  refine pv.mono ?_
  rintro e w2 ⟨rfl, rfl⟩
  clear pv HO1
  have hh4 := HG1.out.high
  have ph := high_any gb db 8 gg _ w1 HG1.out.gt hh4
  go_wp2_with fail
  refine ph.mono ?_
  rintro e w3 ⟨sw, rfl, o3, k3⟩
  obtain ⟨A3, c3, rfl, _⟩ := own_len o3
  have HW3 := Lib.hid o3; have HG3 := Lib.hid (HG1.out.no k3); have HK3 := Lib.hid (HK1.out.trans k3)
  clear ph o3 k3 HG1 HK1
  have pw := writes_any db w3 _ _ _ _ _ HG3.out.dk.1.st
  go_wp2_with fail
  refine pw.mono ?_
  rintro e w' ⟨rfl, rfl⟩
  clear pw
  -- the two copies, one behind the other
  go_wp2_with (first
    | (at_builtin; refine copy_g (w0 := w3) (by rfl) _ _ rfl rfl AS S cS rfl (HS.out.no HK3.out) (by omega) ?_; intro A4 c4 w4 o4 k4; have HO4 := Lib.hid o4; have HW4 := Lib.hid (own_kp HW3.out k4 fun _ _ m => m); have HG4 := Lib.hid (HG3.out.no k4); have HK4 := Lib.hid (HK3.out.trans k4); clear o4 k4)
    | (at_builtin; refine copy_g (w0 := w4) (by rfl) _ _ rfl rfl A3 gg.high c3 rfl (own_argI HW4.out) (by omega) ?_; intro A5 c5 w5 o5 k5; have HO5 := Lib.hid o5; have HO4b := Lib.hid (own_kp HO4.out k5 fun _ _ m => m); have HW5 := Lib.hid (own_kp HW4.out k5 fun _ _ m => m); have HG5 := Lib.hid (HG4.out.no k5); have HK5 := Lib.hid (HK4.out.trans k5); clear o5 k5))
  have pc := compareS_any (.slice A4 S.length c4) (.slice A5 gg.high.length c5) S gg.high w5 (own_argI HO4b.out) (own_argI HO5.out) (by unfold maxLen; omega) (by unfold maxLen; omega)
  clear HW3 HG3 HK3 HW4 HG4 HK4
  refine pc.mono ?_
  rintro e w6 ⟨rfl, k6⟩
  have HW6 := Lib.hid (own_kp HW5.out k6 fun _ _ m => m); have HG6 := Lib.hid (HG5.out.no k6); have HK6 := Lib.hid (HK5.out.trans k6)
  clear pc k6 HO4 HO4b HO5 HW5 HG5 HK5
  go_wp2_with (at_builtin; refine copy_g (w0 := w6) (by rfl) _ _ rfl rfl AS S cS rfl (HS.out.no HK6.out) (by omega) ?_; intro A7 c7 w7 o7 k7; have HO7 := Lib.hid o7; have HW7 := Lib.hid (own_kp HW6.out k7 fun _ _ m => m); have HG7 := Lib.hid (HG6.out.no k7); have HK7 := Lib.hid (HK6.out.trans k7); clear o7 k7)
  refine (op_any pl S A7 c7 w7).mono ?_
  rintro e w8 ⟨rfl, k8⟩
  have HO8 := Lib.hid (own_slI (own_kp HO7.out k8 fun _ _ m => m)); have HW8 := Lib.hid (own_kp HW7.out k8 fun _ _ m => m); have HG8 := Lib.hid (HG7.out.no k8); have HK8 := Lib.hid (HK7.out.trans k8)
  clear k8 HW6 HG6 HK6 HO7 HW7 HG7 HK7
  have ph := handle_gs B gb db sb 2 8 gg d (opM pl S) A7 c7 w8 HG8.out HO8.out (opM_rng fun y hy => by have := (HZ.out y hy).2; omega) ⟨by show pl.length ≤ maxLen; have := HPL.out; unfold maxLen; omega, by show S.length ≤ maxLen; unfold maxLen; omega⟩ (by have := HF.out.2.2.2.2; omega)
  obtain ⟨fe1, fe2, fe3⟩ := fair_end HP.out HV.out HF.out.1 HF.out.2.1 HF.out.2.2.1 (by have := HF.out.2.2.2.1; omega)
  have FE1 := Lib.hid fe1; have FE2 := Lib.hid fe2; have FE3 := Lib.hid fe3
  clear fe1 fe2 fe3
  obtain ⟨cc, hcc⟩ : ∃ cc, cc = cmpS S gg.high := ⟨_, rfl⟩
  rw [← hcc] at FE1 FE2 FE3 ⊢
  clear hcc
  unfold HandS at ph
  by_cases q1 : cc < 0
  · have e1 := FE1.out q1
    rw [e1] at ph
    clear e1
    go_wp2_with fail
    refine ph.mono ?_
    rintro e w9 ⟨rfl, g9, k9⟩
    have HG9 := Lib.hid g9; have HK9 := Lib.hid (GM.old HG8.out HBW.out HK8.out k9)
    have HW9 := Lib.hid (own_kp HW8.out k9 fun q e => GS.apart HG8.out HW8.out e)
    clear ph g9 k9 HG8 HK8 HW8 HO8
    have pw := writes_any db w9 _ _ _ _ _ HG9.out.dk.1.st
    go_wp2_with fail
    refine pw.mono ?_
    rintro e w' ⟨rfl, rfl⟩
    clear pw
    have ph := high_any gb db 8 gg _ w9 HG9.out.gt hh4
    go_wp2_with fail
    refine ph.mono ?_
    rintro e w10 ⟨sv, rfl, o10, k10⟩
    obtain ⟨A10, c10, rfl, _⟩ := own_len o10
    have pc := compareS_any (.slice A10 gg.high.length c10) (.slice A3 gg.high.length c3) gg.high gg.high w10 (own_argI o10) (own_argI (own_kp HW9.out k10 fun _ _ m => m)) (by unfold maxLen; omega) (by unfold maxLen; omega)
    rw [cmpS_self] at pc
    have HK10 := Lib.hid (HK9.out.trans k10)
    clear ph o10 k10
    go_wp2_with fail
    refine pc.mono ?_
    rintro e w11 ⟨rfl, k11⟩
    have HK11 := Lib.hid (HK10.out.trans k11)
    clear pc k11
    go_wp2
    go_ret
    exact ⟨rfl, HK11.out.below (Nat.le_refl _) fun _ _ m => m⟩
  · by_cases q2 : cc = 0
    · have e1 := FE2.out q2
      have q2b : (cc == 0) = true := by rw [q2]; rfl
      rw [e1] at ph
      clear e1
      go_wp2_with fail
      refine ph.mono ?_
      rintro e w9 ⟨rfl, g9, k9⟩
      have HG9 := Lib.hid g9; have HK9 := Lib.hid (GM.old HG8.out HBW.out HK8.out k9)
      clear ph g9 k9 HG8 HK8 HW8 HO8
      have pw := writes_any db w9 _ _ _ _ _ HG9.out.dk.1.st
      go_wp2_with fail
      refine pw.mono ?_
      rintro e w' ⟨rfl, rfl⟩
      clear pw
      go_wp2
      go_ret
      exact ⟨rfl, HK9.out.below (Nat.le_refl _) fun _ _ m => m⟩
    · have q2b : (cc == 0) = false := by rw [beq_eq_false_iff_ne]; exact q2
      obtain ⟨e1, e2, e3⟩ := FE3.out (by omega)
      obtain ⟨g2, d2, z2, hE⟩ : ∃ a b c, handleG 8 gg d (opM pl S) = (a, b, c) := ⟨_, _, _, rfl⟩
      rw [hE] at e1 e2 e3 ph
      have e1 : z2 = 0 := e1
      subst e1
      have E2 := Lib.hid (show g2.high = S from e2); have E3 := Lib.hid (show d2.wr = d.wr + 1 from e3)
      clear e2 e3 hE
      go_wp2_with fail
      refine ph.mono ?_
      rintro e w9 ⟨rfl, g9, k9⟩
      have HG9 := Lib.hid g9; have HK9 := Lib.hid (GM.old HG8.out HBW.out HK8.out k9)
      clear ph g9 k9 HG8 HK8 HW8 HO8
      have pw := writes_any db w9 _ _ _ _ _ HG9.out.dk.1.st
      rw [show (g2, d2, (0 : Int)).2.1.wr = d.wr + 1 from E3.out] at pw
      have hwr : IntKind.i64.wrap (d.wr + 1) = d.wr + 1 := by
        have h1 := HF.out.2.2.2.2; have h2 := HG9.out.dk.2.2; have h3 := E3.out
        exact IntWalk.i64_in _ (by have h2 : 0 ≤ d2.wr := h2; omega)
      go_wp2_with fail
      refine pw.mono ?_
      rintro e w' ⟨rfl, rfl⟩
      clear pw
      have ph := high_any gb db 8 g2 _ w9 HG9.out.gt HG9.out.high
      rw [E2.out] at ph
      go_wp2_with fail
      refine ph.mono ?_
      rintro e w10 ⟨sv, rfl, o10, k10⟩
      obtain ⟨A10, c10, rfl, _⟩ := own_len o10
      have HK10 := Lib.hid (HK9.out.trans k10)
      have pe := sameInts_any (.slice A10 S.length c10) (.slice AS S.length cS) S S w10 (own_argI o10) (HS.out.no HK10.out) (by unfold maxLen; omega) (by unfold maxLen; omega)
      rw [decide_eq_true rfl] at pe
      clear ph o10 k10
      go_wp2_with fail
      refine pe.mono ?_
      rintro e w11 ⟨rfl, k11⟩
      have HK11 := Lib.hid (HK10.out.trans k11)
      clear pe k11
      go_wp2
      go_ret
      exact ⟨rfl, HK11.out.below (Nat.le_refl _) fun _ _ m => m⟩

end Go.Proofs.YtlgbmkdeamgpkaaGreatDoor.gateFair

/- GateFair returns true for every script, path and stamp: an operation whose stamp is not earlier than the latest is let by, and one whose stamp is earlier is not. No condition. -/
namespace Go.Proofs.YtlgbmkdeamgpkaaGreatDoor.gateFair
open Go.ChangeShapes Go.WideShapes Go.ChangeAt Go.RowKit Go.PlainAid
open Go.ChangeMaps (open_string shut_string)

theorem own : ownKnob Tryz.prog.godebug = none := by kernel_rfl
theorem laidOut : laidOutB Tryz.prog = true := by kernel_rfl

set_option maxRecDepth 100000 in
theorem lifted (os : Os) (started : os.Started) (H : Type) (enc : TypeId × Value → H) :
    ReturnsInHanded {} Tryz.checked os 4 .any (fun w args => (Rows.gateFairSpec.pre enc Tryz.prog Tryz.f4 Rows.gateFairRow.domain false w args ∧ laidMetH Tryz.prog [("unicode/utf8.acceptRanges", Rows.laid_unicode_utf8_acceptRanges), ("unicode/utf8.first", Rows.laid_unicode_utf8_first)] w) ∧ sizedMet enc Tryz.prog Tryz.f4 (OpenSpec.ofChange Rows.gateFairSpec) false w args)
      (Rows.gateFairSpec.post enc Tryz.prog Tryz.f4 false true false false) := by
  refine returnsInHanded_and_shaped (C := Tryz.checked) (X := (fun w _ => laidMetH Tryz.prog [("unicode/utf8.acceptRanges", Rows.laid_unicode_utf8_acceptRanges), ("unicode/utf8.first", Rows.laid_unicode_utf8_first)] w)) (fun _ _ _ hh h => h.of_heap hh) own started (by kernel_rfl) Tryz.func4
    (ChangeSpec.witness_shaped (enc := enc) (C := Tryz.checked) (os := os) (X := (fun w _ => laidMetH Tryz.prog [("unicode/utf8.acceptRanges", Rows.laid_unicode_utf8_acceptRanges), ("unicode/utf8.first", Rows.laid_unicode_utf8_first)] w)) false (World.laidAll Tryz.prog os [("unicode/utf8.acceptRanges", Rows.laid_unicode_utf8_acceptRanges), ("unicode/utf8.first", Rows.laid_unicode_utf8_first)]) #[.slice none 0 0, .string ⟨#[]⟩, .slice none 0 0] 8 (World.laidAll_os _ _ _)
      (World.shaped_of_ZipB (by kernel_rfl) (by kernel_rfl)) (by kernel_rfl) (by kernel_rfl) (by kernel_rfl)
      (by rw [MakeChecks.laidMetH_plain _ _ _ (by kernel_rfl)]; exact laidMet_laidAll _ (by kernel_rfl) (by kernel_rfl))) ?_
  intro W base args ds gs before hval0 hW hcnd hsz0 hL hsh _
  have hval : ∀ (j : Nat) t v, Tryz.f4.params[j]? = some t → args[j]? = some v → Value.okWide Tryz.prog W .any base t v := hval0
  have hW' := hW
  obtain ⟨p, q, hA0, hV, rfl, hfz, hnd⟩ := hW
  have hA : DataW.TrodAll enc Tryz.prog W 0 (fun _ => true) true Tryz.f4.params.toList args.toList ds p := hA0
  rw [Tryz.params4] at hA hval
  obtain ⟨v0, vs0, d0, ds0, p0, q0, hargs, rfl, rfl, h0, r0⟩ := trodAll_cons hA
  obtain ⟨v1, vs1, d1, ds1, p1, q1, rfl, rfl, rfl, h1, r1⟩ := trodAll_cons r0
  obtain ⟨v2, vs2, d2, ds2, p2, q2, rfl, rfl, rfl, h2, r2⟩ := trodAll_cons r1
  obtain ⟨rfl, rfl, rfl⟩ := trodAll_nil r2
  obtain rfl : args = #[v0, v1, v2] := by cases args; simp_all
  obtain ⟨rfl, rfl⟩ := trodVars_none hV
  have hsz : ∀ (j : Nat) (t : TypeId) (d : DataW H), ([30, 9, 31] : List TypeId)[j]? = some t → [d0, d1, d2][j]? = some d → ∀ n ∈ d.weights Tryz.prog t, n ≤ reachBytes := by
    intro j t d ht hd n hn
    have hsz1 : (DataW.weightsEach Tryz.prog ([30, 9, 31] : List TypeId) [d0, d1, d2]).all (· ≤ reachBytes) = true := hsz0
    have := List.all_eq_true.1 hsz1 n (DataW.weights_mem_each ht hd n hn)
    simpa using this
  have k0 := h0
  have lt0 : ∀ x ∈ p0, x.block < W.heap.size := by obtain ⟨m, hm⟩ := k0; exact DataW.trod_lt m _ _ _ hm
  obtain ⟨l0, hl0, hs0⟩ := open_ops (hval 0 30 v0 rfl rfl) h0 (hsz 0 30 d0 rfl rfl)
  have k1 := h1
  have lt1 : ∀ x ∈ p1, x.block < W.heap.size := by obtain ⟨m, hm⟩ := k1; exact DataW.trod_lt m _ _ _ hm
  obtain ⟨⟨⟨pl1⟩⟩, rfl, rfl, rfl, w1⟩ := open_string Tryz.underlying9 (hval 1 9 v1 rfl rfl) h1
  have b1 : pl1.length ≤ 140737488351232 := by have := hsz 1 9 _ rfl rfl pl1.length (by simp [DataW.weights]); simpa [reachBytes] using this
  have k2 := h2
  have lt2 : ∀ x ∈ p2, x.block < W.heap.size := by obtain ⟨m, hm⟩ := k2; exact DataW.trod_lt m _ _ _ hm
  obtain ⟨L2, a2, l2, z2⟩ := open_intsA Tryz.underlying31 Tryz.underlying3 (by kernel_rfl) (by kernel_rfl) (hval 2 31 v2 rfl rfl) h2 (hsz 2 31 _ rfl rfl)
  refine (walk v0 l0 pl1 v2 L2 W hl0 hs0 b1 a2 l2 z2).mono fun e W' ⟨he, bel⟩ => ?_
  subst he
  exact ⟨_, rfl, _, _, _, [], _, [], hW', trodAll_mk1 (shut_bool Tryz.underlying4 _), (trodAll_cons_mk (Below.trod laidOut (by kernel_rfl) (of_decide_eq_true (by kernel_rfl)) k0 bel lt0) (trodAll_cons_mk (Below.trod laidOut (by kernel_rfl) (of_decide_eq_true (by kernel_rfl)) k1 bel lt1) (trodAll_cons_mk (Below.trod laidOut (by kernel_rfl) (of_decide_eq_true (by kernel_rfl)) k2 bel lt2) trodAll_mk0))), rfl, bel.frame _, fun h => by cases h⟩

theorem over : Rows.gateFairRow.holds Tryz.pinned (OpenSpec.ofChange Rows.gateFairSpec) :=
  OpenClaim.holds_of_wide 4 Tryz.f4 rfl rfl rfl rfl rfl rfl rfl ⟨rfl, rfl, rfl, rfl, rfl⟩ rfl rfl rfl rfl rfl (by kernel_rfl) Tryz.func4 (by kernel_rfl)
    (of_decide_eq_true (by kernel_rfl)) (by unfold Func.isWrapper; first | (rw [if_pos (by decide +kernel)]; kernel_rfl) | (rw [if_neg (by decide +kernel)]; exact ⟨rfl, rfl⟩))
    (fun os started H enc _ => lifted os started H enc)

theorem proved : Rows.GateFairCardSaid :=
  Claim7.holds_tied_plain_at .later [] [.data, .pinned] true (true, "36de4b0e266865fa76cef0376ca197fae2bbf455f528766fd1e4f577ed6d676b") false over (fun _ h => by cases h) (by kernel_rfl) (fun _ h => by cases h) gateFair_row_tie rfl ⟨rfl, rfl⟩ (by kernel_rfl) rfl
    (fun f fn hf hfn => by
      obtain rfl : f = 4 := Option.some.inj ((show Tryz.prog.funcNamed "sublet/subletlaw19.GateFair" = some 4 by kernel_rfl).symm.trans hf) |>.symm
      obtain rfl : fn = Tryz.f4 := (Option.some.inj (Tryz.func4.symm.trans hfn)).symm
      exact ⟨by kernel_rfl, fun j t ht => by
        rw [Tryz.params4] at ht
        have hm : t ∈ ([30, 9, 31] : List TypeId) := by simpa using Array.mem_of_getElem? ht
        have hall : (([30, 9, 31] : List TypeId).all fun u => !Tryz.prog.wantsStandIn u) = true := by kernel_rfl
        exact (show Tryz.prog.wantsStandIn t = false by simpa using List.all_eq_true.1 hall t hm)⟩)
    (by kernel_rfl)
#print axioms proved
end Go.Proofs.YtlgbmkdeamgpkaaGreatDoor.gateFair
