/- Several texts of this claim in one. No condition beyond what each theorem states. -/
import Derived.Test.YtlgbmkdeamgpkaaGreatDoorG10
import Derived.Test.YtlgbmkdeamgpkaaGreatDoorH10
import Derived.Test.YtlgbmkdeamgpkaaGreatDoorS01
import Derived.Test.YtlgbmkdeamgpkaaGreatDoorTie
import Derived.Test.YtlgbmkdeamgpkaaGreatDoorCards
/- The walk of GatePlays. No condition beyond what each theorem states. -/
namespace Go.Proofs.YtlgbmkdeamgpkaaGreatDoor.gatePlays
open Go.ChangeShapes Go.WideShapes Go.ChangeAt Go.RowKit Go.PlainAid
open Go.ChangeMaps (open_string shut_string)
def PlaysI (W : World) (B db sb rb : Nat) (rv : Value) (n : Int) (k : Nat) (w : World) (gv mv : Value) : Prop := ∃ gb rg g d, gv = .pointer (some ⟨gb, 0, none⟩) ∧ mv = .pointer (some ⟨rg, 0, none⟩) ∧ PS w B gb db sb 2 rg rb rv n g d ∧ d.wr ≤ (k : Int) ∧ Kp No W w
theorem PlaysI.kp {W w : World} {B db sb rb k : Nat} {rv : Value} {n : Int} {gv mv : Value} (h : PlaysI W B db sb rb rv n k w gv mv) : Kp No W w := by
  obtain ⟨_, _, _, _, _, _, _, _, h⟩ := h; exact h
set_option maxRecDepth 100000 in
set_option maxHeartbeats 16000000 in
theorem walk (n : Int) (v : Value) (l : List Opx) (W : World) (hl : ArgOps W v l) (hln : l.length ≤ 17592186043904) :
    Calls Tryz.prog 7 #[.int .i64 n, v] W fun e w' => e = .returned (.bool true) ∧ Below W.heap.size W w' := by
  obtain ⟨A, c, rfl, hc, hat⟩ := hl
  have HAT := Lib.hid hat; have HLN := Lib.hid hln
  clear hat hln
  go_enter Tryz.func7, Tryz.ntmps7
  go_wp2_with fail
  refine (awake_any _).mono ?_
  rintro e wa ⟨rfl, ka⟩
  have HKA := Lib.hid ka
  clear ka
  go_wp2_with fail
  refine (new_two _).mono ?_
  rintro e w1 ⟨db, sb, rfl, hd1, b1, b2, k1⟩
  have HD1 := Lib.hid hd1; have HB1 := Lib.hid b1; have HB2 := Lib.hid b2; have HK1 := Lib.hid k1
  clear hd1 b1 b2 k1
  go_wp2_with fail
  refine (rnew_two _).mono ?_
  rintro e w2 ⟨rb, rv, rfl, hr2, k2⟩
  have HR2 := Lib.hid (hr2.low HK1.out.size); have HD2 := Lib.hid (HD1.out.no k2); have HK2 := Lib.hid (HK1.out.trans k2)
  clear hr2 k2 HD1 HK1
  by_cases hn : 8 ≤ n ∧ n < 12
  rotate_left
  · have hn2 : n < 8 ∨ 12 ≤ n := by omega
    have p1 := start_range n (some ⟨db, 0, none⟩) w2 hn2
    have p2 := rstart_range n (some ⟨rb, 0, none⟩) w2 hn2
    clear hn hn2
    go_wp2_with fail
    refine p1.mono ?_
    rintro e w' ⟨rfl, rfl⟩
    go_wp2_with fail
    refine p2.mono ?_
    rintro e w' ⟨rfl, rfl⟩
    clear p1 p2
    go_wp2
    go_ret
    exact ⟨rfl, (HKA.out.trans HK2.out).below (Nat.le_refl _) fun _ _ m => m⟩
  obtain ⟨hn1, hn2⟩ := hn
  have p1 := start_any n db sb 2 dsk0.L 0 false 0 w2 HD2.out.1 hn1 hn2 (by show 2 ≤ 2; omega)
  have HN1 := Lib.hid hn1; have HN2 := Lib.hid hn2
  clear hn1 hn2
  go_wp2_with fail
  refine p1.mono ?_
  rintro e w3 ⟨gb, rfl, hg3, hb3, k3⟩
  have HGS := Lib.hid (show GS w3 wa.heap.size gb db sb 2 n {} dsk0 from ⟨by rw [show startG dsk0.L = ([], 0) from start_zero] at hb3; exact hb3.mono fun q hq => Nat.le_trans HK2.out.size hq.1, HD2.out.no k3, dsk0_inv, Nat.le_trans HK2.out.size hg3, HB1.out, HB2.out⟩)
  have HR3 := Lib.hid (HR2.out.no k3); have HK3 := Lib.hid (HK2.out.trans k3)
  clear p1 hb3 hg3 k3 HR2 HD2 HK2 HB1 HB2
  have p2 := rstart_ps wa.heap.size 0 rb rv n {} dsk0 w3 HR3.out dsk0_inv HN1.out HN2.out rfl HK3.out.size
  go_wp2_with fail
  refine p2.mono ?_
  rintro e w4 ⟨rg, rfl, hrg, hb4, k4⟩
  have HBW := Lib.hid HKA.out.size
  have HI := Lib.hid (show PlaysI W wa.heap.size db sb rb rv n 0 w4 (.pointer (some ⟨gb, 0, none⟩)) (.pointer (some ⟨rg, 0, none⟩)) from ⟨gb, rg, {}, dsk0, rfl, rfl, ⟨HGS.out.no k4, hb4, HR3.out.no k4, hrg⟩, Int.le_refl _, HKA.out.trans (HK3.out.trans k4)⟩)
  clear p2 hrg hb4 k4 HGS HR3 HK3 HKA
  generalize wa.heap.size = B at *
  go_wp2
  go_loopw [55, 9, 11] (fun i gv mv wr => ∃ k : Nat, k ≤ l.length ∧ i = .int .i64 k ∧ PlaysI W B db sb rb rv n k wr gv mv) (fun i _ _ _ => l.length - (intOf i).toNat)
  case atStart => exact ⟨0, Nat.zero_le _, rfl, HI.out⟩
  case round =>
  obtain ⟨k, hk, rfl, hpl⟩ := hrel
  have HPI := Lib.hid hpl
  have hlnk := HLN.out
  clear hpl HI
  by_cases hlt : k < l.length
  rotate_left
  · have hk1 : ¬ (k : Int) < (l.length : Int) := by omega
    obtain ⟨gb, rg, gg, d, rfl, rfl, hps, _, hkp⟩ := HPI.out
    have HPS := Lib.hid hps; have HKP := Lib.hid hkp
    have h2 := hps.gs.inv.two
    obtain ⟨gvv, gcap, hgv, _⟩ := rows_at hps.rd.1.ro (by omega)
    have h512 := hps.gs.dk.1.n2
    subst hgv
    have PIM := Lib.hid (show ∀ W2, Kp No wr W2 → Calls Tryz.prog 33 #[.pointer (some ⟨db, 0, none⟩)] W2 (fun e w' => ∃ v, e = .returned v ∧ RowsOf w' W2.heap.size v d.L 91 ∧ Kp No W2 w') from fun W2 kk => image_any db sb 2 W2 d.L d.wr d.ar d.lf d.off (HPS.out.no kk).gs.dk.1)
    have PSM := Lib.hid (show ∀ W2, Kp No wr W2 → ∀ vi, ArgRows W2 vi d.L → Calls Tryz.prog 32 #[vi, .slice (some ⟨gvv, 0, none⟩) d.L.length gcap] W2 (fun e w' => e = .returned (.bool true) ∧ Kp No W2 w') from fun W2 kk vi hvi => by
      refine (dsame_any vi _ d.L d.L W2 hvi (HPS.out.no kk).rd.1.ro.arg rfl (by omega)).mono ?_
      rintro e w' ⟨rfl, m, rfl⟩
      exact ⟨by rw [decide_eq_true rfl], (Kp.refl No W2).drewN m⟩)
    have HFC := Lib.hid (show ∀ W2, Kp No wr W2 → (fun W2 => W2.cell? ⟨rb, 0, none⟩ = some (.slice (some ⟨gvv, 0, none⟩) d.L.length gcap)) W2 from fun W2 kk => (HPS.out.no kk).rd.1.st.cell 0)
    have hF : (fun W2 => W2.cell? ⟨rb, 0, none⟩ = some (.slice (some ⟨gvv, 0, none⟩) d.L.length gcap)) wr.drew := HFC.out _ (Kp.refl No wr).drew
    clear hps hkp h2 h512
    go_upto_region 31 with (fail)
    refine rg_begin (fun W2 => W2.cell? ⟨rb, 0, none⟩ = some (.slice (some ⟨gvv, 0, none⟩) d.L.length gcap)) 8 (by kernel_rfl) ?_
    refine rg_take (i := 0) (v := ?vz0) (by simp only [List.getElem?_toArray, List.getElem?_cons_zero]; rfl) (by kernel_rfl) (by exact fun _ _ _ h => h) (by rfl) ?rz0 hF ?sz0
    case rz0 => (intro W hW; clear hW; go_simp; try with_reducible rfl)
    try simp only [Act.put, List.setIfInBounds_toArray, List.set_cons_zero, List.set_cons_succ]
    refine rg_take (i := 2) (v := ?vz2) (by simp only [List.getElem?_toArray, List.getElem?_cons_succ, List.getElem?_cons_zero]; rfl) (by kernel_rfl) (by exact fun _ _ _ h => h) (by rfl) ?rz2 hF ?sz2
    case rz2 => (intro W hW; clear hW; go_simp; try with_reducible rfl)
    try simp only [Act.put, List.setIfInBounds_toArray, List.set_cons_zero, List.set_cons_succ]
    refine rg_take (i := 3) (v := ?vz3) (by simp only [List.getElem?_toArray, List.getElem?_cons_succ, List.getElem?_cons_zero]; rfl) (by kernel_rfl) (by exact fun _ _ _ h => h) (by rfl) ?rz3 hF ?sz3
    case rz3 => (intro W hW; clear hW; go_simp; try with_reducible rfl)
    try simp only [Act.put, List.setIfInBounds_toArray, List.set_cons_zero, List.set_cons_succ]
    refine rg_take (i := 4) (v := ?vz4) (by simp only [List.getElem?_toArray, List.getElem?_cons_succ, List.getElem?_cons_zero]; rfl) (by kernel_rfl) (by exact fun _ _ _ h => h) (by rfl) ?rz4 hF ?sz4
    case rz4 => (intro W hW; clear hW; go_simp; try with_reducible rfl)
    try simp only [Act.put, List.setIfInBounds_toArray, List.set_cons_zero, List.set_cons_succ]
    refine rg_take (i := 5) (v := ?vz5) (by simp only [List.getElem?_toArray, List.getElem?_cons_succ, List.getElem?_cons_zero]; rfl) (by kernel_rfl) (by exact fun _ _ _ h => h) (by rfl) ?rz5 hF ?sz5
    case rz5 => (intro W9 hW; go_simp; try with_reducible rfl)
    try simp only [Act.put, List.setIfInBounds_toArray, List.set_cons_zero, List.set_cons_succ]
    refine rg_one (i := 1) (oi := ?oz1) ?az1 ?bz1 ?cz1 ?dz1
    case az1 => (simp only [List.getElem?_toArray, List.getElem?_cons_succ, List.getElem?_cons_zero]; rfl)
    case bz1 => kernel_rfl
    case cz1 => rfl
    intro K hK
    (go_simp; refine (PIM.out _ (Kp.refl No wr).drew).mono ?_; rintro e v1 ⟨vi, rfl, ro, k1⟩; have HK1 := Lib.hid ((Kp.refl No wr).drew.trans k1); have HRO := Lib.hid ro; clear ro k1)
    refine rg_use hK (HFC.out _ HK1.out) (fun hF => ?_)
    clear hK K
    try simp only [Act.put, List.setIfInBounds_toArray, List.set_cons_zero, List.set_cons_succ]
    refine rg_one (i := 6) (oi := ?oz6) ?az6 ?bz6 ?cz6 ?dz6
    case az6 => (simp only [List.getElem?_toArray, List.getElem?_cons_succ, List.getElem?_cons_zero]; rfl)
    case bz6 => kernel_rfl
    case cz6 => rfl
    intro K hK
    (go_simp; refine (PSM.out v1 HK1.out vi HRO.out.arg).mono ?_; rintro e v2 ⟨rfl, k2⟩; have HK2 := Lib.hid (HK1.out.trans k2); clear k2)
    refine rg_use hK (HFC.out _ HK2.out) (fun hF => ?_)
    clear hK K
    try simp only [Act.put, List.setIfInBounds_toArray, List.set_cons_zero, List.set_cons_succ]
    refine rg_take (i := 7) (v := ?vz7) (by simp only [List.getElem?_toArray, List.getElem?_cons_succ, List.getElem?_cons_zero]; rfl) (by kernel_rfl) (by exact fun _ _ _ h => h) (by rfl) ?rz7 hF ?sz7
    case rz7 => (intro W hW; clear hW; go_simp; try with_reducible rfl)
    try simp only [Act.put, List.setIfInBounds_toArray, List.set_cons_zero, List.set_cons_succ]
    refine rg_done (by kernel_rfl) ?_
    go_wp2
    go_ret
    exact ⟨rfl, (HKP.out.trans HK2.out).below (Nat.le_refl _) fun _ _ m => m⟩
  obtain ⟨g, o, rfl, hrow⟩ := HAT.out (fun e => by rw [e] at hlt; simp at hlt)
  obtain ⟨hok, hrg⟩ := hrow k hlt
  obtain ⟨x, hx⟩ : ∃ x, x = l[k] := ⟨_, rfl⟩
  rw [← hx] at hok hrg
  clear hx hrow
  obtain ⟨CX, hCX⟩ : ∃ C, C = opC x := ⟨_, rfl⟩
  have HRX := Lib.hid (show wr.rangeAt g (o + k * 18) CX from by rw [hCX]; exact range_kp hrg HPI.out.kp (fun m => m))
  have HCX := Lib.hid hCX
  have HCL := Lib.hid (show CX.length = 18 from by rw [hCX]; rfl)
  have HiX : Hid ((Tryz.prog.info? 40).map (·.size) = some CX.length) := Lib.hid (by rw [HCL.out]; kernel_rfl)
  have HiXA : Hid ((Tryz.prog.info? 40).map (·.size) = some CX.toArray.size) := Lib.hid (by rw [List.size_toArray, HCL.out]; kernel_rfl)
  have HX1 := Lib.hid (show CX.toArray.all (·.oneCell') = true from by rw [hCX]; exact op_one x)
  have HUO := Lib.hid (Tryz.underlying40); have HUH := Lib.hid (Tryz.underlying38)
  have HOK := Lib.hid hok
  have hk0 : (0 : Int) ≤ (k : Int) := by omega
  have hk1 : (k : Int) < (l.length : Int) := by omega
  clear hrg hCX hok
  obtain ⟨wo, hwo⟩ : ∃ wo : World, wo = wr := ⟨_, rfl⟩
  subst hwo
  have HTH := Lib.hid (op_there wo CX.toArray.size (by rw [List.size_toArray, HCL.out]))

  obtain ⟨gb, rg, gg, d, rfl, rfl, hps, hwr, hkp⟩ := HPI.out
  have HPS := Lib.hid hps; have HWR := Lib.hid hwr; have HKP := Lib.hid hkp
  clear hps hwr hkp HPI
  go_upto_region 13 with (fail)
  go_cut [14] (fun p wx => p = .pointer (some ⟨wo.heap.size, 0, none⟩) ∧ Bk wx wo.heap.size 40 CX ∧ Kp No wo wx)
  case first =>
    have g6 := Lib.hid (op_store wo CX HCL.out)
    go_wp2_with (first
      | (with_reducible refine wpList_load_mid rfl _ _ rfl g (o + k * 18) rfl CX _ HRX.out HUO.out rfl HiX.out ?_)
      | (with_reducible refine wpList_store_mid rfl _ _ _ rfl wo.heap.size 0 CX.toArray rfl rfl HTH.out HiXA.out HX1.out ?_))
    go_meet
    exact ⟨rfl, g6.out.1, g6.out.2⟩
  case rest =>
  obtain ⟨rfl, hbx, kx⟩ := hcut
  have HBO := Lib.hid (show Bk wc wo.heap.size 40 (opC x) from by rw [← HCX.out]; exact hbx)
  have HPC := Lib.hid (HPS.out.no kx); have HKW := Lib.hid (HKP.out.trans kx)
  have HBXW := Lib.hid (show W.heap.size ≤ wo.heap.size from HKP.out.size)
  clear hbx kx HPS HKP HRX HTH
  generalize wo.heap.size = bx at *
  have z0 : wc.cell? ⟨bx, 0, none⟩ = some (.int .i64 x.kind) := HBO.out.cell 0
  obtain ⟨wk, hwk⟩ : ∃ wk : World, wk = wc := ⟨_, rfl⟩
  subst hwk
  go_upto_block 2 with (fail)
  clear z0
  go_cut [9, 11] (fun gv mv wx => PlaysI W B db sb rb rv n (k + 1) wx gv mv)
  case first =>
    by_cases h1 : x.kind = 1
    · have d1 : (x.kind == 1) = true := beq_iff_eq.2 h1
      have z1 : wk.cell? ⟨bx, 1, none⟩ = some (.int .i64 x.k) := HBO.out.cell 1
      have pa := arm_gs B gb db sb 2 n gg d x.k wk HPC.out.gs (HOK.out.2.2)
      clear h1
      go_wp2_with fail
      refine pa.mono ?_
      rintro e w1 ⟨rfl, g1, k1⟩
      obtain ⟨hr1, hd1⟩ := HPC.out.gm k1
      have HG1 := Lib.hid g1; have HR1 := Lib.hid hr1; have HD1 := Lib.hid hd1; have HK1 := Lib.hid (GM.old HPC.out.gs HBW.out HKW.out k1)
      have z1 : w1.cell? ⟨bx, 1, none⟩ = some (.int .i64 x.k) := (HBO.out.kp k1 (GS.opb HPC.out.gs HBO.out)).cell 1
      have pb := rarm_ps B rb rv d x.k w1 hd1 (HOK.out.2.2)
      have HRD := Lib.hid hd1.1.st; have HCR := Lib.hid HPC.out.c1
      clear pa g1 k1 hr1 hd1
      go_wp2_with fail
      clear z1
      refine pb.mono ?_
      rintro e w2 ⟨rfl, hd2, k2⟩
      have HN := Lib.hid (show PlaysI W B db sb rb rv n (k + 1) w2 (.pointer (some ⟨gb, 0, none⟩)) (.pointer (some ⟨rg, 0, none⟩)) from ⟨gb, rg, gg, _, rfl, rfl, ⟨HG1.out.one HRD.out (by decide) (by decide) (by decide) (by decide) k2, HR1.out.one HRD.out (by decide) (by decide) k2, hd2, HCR.out⟩, by have := HWR.out; show d.wr ≤ _; omega, HK1.out.then_ k2 fun i hi e => by have e : i = rb := e; have h1 := HD1.out.1.lo; have h2 := HBW.out; omega⟩)
      clear pb hd2 k2
      go_wp2
      go_meet
      exact HN.out
    have d1 : (x.kind == 1) = false := by rw [beq_eq_false_iff_ne]; exact h1
    by_cases h2 : x.kind = 2
    · have d2 : (x.kind == 2) = true := beq_iff_eq.2 h2
      have pa := on_gs B gb db sb 2 n gg d wk HPC.out.gs
      clear h1 h2
      go_wp2_with fail
      refine pa.mono ?_
      rintro e w1 ⟨rfl, g1, k1⟩
      obtain ⟨hr1, hd1⟩ := HPC.out.gm k1
      have HG1 := Lib.hid g1; have HR1 := Lib.hid hr1; have HD1 := Lib.hid hd1; have HK1 := Lib.hid (GM.old HPC.out.gs HBW.out HKW.out k1)
      have pb := ron_ps B rb rv d w1 hd1
      have HRD := Lib.hid hd1.1.st
      clear pa g1 k1 hr1 hd1
      go_wp2_with fail
      refine pb.mono ?_
      rintro e w2 ⟨rfl, hd2, k2⟩
      have HG2 := Lib.hid (HG1.out.one HRD.out (by decide) (by decide) (by decide) (by decide) k2)
      have HD2 := Lib.hid hd2; have HK2 := Lib.hid (HK1.out.then_ k2 fun i hi e => by have e : i = rb := e; have h1 := HD1.out.1.lo; have h2 := HBW.out; omega)
      clear pb hd2 k2 HG1 HR1 HD1 HK1 HRD
      have ps := start_gs B gb db sb 2 n gg { d with off := false } w2 HG2.out HN1.out HN2.out rfl
      go_wp2_with fail
      refine ps.mono ?_
      rintro e w3 ⟨gb2, rfl, _, g3, k3⟩
      have HG3 := Lib.hid g3; have HD3 := Lib.hid (HD2.out.no k3); have HK3 := Lib.hid (HK2.out.trans k3)
      have pr := rstart_ps B rg rb rv n gg { d with off := false } w3 HD3.out HG2.out.inv HN1.out HN2.out rfl HG3.out.lt
      clear ps g3 k3 HG2 HD2 HK2
      go_wp2_with fail
      refine pr.mono ?_
      rintro e w4 ⟨rg2, rfl, hrg, hb4, k4⟩
      have HN := Lib.hid (show PlaysI W B db sb rb rv n (k + 1) w4 (.pointer (some ⟨gb2, 0, none⟩)) (.pointer (some ⟨rg2, 0, none⟩)) from ⟨gb2, rg2, _, _, rfl, rfl, ⟨HG3.out.no k4, hb4, HD3.out.no k4, hrg⟩, by have := HWR.out; show d.wr ≤ _; omega, HK3.out.trans k4⟩)
      clear pr hrg hb4 k4
      go_wp2
      go_meet
      exact HN.out
    have d2 : (x.kind == 2) = false := by rw [beq_eq_false_iff_ne]; exact h2
    clear h1 h2
    obtain ⟨CM, hCM⟩ : ∃ C, C = mcells x.m (.slice x.A x.m.stamp.length x.c) := ⟨_, rfl⟩
    have HiM : Hid ((Tryz.prog.info? 38).map (·.size) = some CM.length) := Lib.hid (by rw [hCM]; kernel_rfl)
    have HRM := Lib.hid (show wk.rangeAt bx 2 CM from by rw [hCM]; exact op_range HBO.out)
    have HCM := Lib.hid hCM
    clear hCM
    have PO := Lib.hid (show ∀ W2, Kp No wk W2 → Calls Tryz.prog 14 #[.agg CM.toArray] W2 (fun e w' => ∃ A1 c1, e = .returned (.agg (mcells x.m (.slice A1 x.m.stamp.length c1)).toArray) ∧ w'.ownsRow W2.heap.size 3 1 (.slice A1 x.m.stamp.length c1) x.m.stamp.length (ints x.m.stamp) ∧ Kp No W2 w') from fun W2 kk => by
      rw [HCM.out]
      refine (own_any x.m (.slice x.A x.m.stamp.length x.c) W2 (HOK.out.1.1.no (HKW.out.trans kk)) (by have := HOK.out.1.2.2.2.1; omega)).mono ?_
      rintro e w' ⟨sv, rfl, ho, hk⟩
      obtain ⟨A1, c1, rfl, _⟩ := own_len ho
      exact ⟨A1, c1, rfl, ho, hk⟩)
    obtain ⟨g2, d2', z2, hE⟩ : ∃ a b c, handleG n gg d x.m = (a, b, c) := ⟨_, _, _, rfl⟩
    have HEE := Lib.hid hE
    have WR2 := Lib.hid (show d2'.wr ≤ ((k + 1 : Nat) : Int) from by have h := HWR.out; have h2 := handleG_wr n gg d x.m; rw [hE] at h2; have h2 : d2'.wr ≤ d.wr + 1 := h2; omega)
    clear hE
    have hwb : d.wr < 4611686018427387904 := by have := HWR.out; have := HLN.out; omega
    have HWB := Lib.hid hwb
    clear hwb
    have PH := Lib.hid (show ∀ W2, Kp No wk W2 → ∀ A1 c1, SlI W2 (.slice A1 x.m.stamp.length c1) x.m.stamp → Calls Tryz.prog 15 #[.pointer (some ⟨gb, 0, none⟩), .agg (mcells x.m (.slice A1 x.m.stamp.length c1)).toArray] W2 (fun e w' => e = .returned (.int .i64 z2) ∧ GS w' B gb db sb 2 n g2 d2' ∧ Kp (GM gb db sb) W2 w') from fun W2 kk A1 c1 hs => by
      have := handle_gs B gb db sb 2 n gg d x.m A1 c1 W2 (HPC.out.gs.no kk) hs HOK.out.1.2.1 HOK.out.1.2.2.1 HWB.out
      unfold HandS at this
      rw [HEE.out] at this
      exact this)
    have HRK := Lib.hid (show ∀ W1, Kp No wk W1 → ∀ W2, Kp (GM gb db sb) W1 W2 → W2.rangeAt bx 2 CM from fun W1 kk W2 kg => range_kp (range_kp HRM.out kk (fun m => m)) kg (GS.opb (HPC.out.gs.no kk) (HBO.out.no kk)))
    have PR := Lib.hid (show ∀ W1, Kp No wk W1 → ∀ W2, Kp (GM gb db sb) W1 W2 → GS W2 B gb db sb 2 n g2 d2' → Calls Tryz.prog 31 #[.pointer (some ⟨rg, 0, none⟩), .agg CM.toArray] W2 (fun e w' => e = .returned (.int .i64 z2) ∧ PS w' B gb db sb 2 rg rb rv n g2 d2' ∧ Kp No W w' ∧ w'.rangeAt bx 2 CM) from fun W1 kk W2 kg hgs => by
      have hrk := HRK.out W1 kk W2 kg
      have hbo := (HBO.out.no kk).kp kg (GS.opb (HPC.out.gs.no kk) (HBO.out.no kk))
      obtain ⟨hr, hd⟩ := (HPC.out.no kk).gm kg
      have hl : 0 < d.L.length := by have := HPC.out.gs.inv.two; omega
      have hkW : Kp No W W2 := GM.old (HPC.out.gs.no kk) HBW.out (HKW.out.trans kk) kg
      rw [show (#[.pointer (some ⟨rg, 0, none⟩), .agg CM.toArray] : Array Value) = #[.pointer (some ⟨rg, 0, none⟩), .agg (mcells x.m (.slice x.A x.m.stamp.length x.c)).toArray] from by rw [HCM.out]]
      refine (rhandle_any B rg rb rv n gg d (fun q => B ≤ q) x.m x.A x.c W2 hr hd HPC.out.gs.inv (HOK.out.1.1.no hkW) HOK.out.1.2.2.1.2 HOK.out.1.2.2.2.2 HWB.out hgs.lt).mono ?_
      rintro e w' ⟨he, h1, h2, h3⟩
      rw [HEE.out] at he h1 h2
      refine ⟨he, ⟨PS.rm hgs hr hd hl h3, h1.mono fun q hq => ?_, h2, HPC.out.c1⟩, RMd.old HPC.out.c1 hd hl HBW.out hkW h3, range_kp hrk h3 (RMd.opb hr hd hl hbo)⟩
      rcases hq with hq | hq
      · exact hq
      · exact Nat.le_trans hgs.lt hq)
    have hF : (fun W2 => W2.rangeAt bx 2 CM) wk.drew := range_kp HRM.out (Kp.refl No wk).drew (fun m => m)
    go_upto_region 15 with (fail)
    clear d1 d2
    refine rg_begin (fun W2 => W2.rangeAt bx 2 CM) 10 (by kernel_rfl) ?_
    refine rg_take (i := 0) (v := ?vh0) (by simp only [List.getElem?_toArray, List.getElem?_cons_zero]; rfl) (by kernel_rfl) (by exact fun _ _ _ h => h) (by rfl) ?rh0 hF ?sh0
    case rh0 => (intro W hW; clear hW; go_simp; try with_reducible rfl)
    try simp only [Act.put, List.setIfInBounds_toArray, List.set_cons_zero, List.set_cons_succ]
    refine rg_take (i := 1) (v := ?vh1) (by simp only [List.getElem?_toArray, List.getElem?_cons_succ, List.getElem?_cons_zero]; rfl) (by kernel_rfl) (by exact fun _ _ _ h => h) (by rfl) ?rh1 hF ?sh1
    case rh1 => (intro W hW; clear hW; go_simp; try with_reducible rfl)
    try simp only [Act.put, List.setIfInBounds_toArray, List.set_cons_zero, List.set_cons_succ]
    refine rg_take (i := 2) (v := ?vh2) (by simp only [List.getElem?_toArray, List.getElem?_cons_succ, List.getElem?_cons_zero]; rfl) (by kernel_rfl) (by exact fun _ _ _ h => h) (by rfl) ?rh2 hF ?sh2
    case rh2 => (intro W9 hW; refine exec_load_mid W9 38 (.tmp 62) ?_ bx 2 ?_ CM _ hW Tryz.underlying38 ?_ HiM.out; exact rfl; exact rfl; exact rfl)
    try simp only [Act.put, List.setIfInBounds_toArray, List.set_cons_zero, List.set_cons_succ]
    refine rg_take (i := 5) (v := ?vh5) (by simp only [List.getElem?_toArray, List.getElem?_cons_succ, List.getElem?_cons_zero]; rfl) (by kernel_rfl) (by exact fun _ _ _ h => h) (by rfl) ?rh5 hF ?sh5
    case rh5 => (intro W hW; clear hW; go_simp; try with_reducible rfl)
    try simp only [Act.put, List.setIfInBounds_toArray, List.set_cons_zero, List.set_cons_succ]
    refine rg_take (i := 6) (v := ?vh6) (by simp only [List.getElem?_toArray, List.getElem?_cons_succ, List.getElem?_cons_zero]; rfl) (by kernel_rfl) (by exact fun _ _ _ h => h) (by rfl) ?rh6 hF ?sh6
    case rh6 => (intro W hW; clear hW; go_simp; try with_reducible rfl)
    try simp only [Act.put, List.setIfInBounds_toArray, List.set_cons_zero, List.set_cons_succ]
    refine rg_take (i := 7) (v := ?vh7) (by simp only [List.getElem?_toArray, List.getElem?_cons_succ, List.getElem?_cons_zero]; rfl) (by kernel_rfl) (by exact fun _ _ _ h => h) (by rfl) ?rh7 hF ?sh7
    case rh7 => (intro W9 hW; refine exec_load_mid W9 38 (.tmp 67) ?_ bx 2 ?_ CM _ hW Tryz.underlying38 ?_ HiM.out; exact rfl; exact rfl; exact rfl)
    try simp only [Act.put, List.setIfInBounds_toArray, List.set_cons_zero, List.set_cons_succ]
    refine rg_one (i := 3) (oi := ?oh3) ?ah3 ?bh3 ?ch3 ?dh3
    case ah3 => (simp only [List.getElem?_toArray, List.getElem?_cons_succ, List.getElem?_cons_zero]; rfl)
    case bh3 => kernel_rfl
    case ch3 => rfl
    intro K hK
    (go_simp; refine (PO.out _ (Kp.refl No wk).drew).mono ?_; rintro e v1 ⟨A1, c1, rfl, o1, k1⟩; have HK1 := Lib.hid ((Kp.refl No wk).drew.trans k1); have HO1 := Lib.hid o1; clear o1 k1)
    refine rg_use hK (range_kp HRM.out HK1.out (fun m => m)) (fun hF => ?_)
    clear hK K
    try simp only [Act.put, List.setIfInBounds_toArray, List.set_cons_zero, List.set_cons_succ]
    refine rg_one (i := 4) (oi := ?oh4) ?ah4 ?bh4 ?ch4 ?dh4
    case ah4 => (simp only [List.getElem?_toArray, List.getElem?_cons_succ, List.getElem?_cons_zero]; rfl)
    case bh4 => kernel_rfl
    case ch4 => rfl
    intro K hK
    (go_simp; refine (PH.out v1 HK1.out A1 c1 (own_slI HO1.out)).mono ?_; rintro e v2 ⟨rfl, g2s, k2⟩; have HG2 := Lib.hid g2s; have HK2 := Lib.hid k2; clear g2s k2)
    refine rg_use hK (HRK.out v1 HK1.out v2 HK2.out) (fun hF => ?_)
    clear hK K
    try simp only [Act.put, List.setIfInBounds_toArray, List.set_cons_zero, List.set_cons_succ]
    refine rg_one (i := 8) (oi := ?oh8) ?ah8 ?bh8 ?ch8 ?dh8
    case ah8 => (simp only [List.getElem?_toArray, List.getElem?_cons_succ, List.getElem?_cons_zero]; rfl)
    case bh8 => kernel_rfl
    case ch8 => rfl
    intro K hK
    (go_simp; refine (PR.out v1 HK1.out v2 HK2.out HG2.out).mono ?_; rintro e v3 ⟨rfl, hps, hkk, hrr⟩; have HP3 := Lib.hid hps; have HK3 := Lib.hid hkk; have HRJ := Lib.hid hrr; clear hps hkk hrr)
    refine rg_use hK (HRJ.out) (fun hF => ?_)
    clear hK K
    try simp only [Act.put, List.setIfInBounds_toArray, List.set_cons_zero, List.set_cons_succ]
    refine rg_take (i := 9) (v := (.bool false)) (by simp only [List.getElem?_toArray, List.getElem?_cons_succ, List.getElem?_cons_zero]; rfl) (by kernel_rfl) (by exact fun _ _ _ h => h) (by rfl) ?rh9 hF ?sh9
    case rh9 => (intro W hW; clear hW; go_simp; try with_reducible rfl)
    try simp only [Act.put, List.setIfInBounds_toArray, List.set_cons_zero, List.set_cons_succ]
    refine rg_done (by kernel_rfl) ?_
    have HN := Lib.hid (show PlaysI W B db sb rb rv n (k + 1) v3 (.pointer (some ⟨gb, 0, none⟩)) (.pointer (some ⟨rg, 0, none⟩)) from ⟨gb, rg, g2, d2', rfl, rfl, HP3.out, WR2.out, HK3.out⟩)
    clear hF HG2 HK2 HP3 HK3 HO1 HK1
    go_wp2
    go_meet
    exact HN.out
  case rest =>
  obtain ⟨gb, rg, gg, d, rfl, rfl, hps, hwr, hkp⟩ := hcut
  have HPS := Lib.hid hps; have HWR := Lib.hid hwr; have HKP := Lib.hid hkp
  obtain ⟨hv, hb, hsl, _⟩ := hps.rgb
  obtain ⟨AH, cH, rfl, _⟩ := id hsl
  have HSLR := Lib.hid hsl
  have HBG := Lib.hid hb
  have hh4 := HPS.out.gs.high
  have HFC := Lib.hid (show ∀ W2, Kp No wc W2 → (fun W2 => W2.cell? ⟨rg, 3, none⟩ = some (.slice AH gg.high.length cH) ∧ W2.cell? ⟨rg, 4, none⟩ = some (.int .i64 (gg.seq : Int)) ∧ W2.cell? ⟨rb, 1, none⟩ = some (.int .i64 d.wr)) W2 from fun W2 kk => ⟨(HBG.out.no kk).cell 3, (HBG.out.no kk).cell 4, (HPS.out.no kk).rd.1.st.cell 1⟩)
  have PG := Lib.hid (show ∀ W2, Kp No wc W2 → Calls Tryz.prog 18 #[.pointer (some ⟨gb, 0, none⟩)] W2 (HighR W2 gg.high) from fun W2 kk => high_any gb db n gg _ W2 (HPS.out.no kk).gs.gt hh4)
  have PE := Lib.hid (show ∀ W2, Kp No wc W2 → ∀ A1 c1, ArgInts W2 (.slice A1 gg.high.length c1) gg.high → Calls Tryz.prog 22 #[.slice A1 gg.high.length c1, .slice AH gg.high.length cH] W2 (fun e w' => e = .returned (.bool true) ∧ Kp No W2 w') from fun W2 kk A1 c1 ha => by
    have := sameInts_any (.slice A1 gg.high.length c1) (.slice AH gg.high.length cH) gg.high gg.high W2 ha (HSLR.out.no kk).arg (by unfold maxLen; omega) (by unfold maxLen; omega)
    rw [decide_eq_true rfl] at this
    exact this)
  have PQ := Lib.hid (show ∀ W2, Kp No wc W2 → Calls Tryz.prog 23 #[.pointer (some ⟨gb, 0, none⟩)] W2 (fun e w' => e = .returned (.int .i64 (gg.seq : Int)) ∧ W2 = w') from fun W2 kk => count_any gb db n gg _ W2 (HPS.out.no kk).gs.gt)
  have PWr := Lib.hid (show ∀ W2, Kp No wc W2 → Calls Tryz.prog 19 #[.pointer (some ⟨db, 0, none⟩)] W2 (fun e w' => e = .returned (.int .i64 d.wr) ∧ W2 = w') from fun W2 kk => writes_any db W2 _ _ _ _ _ (HPS.out.no kk).gs.dk.1.st)
  have hF : (fun W2 => W2.cell? ⟨rg, 3, none⟩ = some (.slice AH gg.high.length cH) ∧ W2.cell? ⟨rg, 4, none⟩ = some (.int .i64 (gg.seq : Int)) ∧ W2.cell? ⟨rb, 1, none⟩ = some (.int .i64 d.wr)) wc.drew := HFC.out _ (Kp.refl No wc).drew
  clear hps hwr hkp hb hsl hh4 HPC HKW HBO HOK
  go_upto_region 28 with (fail)
  refine rg_begin (fun W2 => W2.cell? ⟨rg, 3, none⟩ = some (.slice AH gg.high.length cH) ∧ W2.cell? ⟨rg, 4, none⟩ = some (.int .i64 (gg.seq : Int)) ∧ W2.cell? ⟨rb, 1, none⟩ = some (.int .i64 d.wr)) 26 (by kernel_rfl) ?_
  refine rg_take (i := 0) (v := ?vp0) (by simp only [List.getElem?_toArray, List.getElem?_cons_zero]; rfl) (by kernel_rfl) (by exact fun _ _ _ h => h) (by rfl) ?rp0 hF ?sp0
  case rp0 => (intro W hW; clear hW; go_simp; try with_reducible rfl)
  try simp only [Act.put, List.setIfInBounds_toArray, List.set_cons_zero, List.set_cons_succ]
  refine rg_take (i := 2) (v := ?vp2) (by simp only [List.getElem?_toArray, List.getElem?_cons_succ, List.getElem?_cons_zero]; rfl) (by kernel_rfl) (by exact fun _ _ _ h => h) (by rfl) ?rp2 hF ?sp2
  case rp2 => (intro W hW; clear hW; go_simp; try with_reducible rfl)
  try simp only [Act.put, List.setIfInBounds_toArray, List.set_cons_zero, List.set_cons_succ]
  refine rg_take (i := 3) (v := ?vp3) (by simp only [List.getElem?_toArray, List.getElem?_cons_succ, List.getElem?_cons_zero]; rfl) (by kernel_rfl) (by exact fun _ _ _ h => h) (by rfl) ?rp3 hF ?sp3
  case rp3 => (intro W hW; clear hW; go_simp; try with_reducible rfl)
  try simp only [Act.put, List.setIfInBounds_toArray, List.set_cons_zero, List.set_cons_succ]
  refine rg_take (i := 4) (v := ?vp4) (by simp only [List.getElem?_toArray, List.getElem?_cons_succ, List.getElem?_cons_zero]; rfl) (by kernel_rfl) (by exact fun _ _ _ h => h) (by rfl) ?rp4 hF ?sp4
  case rp4 => (intro W hW; clear hW; go_simp; try with_reducible rfl)
  try simp only [Act.put, List.setIfInBounds_toArray, List.set_cons_zero, List.set_cons_succ]
  refine rg_take (i := 5) (v := ?vp5) (by simp only [List.getElem?_toArray, List.getElem?_cons_succ, List.getElem?_cons_zero]; rfl) (by kernel_rfl) (by exact fun _ _ _ h => h) (by rfl) ?rp5 hF ?sp5
  case rp5 => (intro W9 hW; obtain ⟨f1, f2, f3⟩ := hW; go_simp; try with_reducible rfl)
  try simp only [Act.put, List.setIfInBounds_toArray, List.set_cons_zero, List.set_cons_succ]
  refine rg_one (i := 1) (oi := ?op1) ?ap1 ?bp1 ?cp1 ?dp1
  case ap1 => (simp only [List.getElem?_toArray, List.getElem?_cons_succ, List.getElem?_cons_zero]; rfl)
  case bp1 => kernel_rfl
  case cp1 => rfl
  intro K hK
  (go_simp; refine (PG.out _ (Kp.refl No wc).drew).mono ?_; rintro e v1 ⟨sv, rfl, o1, k1⟩; obtain ⟨A1, c1, rfl, _⟩ := own_len o1; have HK1 := Lib.hid ((Kp.refl No wc).drew.trans k1); have HO1 := Lib.hid o1; clear o1 k1)
  refine rg_use hK (HFC.out _ HK1.out) (fun hF => ?_)
  clear hK K
  try simp only [Act.put, List.setIfInBounds_toArray, List.set_cons_zero, List.set_cons_succ]
  refine rg_one (i := 6) (oi := ?op6) ?ap6 ?bp6 ?cp6 ?dp6
  case ap6 => (simp only [List.getElem?_toArray, List.getElem?_cons_succ, List.getElem?_cons_zero]; rfl)
  case bp6 => kernel_rfl
  case cp6 => rfl
  intro K hK
  (go_simp; refine (PE.out v1 HK1.out A1 c1 (own_argI HO1.out)).mono ?_; rintro e v2 ⟨rfl, k2⟩; have HK2 := Lib.hid (HK1.out.trans k2); clear k2)
  refine rg_use hK (HFC.out _ HK2.out) (fun hF => ?_)
  clear hK K
  try simp only [Act.put, List.setIfInBounds_toArray, List.set_cons_zero, List.set_cons_succ]
  refine rg_take (i := 7) (v := (.bool false)) (by simp only [List.getElem?_toArray, List.getElem?_cons_succ, List.getElem?_cons_zero]; rfl) (by kernel_rfl) (by exact fun _ _ _ h => h) (by rfl) ?rp7 hF ?sp7
  case rp7 => (intro W hW; clear hW; go_simp; try with_reducible rfl)
  try simp only [Act.put, List.setIfInBounds_toArray, List.set_cons_zero, List.set_cons_succ]
  refine rg_take (i := 8) (v := (.bool false)) (by simp only [List.getElem?_toArray, List.getElem?_cons_succ, List.getElem?_cons_zero]; rfl) (by kernel_rfl) (by exact fun _ _ _ h => h) (by rfl) ?rp8 hF ?sp8
  case rp8 => (intro W hW; clear hW; go_simp; try with_reducible rfl)
  try simp only [Act.put, List.setIfInBounds_toArray, List.set_cons_zero, List.set_cons_succ]
  refine rg_take (i := 9) (v := ?vp9) (by simp only [List.getElem?_toArray, List.getElem?_cons_succ, List.getElem?_cons_zero]; rfl) (by kernel_rfl) (by exact fun _ _ _ h => h) (by rfl) ?rp9 hF ?sp9
  case rp9 => (intro W hW; clear hW; go_simp; try with_reducible rfl)
  try simp only [Act.put, List.setIfInBounds_toArray, List.set_cons_zero, List.set_cons_succ]
  refine rg_take (i := 11) (v := ?vp11) (by simp only [List.getElem?_toArray, List.getElem?_cons_succ, List.getElem?_cons_zero]; rfl) (by kernel_rfl) (by exact fun _ _ _ h => h) (by rfl) ?rp11 hF ?sp11
  case rp11 => (intro W hW; clear hW; go_simp; try with_reducible rfl)
  try simp only [Act.put, List.setIfInBounds_toArray, List.set_cons_zero, List.set_cons_succ]
  refine rg_take (i := 12) (v := ?vp12) (by simp only [List.getElem?_toArray, List.getElem?_cons_succ, List.getElem?_cons_zero]; rfl) (by kernel_rfl) (by exact fun _ _ _ h => h) (by rfl) ?rp12 hF ?sp12
  case rp12 => (intro W hW; clear hW; go_simp; try with_reducible rfl)
  try simp only [Act.put, List.setIfInBounds_toArray, List.set_cons_zero, List.set_cons_succ]
  refine rg_take (i := 13) (v := ?vp13) (by simp only [List.getElem?_toArray, List.getElem?_cons_succ, List.getElem?_cons_zero]; rfl) (by kernel_rfl) (by exact fun _ _ _ h => h) (by rfl) ?rp13 hF ?sp13
  case rp13 => (intro W hW; clear hW; go_simp; try with_reducible rfl)
  try simp only [Act.put, List.setIfInBounds_toArray, List.set_cons_zero, List.set_cons_succ]
  refine rg_take (i := 14) (v := ?vp14) (by simp only [List.getElem?_toArray, List.getElem?_cons_succ, List.getElem?_cons_zero]; rfl) (by kernel_rfl) (by exact fun _ _ _ h => h) (by rfl) ?rp14 hF ?sp14
  case rp14 => (intro W9 hW; obtain ⟨f1, f2, f3⟩ := hW; go_simp; try with_reducible rfl)
  try simp only [Act.put, List.setIfInBounds_toArray, List.set_cons_zero, List.set_cons_succ]
  refine rg_one (i := 10) (oi := ?op10) ?ap10 ?bp10 ?cp10 ?dp10
  case ap10 => (simp only [List.getElem?_toArray, List.getElem?_cons_succ, List.getElem?_cons_zero]; rfl)
  case bp10 => kernel_rfl
  case cp10 => rfl
  intro K hK
  (go_simp; refine (PQ.out v2 HK2.out).mono ?_; rintro e v3 ⟨rfl, rfl⟩)
  refine rg_use hK (HFC.out _ HK2.out) (fun hF => ?_)
  clear hK K
  try simp only [Act.put, List.setIfInBounds_toArray, List.set_cons_zero, List.set_cons_succ]
  refine rg_take (i := 15) (v := (.bool false)) (by simp only [List.getElem?_toArray, List.getElem?_cons_succ, List.getElem?_cons_zero]; rfl) (by kernel_rfl) (by exact fun _ _ _ h => h) (by rfl) ?rp15 hF ?sp15
  case rp15 => (intro W hW; clear hW; go_simp; try with_reducible rfl)
  try simp only [Act.put, List.setIfInBounds_toArray, List.set_cons_zero, List.set_cons_succ]
  refine rg_take (i := 16) (v := (.bool false)) (by simp only [List.getElem?_toArray, List.getElem?_cons_succ, List.getElem?_cons_zero]; rfl) (by kernel_rfl) (by exact fun _ _ _ h => h) (by rfl) ?rp16 hF ?sp16
  case rp16 => (intro W hW; clear hW; go_simp; try with_reducible rfl)
  try simp only [Act.put, List.setIfInBounds_toArray, List.set_cons_zero, List.set_cons_succ]
  refine rg_take (i := 17) (v := (.bool false)) (by simp only [List.getElem?_toArray, List.getElem?_cons_succ, List.getElem?_cons_zero]; rfl) (by kernel_rfl) (by exact fun _ _ _ h => h) (by rfl) ?rp17 hF ?sp17
  case rp17 => (intro W hW; clear hW; go_simp; try with_reducible rfl)
  try simp only [Act.put, List.setIfInBounds_toArray, List.set_cons_zero, List.set_cons_succ]
  refine rg_take (i := 18) (v := ?vp18) (by simp only [List.getElem?_toArray, List.getElem?_cons_succ, List.getElem?_cons_zero]; rfl) (by kernel_rfl) (by exact fun _ _ _ h => h) (by rfl) ?rp18 hF ?sp18
  case rp18 => (intro W hW; clear hW; go_simp; try with_reducible rfl)
  try simp only [Act.put, List.setIfInBounds_toArray, List.set_cons_zero, List.set_cons_succ]
  refine rg_take (i := 20) (v := ?vp20) (by simp only [List.getElem?_toArray, List.getElem?_cons_succ, List.getElem?_cons_zero]; rfl) (by kernel_rfl) (by exact fun _ _ _ h => h) (by rfl) ?rp20 hF ?sp20
  case rp20 => (intro W hW; clear hW; go_simp; try with_reducible rfl)
  try simp only [Act.put, List.setIfInBounds_toArray, List.set_cons_zero, List.set_cons_succ]
  refine rg_take (i := 21) (v := ?vp21) (by simp only [List.getElem?_toArray, List.getElem?_cons_succ, List.getElem?_cons_zero]; rfl) (by kernel_rfl) (by exact fun _ _ _ h => h) (by rfl) ?rp21 hF ?sp21
  case rp21 => (intro W hW; clear hW; go_simp; try with_reducible rfl)
  try simp only [Act.put, List.setIfInBounds_toArray, List.set_cons_zero, List.set_cons_succ]
  refine rg_take (i := 22) (v := ?vp22) (by simp only [List.getElem?_toArray, List.getElem?_cons_succ, List.getElem?_cons_zero]; rfl) (by kernel_rfl) (by exact fun _ _ _ h => h) (by rfl) ?rp22 hF ?sp22
  case rp22 => (intro W hW; clear hW; go_simp; try with_reducible rfl)
  try simp only [Act.put, List.setIfInBounds_toArray, List.set_cons_zero, List.set_cons_succ]
  refine rg_take (i := 23) (v := ?vp23) (by simp only [List.getElem?_toArray, List.getElem?_cons_succ, List.getElem?_cons_zero]; rfl) (by kernel_rfl) (by exact fun _ _ _ h => h) (by rfl) ?rp23 hF ?sp23
  case rp23 => (intro W9 hW; obtain ⟨f1, f2, f3⟩ := hW; go_simp; try with_reducible rfl)
  try simp only [Act.put, List.setIfInBounds_toArray, List.set_cons_zero, List.set_cons_succ]
  refine rg_one (i := 19) (oi := ?op19) ?ap19 ?bp19 ?cp19 ?dp19
  case ap19 => (simp only [List.getElem?_toArray, List.getElem?_cons_succ, List.getElem?_cons_zero]; rfl)
  case bp19 => kernel_rfl
  case cp19 => rfl
  intro K hK
  (go_simp; refine (PWr.out v2 HK2.out).mono ?_; rintro e v3 ⟨rfl, rfl⟩)
  refine rg_use hK (HFC.out _ HK2.out) (fun hF => ?_)
  clear hK K
  try simp only [Act.put, List.setIfInBounds_toArray, List.set_cons_zero, List.set_cons_succ]
  refine rg_take (i := 24) (v := (.bool false)) (by simp only [List.getElem?_toArray, List.getElem?_cons_succ, List.getElem?_cons_zero]; rfl) (by kernel_rfl) (by exact fun _ _ _ h => h) (by rfl) ?rp24 hF ?sp24
  case rp24 => (intro W hW; clear hW; go_simp; try with_reducible rfl)
  try simp only [Act.put, List.setIfInBounds_toArray, List.set_cons_zero, List.set_cons_succ]
  refine rg_take (i := 25) (v := (.bool false)) (by simp only [List.getElem?_toArray, List.getElem?_cons_succ, List.getElem?_cons_zero]; rfl) (by kernel_rfl) (by exact fun _ _ _ h => h) (by rfl) ?rp25 hF ?sp25
  case rp25 => (intro W hW; clear hW; go_simp; try with_reducible rfl)
  try simp only [Act.put, List.setIfInBounds_toArray, List.set_cons_zero, List.set_cons_succ]
  refine rg_done (by kernel_rfl) ?_
  have HN := Lib.hid (show PlaysI W B db sb rb rv n (k + 1) v2 (.pointer (some ⟨gb, 0, none⟩)) (.pointer (some ⟨rg, 0, none⟩)) from ⟨gb, rg, gg, d, rfl, rfl, HPS.out.no HK2.out, HWR.out, HKP.out.trans HK2.out⟩)
  clear hF
  go_wp2
  go_roundw
  case rel => exact ⟨k + 1, by omega, by go_num, HN.out⟩
  case measure => simp [intOf]; omega

end Go.Proofs.YtlgbmkdeamgpkaaGreatDoor.gatePlays

/- GatePlays returns true for every number and script: every call on a gate answers what the document says, over power cuts and new beginnings, down to every sector. No condition. -/
namespace Go.Proofs.YtlgbmkdeamgpkaaGreatDoor.gatePlays
open Go.ChangeShapes Go.WideShapes Go.ChangeAt Go.RowKit Go.PlainAid
open Go.ChangeMaps (open_string shut_string)

theorem own : ownKnob Tryz.prog.godebug = none := by kernel_rfl
theorem laidOut : laidOutB Tryz.prog = true := by kernel_rfl

set_option maxRecDepth 100000 in
theorem lifted (os : Os) (started : os.Started) (H : Type) (enc : TypeId × Value → H) :
    ReturnsInHanded {} Tryz.checked os 7 .any (fun w args => (Rows.gatePlaysSpec.pre enc Tryz.prog Tryz.f7 Rows.gatePlaysRow.domain false w args ∧ laidMetH Tryz.prog [("unicode/utf8.acceptRanges", Rows.laid_unicode_utf8_acceptRanges), ("unicode/utf8.first", Rows.laid_unicode_utf8_first)] w) ∧ sizedMet enc Tryz.prog Tryz.f7 (OpenSpec.ofChange Rows.gatePlaysSpec) false w args)
      (Rows.gatePlaysSpec.post enc Tryz.prog Tryz.f7 false true false false) := by
  refine returnsInHanded_and_shaped (C := Tryz.checked) (X := (fun w _ => laidMetH Tryz.prog [("unicode/utf8.acceptRanges", Rows.laid_unicode_utf8_acceptRanges), ("unicode/utf8.first", Rows.laid_unicode_utf8_first)] w)) (fun _ _ _ hh h => h.of_heap hh) own started (by kernel_rfl) Tryz.func7
    (ChangeSpec.witness_shaped (enc := enc) (C := Tryz.checked) (os := os) (X := (fun w _ => laidMetH Tryz.prog [("unicode/utf8.acceptRanges", Rows.laid_unicode_utf8_acceptRanges), ("unicode/utf8.first", Rows.laid_unicode_utf8_first)] w)) false (World.laidAll Tryz.prog os [("unicode/utf8.acceptRanges", Rows.laid_unicode_utf8_acceptRanges), ("unicode/utf8.first", Rows.laid_unicode_utf8_first)]) #[.int .i64 0, .slice none 0 0] 8 (World.laidAll_os _ _ _)
      (World.shaped_of_ZipB (by kernel_rfl) (by kernel_rfl)) (by kernel_rfl) (by kernel_rfl) (by kernel_rfl)
      (by rw [MakeChecks.laidMetH_plain _ _ _ (by kernel_rfl)]; exact laidMet_laidAll _ (by kernel_rfl) (by kernel_rfl))) ?_
  intro W base args ds gs before hval0 hW hcnd hsz0 hL hsh _
  have hval : ∀ (j : Nat) t v, Tryz.f7.params[j]? = some t → args[j]? = some v → Value.okWide Tryz.prog W .any base t v := hval0
  have hW' := hW
  obtain ⟨p, q, hA0, hV, rfl, hfz, hnd⟩ := hW
  have hA : DataW.TrodAll enc Tryz.prog W 0 (fun _ => true) true Tryz.f7.params.toList args.toList ds p := hA0
  rw [Tryz.params7] at hA hval
  obtain ⟨v0, vs0, d0, ds0, p0, q0, hargs, rfl, rfl, h0, r0⟩ := trodAll_cons hA
  obtain ⟨v1, vs1, d1, ds1, p1, q1, rfl, rfl, rfl, h1, r1⟩ := trodAll_cons r0
  obtain ⟨rfl, rfl, rfl⟩ := trodAll_nil r1
  obtain rfl : args = #[v0, v1] := by cases args; simp_all
  obtain ⟨rfl, rfl⟩ := trodVars_none hV
  have hsz : ∀ (j : Nat) (t : TypeId) (d : DataW H), ([3, 30] : List TypeId)[j]? = some t → [d0, d1][j]? = some d → ∀ n ∈ d.weights Tryz.prog t, n ≤ reachBytes := by
    intro j t d ht hd n hn
    have hsz1 : (DataW.weightsEach Tryz.prog ([3, 30] : List TypeId) [d0, d1]).all (· ≤ reachBytes) = true := hsz0
    have := List.all_eq_true.1 hsz1 n (DataW.weights_mem_each ht hd n hn)
    simpa using this
  have k0 := h0
  have lt0 : ∀ x ∈ p0, x.block < W.heap.size := by obtain ⟨m, hm⟩ := k0; exact DataW.trod_lt m _ _ _ hm
  obtain ⟨n0, rfl, rfl, rfl, x0⟩ := open_int Tryz.underlying3 (hval 0 3 v0 rfl rfl) h0
  have k1 := h1
  have lt1 : ∀ x ∈ p1, x.block < W.heap.size := by obtain ⟨m, hm⟩ := k1; exact DataW.trod_lt m _ _ _ hm
  obtain ⟨l1, hl1, hs1⟩ := open_ops (hval 1 30 v1 rfl rfl) h1 (hsz 1 30 d1 rfl rfl)
  refine (walk n0 v1 l1 W  hl1 hs1).mono fun e W' ⟨he, bel⟩ => ?_
  subst he
  exact ⟨_, rfl, _, _, _, [], _, [], hW', trodAll_mk1 (shut_bool Tryz.underlying4 _), (trodAll_cons_mk (Below.trod laidOut (by kernel_rfl) (of_decide_eq_true (by kernel_rfl)) k0 bel lt0) (trodAll_cons_mk (Below.trod laidOut (by kernel_rfl) (of_decide_eq_true (by kernel_rfl)) k1 bel lt1) trodAll_mk0)), rfl, bel.frame _, fun h => by cases h⟩

theorem over : Rows.gatePlaysRow.holds Tryz.pinned (OpenSpec.ofChange Rows.gatePlaysSpec) :=
  OpenClaim.holds_of_wide 7 Tryz.f7 rfl rfl rfl rfl rfl rfl rfl ⟨rfl, rfl, rfl, rfl, rfl⟩ rfl rfl rfl rfl rfl (by kernel_rfl) Tryz.func7 (by kernel_rfl)
    (of_decide_eq_true (by kernel_rfl)) (by unfold Func.isWrapper; first | (rw [if_pos (by decide +kernel)]; kernel_rfl) | (rw [if_neg (by decide +kernel)]; exact ⟨rfl, rfl⟩))
    (fun os started H enc _ => lifted os started H enc)

theorem proved : Rows.GatePlaysCardSaid :=
  Claim7.holds_tied_plain_at .later [] [.data, .pinned] true (true, "36de4b0e266865fa76cef0376ca197fae2bbf455f528766fd1e4f577ed6d676b") false over (fun _ h => by cases h) (by kernel_rfl) (fun _ h => by cases h) gatePlays_row_tie rfl ⟨rfl, rfl⟩ (by kernel_rfl) rfl
    (fun f fn hf hfn => by
      obtain rfl : f = 7 := Option.some.inj ((show Tryz.prog.funcNamed "sublet/subletlaw19.GatePlays" = some 7 by kernel_rfl).symm.trans hf) |>.symm
      obtain rfl : fn = Tryz.f7 := (Option.some.inj (Tryz.func7.symm.trans hfn)).symm
      exact ⟨by kernel_rfl, fun j t ht => by
        rw [Tryz.params7] at ht
        have hm : t ∈ ([3, 30] : List TypeId) := by simpa using Array.mem_of_getElem? ht
        have hall : (([3, 30] : List TypeId).all fun u => !Tryz.prog.wantsStandIn u) = true := by kernel_rfl
        exact (show Tryz.prog.wantsStandIn t = false by simpa using List.all_eq_true.1 hall t hm)⟩)
    (by kernel_rfl)
#print axioms proved
end Go.Proofs.YtlgbmkdeamgpkaaGreatDoor.gatePlays
