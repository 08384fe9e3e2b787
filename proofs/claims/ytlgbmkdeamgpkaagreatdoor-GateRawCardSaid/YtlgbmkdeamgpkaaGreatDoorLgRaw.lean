/- Several texts of this claim in one. No condition beyond what each theorem states. -/
import Derived.Test.YtlgbmkdeamgpkaaGreatDoorG10
import Derived.Test.YtlgbmkdeamgpkaaGreatDoorG11
import Derived.Test.YtlgbmkdeamgpkaaGreatDoorG09
import Derived.Test.YtlgbmkdeamgpkaaGreatDoorH10
import Derived.Test.YtlgbmkdeamgpkaaGreatDoorS01
import Derived.Test.YtlgbmkdeamgpkaaGreatDoorTie
import Derived.Test.YtlgbmkdeamgpkaaGreatDoorCards
/- The walk of GateRaw. No condition beyond what each theorem states. -/
namespace Go.Proofs.YtlgbmkdeamgpkaaGreatDoor.gateRaw
open Go.ChangeShapes Go.WideShapes Go.ChangeAt Go.RowKit Go.PlainAid
open Go.ChangeMaps (open_string shut_string)
section
variable {P : Program} {ops : Array Oper} {Q : Exit → Act → World → Prop} {md : Region.Mode} {F : World → Prop} {d : Nat}
/-- the two that may come up -/
theorem rg_two {i j : Nat} {oi oj : Oper} {fuel : Nat} {listed : Array Bool} {a : Act} {w : World} (hi : ops[i]? = some oi) (hj : ops[j]? = some oj) (hr : (Region.ready md ops listed == [i, j]) = true) (hyi : Region.wanted oi (yielded ops a.tmps) = true) (hyj : Region.wanted oj (yielded ops a.tmps) = true)
    (h1 : ∀ K : Act → World → Prop, (∀ a w, (i ≠ d → F w) → wpAnyD P md ops Q F d fuel (listed.setIfInBounds i true) a w → K a w) → Oper.wp P oi a w K Q)
    (h2 : ∀ K : Act → World → Prop, (∀ a w, (j ≠ d → F w) → wpAnyD P md ops Q F d fuel (listed.setIfInBounds j true) a w → K a w) → Oper.wp P oj a w K Q) : wpAnyD P md ops Q F d (fuel + 1) listed a w := by
  have hr' : Region.ready md ops listed = [i, j] := by simpa using hr
  refine ⟨fun h0 => (by rw [hr'] at h0; cases h0), fun k hk => ?_⟩
  rw [hr'] at hk
  unfold wpOp
  rcases List.mem_cons.1 hk with rfl | hk
  · simp only [hi, hyi, if_true]
    exact .inl (h1 _ fun a w h1 h2 => ⟨h1, h2⟩)
  · obtain rfl : k = j := by simpa using hk
    simp only [hj, hyj, if_true]
    exact .inl (h2 _ fun a w h1 h2 => ⟨h1, h2⟩)
end
theorem rmd_msg {w : World} {B rg rb : Nat} {v : Value} {n : Int} {g : Gat} {d : Dsk} {P : Nat → Prop} (hr : RgB w P rg rb n g) (hd : RdG w B rb v d) (hl : 0 < d.L.length) {q : Nat} {cs : List Value} (hb : Bk w q 38 cs) : ¬ RMd rg rb v q := by
  obtain ⟨rcs, hrg⟩ := hr.bk
  obtain ⟨gv, cs2, hob, hgv, _⟩ := hd.blk hl
  rintro (e | e | e)
  · exact hb.ne_ hrg (by decide) e
  · exact hb.ne_ hd.1.st (by decide) e
  · rw [hob] at e
    injection e with e
    exact hb.ne_ hgv (by decide) e.symm
theorem argR_rows {w : World} {v : Value} {L : List (List UInt8)} (h : ArgR w v L) : ArgRows w v L := by
  obtain ⟨A, c, xs, e, _, hl, hcs, hx⟩ := h
  refine ⟨A, c, xs, e, hl, hcs, fun i hi => ?_⟩
  obtain ⟨x, h1, A', c', e', _, h3⟩ := hx i hi
  exact ⟨x, h1, A', c', e', h3⟩
set_option maxRecDepth 100000 in
set_option maxHeartbeats 16000000 in
theorem walk (v : Value) (L : List (List UInt8)) (m : Msg) (A : Option Addr) (c : Nat) (W : World) (hv : ArgR W v L) (hL : L.length * 24 ≤ reachBytes) (hl : ∀ l ∈ L, l.length ≤ reachBytes) (ha : ArgInts W (.slice A m.stamp.length c) m.stamp) (hr : Rng m) (hs : Short maxLen m) (hst : m.stamp.length ≤ 17592186043904) (hpt : m.path.length ≤ 140737488355328) :
    Calls Tryz.prog 8 #[v, .agg (mcells m (.slice A m.stamp.length c)).toArray] W fun e w' => e = .returned (.bool true) ∧ Below W.heap.size W w' := by
  have HMM := Lib.hid (And.intro hr (And.intro hs (And.intro hst hpt)))
  obtain ⟨CM, hCM⟩ : ∃ C, C = mcells m (.slice A m.stamp.length c) := ⟨_, rfl⟩
  have HiM : Hid ((Tryz.prog.info? 38).map (·.size) = some CM.length) := Lib.hid (by rw [hCM]; kernel_rfl)
  have HCM := Lib.hid hCM
  have HMB := Lib.hid (show Bk (W.alloc (.cells CM.toArray 38)) W.heap.size 38 CM from Bk.new' rfl rfl)
  have HKB := Lib.hid ((Kp.refl No W).alloc (.cells CM.toArray 38))
  have HA := Lib.hid ha; have HV := Lib.hid hv
  obtain ⟨AL, cL, hvv, _, hx⟩ := hv.at_
  subst hvv
  have HX0 := Lib.hid hx
  have hL2 : L.length ≤ 5864062014805 := by unfold reachBytes at hL; omega
  have hl2 : ∀ l ∈ L, l.length ≤ 140737488355327 := fun l h => by have := hl l h; unfold reachBytes at this; omega
  have HL2 := Lib.hid hl2
  rw [← hCM]
  clear hCM ha hr hs hst hpt hv hx hL hl hl2
  go_enter Tryz.func8, Tryz.ntmps8
  go_wp2_with fail
  refine (awake_any _).mono ?_
  rintro e w ⟨rfl, ka⟩
  have HMW := Lib.hid (HMB.out.no ka); have HKW := Lib.hid (HKB.out.trans ka)
  clear ka HMB HKB
  go_wp2
  go_loopw [5, 20] (fun v i wr => ∃ k : Nat, k ≤ L.length ∧ i = .int .i64 k ∧ Rows wr w.heap.size v (L.take k) ∧ Kp No w wr) (fun _ i _ => L.length - (intOf i).toNat)
  case atStart => exact ⟨0, Nat.zero_le _, rfl, Rows.nil _ _, Kp.refl _ _⟩
  case round =>
  obtain ⟨k, hk, rfl, hrows, hkp⟩ := hrel
  have HR := Lib.hid hrows; have HKP := Lib.hid hkp; clear hrows hkp
  by_cases hlt : k < L.length
  · obtain ⟨g, o, a1, k1, rfl, hcx, hx2⟩ := HX0.out k hlt
    have hcx' := cell_no (cell_no hcx HKW.out) HKP.out
    have hik : (k : Int) < (L.length : Int) := by omega
    have hi0 : (0 : Int) ≤ (k : Int) := by omega
    have hnext : L.take (k + 1) = L.take k ++ [L[k]] := List.take_succ_eq_append_getElem hlt
    have hlen := HL2.out L[k] (List.getElem_mem hlt)
    have htk : (L.take k).length = k := by rw [List.length_take]; omega
    obtain ⟨l, hl'⟩ : ∃ l, L[k] = l := ⟨_, rfl⟩
    rw [hl'] at hcx' hx2 hnext hlen
    have HNX := Lib.hid hnext; have HAA := Lib.hid ((hx2.no HKW.out).no HKP.out); clear hnext hx2 hl' hcx
    go_wp2_with (first | (at_builtin; refine wpList_appB _ rfl (.tmp 25) (.tmp 26) rfl wr.heap.size _ [] rfl (by exact own_fresh wr _ _ (Nat.le_refl _)) _ _ _ l rfl rfl ((HAA.out.no ((Kp.refl No _).alloc _)).cs.1) (by simp; omega) (by simp) ?_; intro a2 n2 c2 w2 o2 f2 _; have K2 := f2 wr (Nat.le_refl _) ((Kp.refl No wr).alloc _); have HO2 := Lib.hid (OwnB.mono o2 HKP.out.size); have HR2 := Lib.hid (HR.out.no K2); have HK2 := Lib.hid (HKP.out.trans K2); clear o2 f2 K2) | (at_builtin; refine wpList_appR _ rfl (.tmp 24) (.tmp 28) rfl w.heap.size _ (L.take k) rfl (HR2.out.no ((Kp.refl No _).alloc _)) _ _ _ rfl l rfl (cs_new rfl rfl) (by have := HO2.out; simp only [List.nil_append] at this; exact this.alloc _) (by omega) (by have := HK2.out.size; simp; omega) ?_; intro a3 n3 c3 w3 r3 f3))
    have HR3 := Lib.hid r3; have HK3 := Lib.hid (f3 w (Nat.le_refl _) (HK2.out.alloc _)); clear r3 f3
    go_wp2
    go_roundw
    case rel => exact ⟨k + 1, by omega, by go_num, by rw [HNX.out]; exact HR3.out, HK3.out⟩
    case measure => simp [intOf]; omega
  obtain rfl : k = L.length := by omega
  have hkn : ¬ (L.length : Int) < (L.length : Int) := by omega
  have hmine := HR.out.arg
  rw [List.take_length] at hmine
  obtain ⟨AM, cM, hvm, _⟩ := hmine.at_
  subst hvm
  have HMI := Lib.hid (argR_rows hmine)
  have HIM := Lib.hid (argR_rows ((HV.out.no HKW.out).no HKP.out))
  have HKR := Lib.hid (HKW.out.trans HKP.out)
  have HMR := Lib.hid (HMW.out.no HKP.out)
  have HWS := Lib.hid (show W.heap.size + 1 ≤ w.heap.size from by have := HMW.out.lt; omega)
  have HWW := Lib.hid HKP.out.size
  clear hmine HR HX0 HL2 HKP HMW hk hlt HV
  by_cases hln : L.length < 1 ∨ 512 < L.length
  · have p1 := from_no AM L.length cM hln wr
    have p2 := rfrom_no AL L.length cL hln wr
    clear hln hkn
    go_wp2_with fail
    refine p1.mono ?_
    rintro e w' ⟨rfl, rfl⟩
    go_wp2_with fail
    refine p2.mono ?_
    rintro e w' ⟨rfl, rfl⟩
    clear p1 p2
    go_wp2
    go_ret
    exact ⟨rfl, HKR.out.below (Nat.le_refl _) fun _ _ m => m⟩
  have hn1 : 1 ≤ L.length := by omega
  have hn5 : L.length ≤ 512 := by omega
  have p1 := from_any (.slice AM L.length cM) L wr HMI.out hn1 hn5
  clear hln
  by_cases hgd : Good L
  rotate_left
  · go_wp2_with fail
    refine p1.mono ?_
    rintro e w1 ⟨k1, hno, _⟩
    have he := hno hgd
    subst he
    have p2 := rfrom_any (.slice AL L.length cL) L w1 (HIM.out.no k1) hn1 hn5
    have HK1 := Lib.hid (HKR.out.trans k1)
    clear p1 hno k1 hkn
    go_wp2_with fail
    refine p2.mono ?_
    rintro e w2 ⟨k2, hno, _⟩
    have he := hno hgd
    subst he
    have HK2 := Lib.hid (HK1.out.trans k2)
    clear p2 hno k2 hgd
    go_wp2
    go_ret
    exact ⟨rfl, HK2.out.below (Nat.le_refl _) fun _ _ m => m⟩
  go_wp2_with fail
  refine p1.mono ?_
  rintro e w1 ⟨k1, _, hyes⟩
  obtain ⟨db, sb, cap, rfl, hdb, hsb, hd1⟩ := hyes hgd
  have p2 := rfrom_any (.slice AL L.length cL) L w1 (HIM.out.no k1) hn1 hn5
  have HD1 := Lib.hid hd1; have HK1 := Lib.hid k1
  have HDB := Lib.hid (And.intro (Nat.le_trans HWW.out hdb) (Nat.le_trans HWW.out hsb))
  clear p1 hyes k1 hd1 hkn hdb hsb
  go_wp2_with fail
  refine p2.mono ?_
  rintro e w2 ⟨k2, _, hyes⟩
  obtain ⟨rb, rv, rfl, hr2⟩ := hyes hgd
  have HR2 := Lib.hid (show RdG w2 w.heap.size rb rv { L := L } from RdG.low ⟨hr2, (fun e => by cases e), Int.le_refl 0⟩ (Nat.le_trans HWW.out HK1.out.size))
  have HD2 := Lib.hid (HD1.out.no k2); have HK2 := Lib.hid ((HKR.out.trans HK1.out).trans k2); have HM2 := Lib.hid ((HMR.out.no HK1.out).no k2)
  have HSZ := Lib.hid (show w.heap.size ≤ w2.heap.size from Nat.le_trans HWW.out (Nat.le_trans HK1.out.size k2.size))
  have HGD := Lib.hid hgd
  clear p2 hyes k2 hr2 HD1 HK1 HKR HMR HMI HIM hgd
  by_cases h2 : L.length < 2
  · have p1 := start_small 8 db sb cap L 0 false 0 false w2 HD2.out.1 (by omega) (by omega) h2
    have p2 := rstart_small 8 rb w.heap.size L rv 0 (-1) false w2 HR2.out.1 (by omega) (by omega) (by omega) h2
    clear h2 hn1 hn5
    go_wp2_with fail
    refine p1.mono ?_
    rintro e w' ⟨rfl, rfl⟩
    go_wp2_with fail
    refine p2.mono ?_
    rintro e w' ⟨rfl, rfl⟩
    clear p1 p2
    go_wp2
    go_ret
    exact ⟨rfl, HK2.out.below (Nat.le_refl _) fun _ _ m => m⟩
  have hL2b : 2 ≤ L.length := by omega
  have HINV := Lib.hid (show GInv ⟨(startG L).1, (startG L).2, false⟩ { L := L } from ⟨hL2b, HGD.out, rfl⟩)
  have p1 := start_any 8 db sb cap L 0 false 0 w2 HD2.out.1 (by omega) (by omega) hL2b
  clear h2 hn1 hn5 hL2b
  go_wp2_with fail
  refine p1.mono ?_
  rintro e w3 ⟨gb, rfl, hg3, hb3, k3⟩
  have HGS := Lib.hid (show GS w3 w.heap.size gb db sb cap 8 ⟨(startG L).1, (startG L).2, false⟩ { L := L } from ⟨hb3.mono fun q hq => Nat.le_trans HSZ.out hq.1, HD2.out.no k3, HINV.out, Nat.le_trans HSZ.out hg3, HDB.out.1, HDB.out.2⟩)
  have HR3 := Lib.hid (HR2.out.no k3); have HK3 := Lib.hid (HK2.out.trans k3); have HM3 := Lib.hid (HM2.out.no k3); have HS3 := Lib.hid (Nat.le_trans HSZ.out k3.size)
  clear p1 hb3 hg3 k3 HR2 HD2 HK2 HM2
  have p2 := rstart_ps w.heap.size 0 rb rv 8 ⟨(startG L).1, (startG L).2, false⟩ { L := L } w3 HR3.out HINV.out (by omega) (by omega) rfl HS3.out
  go_wp2_with fail
  refine p2.mono ?_
  rintro e ws ⟨rg, rfl, hrg, hb4, k4⟩
  have HPS := Lib.hid (show PS ws w.heap.size gb db sb cap rg rb rv 8 ⟨(startG L).1, (startG L).2, false⟩ { L := L } from ⟨HGS.out.no k4, hb4, HR3.out.no k4, hrg⟩)
  have HKS := Lib.hid (HK3.out.trans k4); have HMS := Lib.hid (HM3.out.no k4)
  have HBW := Lib.hid (show W.heap.size ≤ w.heap.size from by have := HWS.out; omega)
  clear p2 hrg hb4 k4 HGS HR3 HK3 HM3 HINV HGD
  generalize hgg : (⟨(startG L).1, (startG L).2, false⟩ : Gat) = gg at *
  generalize hdd : ({ L := L } : Dsk) = d at *
  have HWR := Lib.hid (show d.wr = 0 from by rw [← hdd])
  clear hgg hdd
  obtain ⟨hvh, hb, hsl, _⟩ := HPS.out.rgb
  obtain ⟨AH, cH, rfl, _⟩ := id hsl
  have HSLR := Lib.hid hsl; have HBG := Lib.hid hb
  have hh4 := HPS.out.gs.high
  have HFC := Lib.hid (show ∀ W2, Kp No ws W2 → W2.cell? ⟨rg, 3, none⟩ = some (.slice AH gg.high.length cH) ∧ W2.cell? ⟨rg, 4, none⟩ = some (.int .i64 (gg.seq : Int)) from fun W2 kk => ⟨(HBG.out.no kk).cell 3, (HBG.out.no kk).cell 4⟩)
  have HRM := Lib.hid (show ∀ W2, Kp No ws W2 → W2.rangeAt W.heap.size 0 CM from fun W2 kk => range_of (HMS.out.no kk))
  have PG := Lib.hid (show ∀ W2, Kp No ws W2 → Calls Tryz.prog 18 #[.pointer (some ⟨gb, 0, none⟩)] W2 (HighR W2 gg.high) from fun W2 kk => high_any gb db 8 gg _ W2 (HPS.out.no kk).gs.gt hh4)
  have PE := Lib.hid (show ∀ W2, Kp No ws W2 → ∀ A1 c1, ArgInts W2 (.slice A1 gg.high.length c1) gg.high → Calls Tryz.prog 22 #[.slice A1 gg.high.length c1, .slice AH gg.high.length cH] W2 (fun e w' => e = .returned (.bool true) ∧ Kp No W2 w') from fun W2 kk A1 c1 ha => by
    have := sameInts_any (.slice A1 gg.high.length c1) (.slice AH gg.high.length cH) gg.high gg.high W2 ha (HSLR.out.no kk).arg (by unfold maxLen; omega) (by unfold maxLen; omega)
    rw [decide_eq_true rfl] at this
    exact this)
  have PQ := Lib.hid (show ∀ W2, Kp No ws W2 → Calls Tryz.prog 23 #[.pointer (some ⟨gb, 0, none⟩)] W2 (fun e w' => e = .returned (.int .i64 (gg.seq : Int)) ∧ W2 = w') from fun W2 kk => count_any gb db 8 gg _ W2 (HPS.out.no kk).gs.gt)
  have PO := Lib.hid (show ∀ W2, Kp No ws W2 → Calls Tryz.prog 14 #[.agg CM.toArray] W2 (fun e w' => ∃ A1 c1, e = .returned (.agg (mcells m (.slice A1 m.stamp.length c1)).toArray) ∧ w'.ownsRow W2.heap.size 3 1 (.slice A1 m.stamp.length c1) m.stamp.length (ints m.stamp) ∧ Kp No W2 w') from fun W2 kk => by
    rw [HCM.out]
    refine (own_any m (.slice A m.stamp.length c) W2 (HA.out.no (HKS.out.trans kk)) (by have := HMM.out.2.2.1; omega)).mono ?_
    rintro e w' ⟨sv, rfl, ho, hk⟩
    obtain ⟨A1, c1, rfl, _⟩ := own_len ho
    exact ⟨A1, c1, rfl, ho, hk⟩)
  obtain ⟨g2, d2, z2, hE⟩ : ∃ a b c, handleG 8 gg d m = (a, b, c) := ⟨_, _, _, rfl⟩
  have HEE := Lib.hid hE
  have HWB := Lib.hid (show d.wr < 4611686018427387904 from by rw [HWR.out]; omega)
  clear hE hb hsl hh4
  have PH := Lib.hid (show ∀ W2, Kp No ws W2 → ∀ A1 c1, SlI W2 (.slice A1 m.stamp.length c1) m.stamp → Calls Tryz.prog 15 #[.pointer (some ⟨gb, 0, none⟩), .agg (mcells m (.slice A1 m.stamp.length c1)).toArray] W2 (fun e w' => e = .returned (.int .i64 z2) ∧ GS w' w.heap.size gb db sb cap 8 g2 d2 ∧ Kp (GM gb db sb) W2 w') from fun W2 kk A1 c1 hs => by
    have := handle_gs w.heap.size gb db sb cap 8 gg d m A1 c1 W2 (HPS.out.gs.no kk) hs HMM.out.1 HMM.out.2.1 HWB.out
    unfold HandS at this
    rw [HEE.out] at this
    exact this)
  have HRK := Lib.hid (show ∀ W1, Kp No ws W1 → ∀ W2, Kp (GM gb db sb) W1 W2 → W2.rangeAt W.heap.size 0 CM from fun W1 kk W2 kg => range_of ((HMS.out.no kk).kp kg (GS.msg (HPS.out.gs.no kk) (HMS.out.no kk))))
  have PR := Lib.hid (show ∀ W1, Kp No ws W1 → ∀ W2, Kp (GM gb db sb) W1 W2 → GS W2 w.heap.size gb db sb cap 8 g2 d2 → Calls Tryz.prog 31 #[.pointer (some ⟨rg, 0, none⟩), .agg CM.toArray] W2 (fun e w' => e = .returned (.int .i64 z2) ∧ PS w' w.heap.size gb db sb cap rg rb rv 8 g2 d2 ∧ Kp No W w' ∧ w'.rangeAt W.heap.size 0 CM) from fun W1 kk W2 kg hgs => by
    have hmb := (HMS.out.no kk).kp kg (GS.msg (HPS.out.gs.no kk) (HMS.out.no kk))
    obtain ⟨hr, hd⟩ := (HPS.out.no kk).gm kg
    have hl : 0 < d.L.length := by have := HPS.out.gs.inv.two; omega
    have hkW : Kp No W W2 := GM.old (HPS.out.gs.no kk) HBW.out (HKS.out.trans kk) kg
    rw [show (#[.pointer (some ⟨rg, 0, none⟩), .agg CM.toArray] : Array Value) = #[.pointer (some ⟨rg, 0, none⟩), .agg (mcells m (.slice A m.stamp.length c)).toArray] from by rw [HCM.out]]
    refine (rhandle_any w.heap.size rg rb rv 8 gg d (fun q => w.heap.size ≤ q) m A c W2 hr hd HPS.out.gs.inv (HA.out.no hkW) HMM.out.2.1.2 HMM.out.2.2.2 HWB.out hgs.lt).mono ?_
    rintro e w' ⟨he, h1, h2, h3⟩
    rw [HEE.out] at he h1 h2
    refine ⟨he, ⟨PS.rm hgs hr hd hl h3, h1.mono fun q hq => ?_, h2, HPS.out.c1⟩, RMd.old HPS.out.c1 hd hl HBW.out hkW h3, range_of (hmb.kp h3 (rmd_msg hr hd hl hmb))⟩
    rcases hq with hq | hq
    · exact hq
    · exact Nat.le_trans hgs.lt hq)
  have hF : (fun W2 => W2.rangeAt W.heap.size 0 CM) ws.drew := HRM.out _ (Kp.refl No ws).drew
  go_upto_region 21 with (fail)
  go_cut [96] (fun s wx => s = .bool false ∧ PS wx w.heap.size gb db sb cap rg rb rv 8 g2 d2 ∧ Kp No W wx)
  case first =>
    refine rg_begin (fun W2 => W2.rangeAt W.heap.size 0 CM) 27 (by kernel_rfl) ?_
    refine rg_take (i := 0) (v := ?vq0) (by simp only [List.getElem?_toArray, List.getElem?_cons_zero]; rfl) (by kernel_rfl) (by exact fun _ _ _ h => h) (by rfl) ?rq0 hF ?sq0
    case rq0 => (intro W hW; clear hW; go_simp; try with_reducible rfl)
    try simp only [Act.put, List.setIfInBounds_toArray, List.set_cons_zero, List.set_cons_succ]
    refine rg_take (i := 2) (v := ?vq2) (by simp only [List.getElem?_toArray, List.getElem?_cons_succ, List.getElem?_cons_zero]; rfl) (by kernel_rfl) (by exact fun _ _ _ h => h) (by rfl) ?rq2 hF ?sq2
    case rq2 => (intro W hW; clear hW; go_simp; try with_reducible rfl)
    try simp only [Act.put, List.setIfInBounds_toArray, List.set_cons_zero, List.set_cons_succ]
    refine rg_take (i := 3) (v := ?vq3) (by simp only [List.getElem?_toArray, List.getElem?_cons_succ, List.getElem?_cons_zero]; rfl) (by kernel_rfl) (by exact fun _ _ _ h => h) (by rfl) ?rq3 hF ?sq3
    case rq3 => (intro W hW; clear hW; go_simp; try with_reducible rfl)
    try simp only [Act.put, List.setIfInBounds_toArray, List.set_cons_zero, List.set_cons_succ]
    refine rg_take (i := 4) (v := ?vq4) (by simp only [List.getElem?_toArray, List.getElem?_cons_succ, List.getElem?_cons_zero]; rfl) (by kernel_rfl) (by exact fun _ _ _ h => h) (by rfl) ?rq4 hF ?sq4
    case rq4 => (intro W hW; clear hW; go_simp; try with_reducible rfl)
    try simp only [Act.put, List.setIfInBounds_toArray, List.set_cons_zero, List.set_cons_succ]
    refine rg_two (i := 1) (j := 5) (oi := ?oq1) (oj := ?oq5) ?aq1 ?aq5 ?bq1 ?cq1 ?cq5 ?dq1 ?dq5
    case aq1 => (simp only [List.getElem?_toArray, List.getElem?_cons_succ, List.getElem?_cons_zero]; rfl)
    case aq5 => (simp only [List.getElem?_toArray, List.getElem?_cons_succ, List.getElem?_cons_zero]; rfl)
    case bq1 => kernel_rfl
    case cq1 => rfl
    case cq5 => rfl
    case dq1 =>
      intro K hK
      (go_simp; refine (PG.out _ (Kp.refl No ws).drew).mono ?_; rintro e u1 ⟨sv, rfl, o1, k1⟩; obtain ⟨A1, c1, rfl, _⟩ := own_len o1; have HK1 := Lib.hid ((Kp.refl No ws).drew.trans k1); have HO1 := Lib.hid o1; clear o1 k1)
      refine rg_use hK (HRM.out _ HK1.out) (fun hF => ?_)
      clear hK K
      try simp only [Act.put, List.setIfInBounds_toArray, List.set_cons_zero, List.set_cons_succ]
      refine rg_one (i := 5) (oi := ?oqx1x5) ?aqx1x5 ?bqx1x5 ?cqx1x5 ?dqx1x5
      case aqx1x5 => (simp only [List.getElem?_toArray, List.getElem?_cons_succ, List.getElem?_cons_zero]; rfl)
      case bqx1x5 => kernel_rfl
      case cqx1x5 => rfl
      intro K hK
      (have q3 := (HFC.out _ HK1.out).1; go_simp; clear q3)
      refine rg_use hK (HRM.out _ HK1.out) (fun hF => ?_)
      clear hK K
      try simp only [Act.put, List.setIfInBounds_toArray, List.set_cons_zero, List.set_cons_succ]
      refine rg_one (i := 6) (oi := ?oqx1x6) ?aqx1x6 ?bqx1x6 ?cqx1x6 ?dqx1x6
      case aqx1x6 => (simp only [List.getElem?_toArray, List.getElem?_cons_succ, List.getElem?_cons_zero]; rfl)
      case bqx1x6 => kernel_rfl
      case cqx1x6 => rfl
      intro K hK
      (go_simp; refine (PE.out _ HK1.out A1 c1 (own_argI HO1.out)).mono ?_; rintro e u2 ⟨rfl, k2⟩; have HK2 := Lib.hid (HK1.out.trans k2); clear k2)
      refine rg_use hK (HRM.out _ HK2.out) (fun hF => ?_)
      clear hK K
      try simp only [Act.put, List.setIfInBounds_toArray, List.set_cons_zero, List.set_cons_succ]
      refine rg_take (i := 7) (v := (.bool false)) (by simp only [List.getElem?_toArray, List.getElem?_cons_succ, List.getElem?_cons_zero]; rfl) (by kernel_rfl) (by exact fun _ _ _ h => h) (by rfl) ?rqx1x7 hF ?sqx1x7
      case rqx1x7 => (intro W hW; clear hW; go_simp; try with_reducible rfl)
      try simp only [Act.put, List.setIfInBounds_toArray, List.set_cons_zero, List.set_cons_succ]
      refine rg_take (i := 8) (v := (.bool false)) (by simp only [List.getElem?_toArray, List.getElem?_cons_succ, List.getElem?_cons_zero]; rfl) (by kernel_rfl) (by exact fun _ _ _ h => h) (by rfl) ?rqx1x8 hF ?sqx1x8
      case rqx1x8 => (intro W hW; clear hW; go_simp; try with_reducible rfl)
      try simp only [Act.put, List.setIfInBounds_toArray, List.set_cons_zero, List.set_cons_succ]
      refine rg_take (i := 9) (v := ?vqx1x9) (by simp only [List.getElem?_toArray, List.getElem?_cons_succ, List.getElem?_cons_zero]; rfl) (by kernel_rfl) (by exact fun _ _ _ h => h) (by rfl) ?rqx1x9 hF ?sqx1x9
      case rqx1x9 => (intro W hW; clear hW; go_simp; try with_reducible rfl)
      try simp only [Act.put, List.setIfInBounds_toArray, List.set_cons_zero, List.set_cons_succ]
      refine rg_take (i := 11) (v := ?vqx1x11) (by simp only [List.getElem?_toArray, List.getElem?_cons_succ, List.getElem?_cons_zero]; rfl) (by kernel_rfl) (by exact fun _ _ _ h => h) (by rfl) ?rqx1x11 hF ?sqx1x11
      case rqx1x11 => (intro W hW; clear hW; go_simp; try with_reducible rfl)
      try simp only [Act.put, List.setIfInBounds_toArray, List.set_cons_zero, List.set_cons_succ]
      refine rg_take (i := 12) (v := ?vqx1x12) (by simp only [List.getElem?_toArray, List.getElem?_cons_succ, List.getElem?_cons_zero]; rfl) (by kernel_rfl) (by exact fun _ _ _ h => h) (by rfl) ?rqx1x12 hF ?sqx1x12
      case rqx1x12 => (intro W hW; clear hW; go_simp; try with_reducible rfl)
      try simp only [Act.put, List.setIfInBounds_toArray, List.set_cons_zero, List.set_cons_succ]
      refine rg_take (i := 13) (v := ?vqx1x13) (by simp only [List.getElem?_toArray, List.getElem?_cons_succ, List.getElem?_cons_zero]; rfl) (by kernel_rfl) (by exact fun _ _ _ h => h) (by rfl) ?rqx1x13 hF ?sqx1x13
      case rqx1x13 => (intro W hW; clear hW; go_simp; try with_reducible rfl)
      try simp only [Act.put, List.setIfInBounds_toArray, List.set_cons_zero, List.set_cons_succ]
      refine rg_two (i := 10) (j := 14) (oi := ?oqx1x10) (oj := ?oqx1x14) ?aqx1x10 ?aqx1x14 ?bqx1x10 ?cqx1x10 ?cqx1x14 ?dqx1x10 ?dqx1x14
      case aqx1x10 => (simp only [List.getElem?_toArray, List.getElem?_cons_succ, List.getElem?_cons_zero]; rfl)
      case aqx1x14 => (simp only [List.getElem?_toArray, List.getElem?_cons_succ, List.getElem?_cons_zero]; rfl)
      case bqx1x10 => kernel_rfl
      case cqx1x10 => rfl
      case cqx1x14 => rfl
      case dqx1x10 =>
        intro K hK
        (go_simp; refine (PQ.out _ HK2.out).mono ?_; rintro e w' ⟨rfl, rfl⟩)
        refine rg_use hK (HRM.out _ HK2.out) (fun hF => ?_)
        clear hK K
        try simp only [Act.put, List.setIfInBounds_toArray, List.set_cons_zero, List.set_cons_succ]
        refine rg_one (i := 14) (oi := ?oqx1xx10x14) ?aqx1xx10x14 ?bqx1xx10x14 ?cqx1xx10x14 ?dqx1xx10x14
        case aqx1xx10x14 => (simp only [List.getElem?_toArray, List.getElem?_cons_succ, List.getElem?_cons_zero]; rfl)
        case bqx1xx10x14 => kernel_rfl
        case cqx1xx10x14 => rfl
        intro K hK
        (have q4 := (HFC.out _ HK2.out).2; go_simp; clear q4)
        refine rg_use hK (HRM.out _ HK2.out) (fun hF => ?_)
        clear hK K
        try simp only [Act.put, List.setIfInBounds_toArray, List.set_cons_zero, List.set_cons_succ]
        refine rg_take (i := 15) (v := (.bool false)) (by simp only [List.getElem?_toArray, List.getElem?_cons_succ, List.getElem?_cons_zero]; rfl) (by kernel_rfl) (by exact fun _ _ _ h => h) (by rfl) ?rqx1xx10x15 hF ?sqx1xx10x15
        case rqx1xx10x15 => (intro W hW; clear hW; go_simp; try with_reducible rfl)
        try simp only [Act.put, List.setIfInBounds_toArray, List.set_cons_zero, List.set_cons_succ]
        refine rg_take (i := 16) (v := (.bool false)) (by simp only [List.getElem?_toArray, List.getElem?_cons_succ, List.getElem?_cons_zero]; rfl) (by kernel_rfl) (by exact fun _ _ _ h => h) (by rfl) ?rqx1xx10x16 hF ?sqx1xx10x16
        case rqx1xx10x16 => (intro W hW; clear hW; go_simp; try with_reducible rfl)
        try simp only [Act.put, List.setIfInBounds_toArray, List.set_cons_zero, List.set_cons_succ]
        refine rg_take (i := 17) (v := (.bool false)) (by simp only [List.getElem?_toArray, List.getElem?_cons_succ, List.getElem?_cons_zero]; rfl) (by kernel_rfl) (by exact fun _ _ _ h => h) (by rfl) ?rqx1xx10x17 hF ?sqx1xx10x17
        case rqx1xx10x17 => (intro W hW; clear hW; go_simp; try with_reducible rfl)
        try simp only [Act.put, List.setIfInBounds_toArray, List.set_cons_zero, List.set_cons_succ]
        refine rg_take (i := 18) (v := ?vqx1xx10x18) (by simp only [List.getElem?_toArray, List.getElem?_cons_succ, List.getElem?_cons_zero]; rfl) (by kernel_rfl) (by exact fun _ _ _ h => h) (by rfl) ?rqx1xx10x18 hF ?sqx1xx10x18
        case rqx1xx10x18 => (intro W hW; clear hW; go_simp; try with_reducible rfl)
        try simp only [Act.put, List.setIfInBounds_toArray, List.set_cons_zero, List.set_cons_succ]
        refine rg_take (i := 19) (v := ?vqx1xx10x19) (by simp only [List.getElem?_toArray, List.getElem?_cons_succ, List.getElem?_cons_zero]; rfl) (by kernel_rfl) (by exact fun _ _ _ h => h) (by rfl) ?rqx1xx10x19 hF ?sqx1xx10x19
        case rqx1xx10x19 => (intro W9 hW; refine exec_load_mid W9 38 (.tmp 3) ?_ W.heap.size 0 ?_ CM _ hW Tryz.underlying38 ?_ HiM.out; exact rfl; exact rfl; exact rfl)
        try simp only [Act.put, List.setIfInBounds_toArray, List.set_cons_zero, List.set_cons_succ]
        refine rg_take (i := 22) (v := ?vqx1xx10x22) (by simp only [List.getElem?_toArray, List.getElem?_cons_succ, List.getElem?_cons_zero]; rfl) (by kernel_rfl) (by exact fun _ _ _ h => h) (by rfl) ?rqx1xx10x22 hF ?sqx1xx10x22
        case rqx1xx10x22 => (intro W hW; clear hW; go_simp; try with_reducible rfl)
        try simp only [Act.put, List.setIfInBounds_toArray, List.set_cons_zero, List.set_cons_succ]
        refine rg_take (i := 23) (v := ?vqx1xx10x23) (by simp only [List.getElem?_toArray, List.getElem?_cons_succ, List.getElem?_cons_zero]; rfl) (by kernel_rfl) (by exact fun _ _ _ h => h) (by rfl) ?rqx1xx10x23 hF ?sqx1xx10x23
        case rqx1xx10x23 => (intro W9 hW; refine exec_load_mid W9 38 (.tmp 3) ?_ W.heap.size 0 ?_ CM _ hW Tryz.underlying38 ?_ HiM.out; exact rfl; exact rfl; exact rfl)
        try simp only [Act.put, List.setIfInBounds_toArray, List.set_cons_zero, List.set_cons_succ]
        refine rg_one (i := 20) (oi := ?oqx1xx10x20) ?aqx1xx10x20 ?bqx1xx10x20 ?cqx1xx10x20 ?dqx1xx10x20
        case aqx1xx10x20 => (simp only [List.getElem?_toArray, List.getElem?_cons_succ, List.getElem?_cons_zero]; rfl)
        case bqx1xx10x20 => kernel_rfl
        case cqx1xx10x20 => rfl
        intro K hK
        (go_simp; refine (PO.out _ HK2.out).mono ?_; rintro e u3 ⟨A3, c3, rfl, o1, k1⟩; have HK3 := Lib.hid (HK2.out.trans k1); have HO3 := Lib.hid o1; clear o1 k1)
        refine rg_use hK (HRM.out _ HK3.out) (fun hF => ?_)
        clear hK K
        try simp only [Act.put, List.setIfInBounds_toArray, List.set_cons_zero, List.set_cons_succ]
        refine rg_one (i := 21) (oi := ?oqx1xx10x21) ?aqx1xx10x21 ?bqx1xx10x21 ?cqx1xx10x21 ?dqx1xx10x21
        case aqx1xx10x21 => (simp only [List.getElem?_toArray, List.getElem?_cons_succ, List.getElem?_cons_zero]; rfl)
        case bqx1xx10x21 => kernel_rfl
        case cqx1xx10x21 => rfl
        intro K hK
        (go_simp; refine (PH.out _ HK3.out A3 c3 (own_slI HO3.out)).mono ?_; rintro e u4 ⟨rfl, g2s, k2⟩; have HG4 := Lib.hid g2s; have HM4 := Lib.hid k2; clear g2s k2)
        refine rg_use hK (HRK.out _ HK3.out _ HM4.out) (fun hF => ?_)
        clear hK K
        try simp only [Act.put, List.setIfInBounds_toArray, List.set_cons_zero, List.set_cons_succ]
        refine rg_one (i := 24) (oi := ?oqx1xx10x24) ?aqx1xx10x24 ?bqx1xx10x24 ?cqx1xx10x24 ?dqx1xx10x24
        case aqx1xx10x24 => (simp only [List.getElem?_toArray, List.getElem?_cons_succ, List.getElem?_cons_zero]; rfl)
        case bqx1xx10x24 => kernel_rfl
        case cqx1xx10x24 => rfl
        intro K hK
        (go_simp; refine (PR.out _ HK3.out _ HM4.out HG4.out).mono ?_; rintro e u5 ⟨rfl, hps, hkk, hrr⟩; have HP5 := Lib.hid hps; have HKK5 := Lib.hid hkk; have HRR5 := Lib.hid hrr; clear hps hkk hrr)
        refine rg_use hK (HRR5.out) (fun hF => ?_)
        clear hK K
        try simp only [Act.put, List.setIfInBounds_toArray, List.set_cons_zero, List.set_cons_succ]
        refine rg_take (i := 25) (v := (.bool false)) (by simp only [List.getElem?_toArray, List.getElem?_cons_succ, List.getElem?_cons_zero]; rfl) (by kernel_rfl) (by exact fun _ _ _ h => h) (by rfl) ?rqx1xx10x25 hF ?sqx1xx10x25
        case rqx1xx10x25 => (intro W hW; clear hW; go_simp; try with_reducible rfl)
        try simp only [Act.put, List.setIfInBounds_toArray, List.set_cons_zero, List.set_cons_succ]
        refine rg_take (i := 26) (v := (.bool false)) (by simp only [List.getElem?_toArray, List.getElem?_cons_succ, List.getElem?_cons_zero]; rfl) (by kernel_rfl) (by exact fun _ _ _ h => h) (by rfl) ?rqx1xx10x26 hF ?sqx1xx10x26
        case rqx1xx10x26 => (intro W hW; clear hW; go_simp; try with_reducible rfl)
        try simp only [Act.put, List.setIfInBounds_toArray, List.set_cons_zero, List.set_cons_succ]
        refine rg_done (by kernel_rfl) ?_
        go_wp2
        go_meet
        exact ⟨rfl, HP5.out, HKK5.out⟩
      case dqx1x14 =>
        intro K hK
        (have q4 := (HFC.out _ HK2.out).2; go_simp; clear q4)
        refine rg_use hK (HRM.out _ HK2.out) (fun hF => ?_)
        clear hK K
        try simp only [Act.put, List.setIfInBounds_toArray, List.set_cons_zero, List.set_cons_succ]
        refine rg_one (i := 10) (oi := ?oqx1xx14x10) ?aqx1xx14x10 ?bqx1xx14x10 ?cqx1xx14x10 ?dqx1xx14x10
        case aqx1xx14x10 => (simp only [List.getElem?_toArray, List.getElem?_cons_succ, List.getElem?_cons_zero]; rfl)
        case bqx1xx14x10 => kernel_rfl
        case cqx1xx14x10 => rfl
        intro K hK
        (go_simp; refine (PQ.out _ HK2.out).mono ?_; rintro e w' ⟨rfl, rfl⟩)
        refine rg_use hK (HRM.out _ HK2.out) (fun hF => ?_)
        clear hK K
        try simp only [Act.put, List.setIfInBounds_toArray, List.set_cons_zero, List.set_cons_succ]
        refine rg_take (i := 15) (v := (.bool false)) (by simp only [List.getElem?_toArray, List.getElem?_cons_succ, List.getElem?_cons_zero]; rfl) (by kernel_rfl) (by exact fun _ _ _ h => h) (by rfl) ?rqx1xx14x15 hF ?sqx1xx14x15
        case rqx1xx14x15 => (intro W hW; clear hW; go_simp; try with_reducible rfl)
        try simp only [Act.put, List.setIfInBounds_toArray, List.set_cons_zero, List.set_cons_succ]
        refine rg_take (i := 16) (v := (.bool false)) (by simp only [List.getElem?_toArray, List.getElem?_cons_succ, List.getElem?_cons_zero]; rfl) (by kernel_rfl) (by exact fun _ _ _ h => h) (by rfl) ?rqx1xx14x16 hF ?sqx1xx14x16
        case rqx1xx14x16 => (intro W hW; clear hW; go_simp; try with_reducible rfl)
        try simp only [Act.put, List.setIfInBounds_toArray, List.set_cons_zero, List.set_cons_succ]
        refine rg_take (i := 17) (v := (.bool false)) (by simp only [List.getElem?_toArray, List.getElem?_cons_succ, List.getElem?_cons_zero]; rfl) (by kernel_rfl) (by exact fun _ _ _ h => h) (by rfl) ?rqx1xx14x17 hF ?sqx1xx14x17
        case rqx1xx14x17 => (intro W hW; clear hW; go_simp; try with_reducible rfl)
        try simp only [Act.put, List.setIfInBounds_toArray, List.set_cons_zero, List.set_cons_succ]
        refine rg_take (i := 18) (v := ?vqx1xx14x18) (by simp only [List.getElem?_toArray, List.getElem?_cons_succ, List.getElem?_cons_zero]; rfl) (by kernel_rfl) (by exact fun _ _ _ h => h) (by rfl) ?rqx1xx14x18 hF ?sqx1xx14x18
        case rqx1xx14x18 => (intro W hW; clear hW; go_simp; try with_reducible rfl)
        try simp only [Act.put, List.setIfInBounds_toArray, List.set_cons_zero, List.set_cons_succ]
        refine rg_take (i := 19) (v := ?vqx1xx14x19) (by simp only [List.getElem?_toArray, List.getElem?_cons_succ, List.getElem?_cons_zero]; rfl) (by kernel_rfl) (by exact fun _ _ _ h => h) (by rfl) ?rqx1xx14x19 hF ?sqx1xx14x19
        case rqx1xx14x19 => (intro W9 hW; refine exec_load_mid W9 38 (.tmp 3) ?_ W.heap.size 0 ?_ CM _ hW Tryz.underlying38 ?_ HiM.out; exact rfl; exact rfl; exact rfl)
        try simp only [Act.put, List.setIfInBounds_toArray, List.set_cons_zero, List.set_cons_succ]
        refine rg_take (i := 22) (v := ?vqx1xx14x22) (by simp only [List.getElem?_toArray, List.getElem?_cons_succ, List.getElem?_cons_zero]; rfl) (by kernel_rfl) (by exact fun _ _ _ h => h) (by rfl) ?rqx1xx14x22 hF ?sqx1xx14x22
        case rqx1xx14x22 => (intro W hW; clear hW; go_simp; try with_reducible rfl)
        try simp only [Act.put, List.setIfInBounds_toArray, List.set_cons_zero, List.set_cons_succ]
        refine rg_take (i := 23) (v := ?vqx1xx14x23) (by simp only [List.getElem?_toArray, List.getElem?_cons_succ, List.getElem?_cons_zero]; rfl) (by kernel_rfl) (by exact fun _ _ _ h => h) (by rfl) ?rqx1xx14x23 hF ?sqx1xx14x23
        case rqx1xx14x23 => (intro W9 hW; refine exec_load_mid W9 38 (.tmp 3) ?_ W.heap.size 0 ?_ CM _ hW Tryz.underlying38 ?_ HiM.out; exact rfl; exact rfl; exact rfl)
        try simp only [Act.put, List.setIfInBounds_toArray, List.set_cons_zero, List.set_cons_succ]
        refine rg_one (i := 20) (oi := ?oqx1xx14x20) ?aqx1xx14x20 ?bqx1xx14x20 ?cqx1xx14x20 ?dqx1xx14x20
        case aqx1xx14x20 => (simp only [List.getElem?_toArray, List.getElem?_cons_succ, List.getElem?_cons_zero]; rfl)
        case bqx1xx14x20 => kernel_rfl
        case cqx1xx14x20 => rfl
        intro K hK
        (go_simp; refine (PO.out _ HK2.out).mono ?_; rintro e u3 ⟨A3, c3, rfl, o1, k1⟩; have HK3 := Lib.hid (HK2.out.trans k1); have HO3 := Lib.hid o1; clear o1 k1)
        refine rg_use hK (HRM.out _ HK3.out) (fun hF => ?_)
        clear hK K
        try simp only [Act.put, List.setIfInBounds_toArray, List.set_cons_zero, List.set_cons_succ]
        refine rg_one (i := 21) (oi := ?oqx1xx14x21) ?aqx1xx14x21 ?bqx1xx14x21 ?cqx1xx14x21 ?dqx1xx14x21
        case aqx1xx14x21 => (simp only [List.getElem?_toArray, List.getElem?_cons_succ, List.getElem?_cons_zero]; rfl)
        case bqx1xx14x21 => kernel_rfl
        case cqx1xx14x21 => rfl
        intro K hK
        (go_simp; refine (PH.out _ HK3.out A3 c3 (own_slI HO3.out)).mono ?_; rintro e u4 ⟨rfl, g2s, k2⟩; have HG4 := Lib.hid g2s; have HM4 := Lib.hid k2; clear g2s k2)
        refine rg_use hK (HRK.out _ HK3.out _ HM4.out) (fun hF => ?_)
        clear hK K
        try simp only [Act.put, List.setIfInBounds_toArray, List.set_cons_zero, List.set_cons_succ]
        refine rg_one (i := 24) (oi := ?oqx1xx14x24) ?aqx1xx14x24 ?bqx1xx14x24 ?cqx1xx14x24 ?dqx1xx14x24
        case aqx1xx14x24 => (simp only [List.getElem?_toArray, List.getElem?_cons_succ, List.getElem?_cons_zero]; rfl)
        case bqx1xx14x24 => kernel_rfl
        case cqx1xx14x24 => rfl
        intro K hK
        (go_simp; refine (PR.out _ HK3.out _ HM4.out HG4.out).mono ?_; rintro e u5 ⟨rfl, hps, hkk, hrr⟩; have HP5 := Lib.hid hps; have HKK5 := Lib.hid hkk; have HRR5 := Lib.hid hrr; clear hps hkk hrr)
        refine rg_use hK (HRR5.out) (fun hF => ?_)
        clear hK K
        try simp only [Act.put, List.setIfInBounds_toArray, List.set_cons_zero, List.set_cons_succ]
        refine rg_take (i := 25) (v := (.bool false)) (by simp only [List.getElem?_toArray, List.getElem?_cons_succ, List.getElem?_cons_zero]; rfl) (by kernel_rfl) (by exact fun _ _ _ h => h) (by rfl) ?rqx1xx14x25 hF ?sqx1xx14x25
        case rqx1xx14x25 => (intro W hW; clear hW; go_simp; try with_reducible rfl)
        try simp only [Act.put, List.setIfInBounds_toArray, List.set_cons_zero, List.set_cons_succ]
        refine rg_take (i := 26) (v := (.bool false)) (by simp only [List.getElem?_toArray, List.getElem?_cons_succ, List.getElem?_cons_zero]; rfl) (by kernel_rfl) (by exact fun _ _ _ h => h) (by rfl) ?rqx1xx14x26 hF ?sqx1xx14x26
        case rqx1xx14x26 => (intro W hW; clear hW; go_simp; try with_reducible rfl)
        try simp only [Act.put, List.setIfInBounds_toArray, List.set_cons_zero, List.set_cons_succ]
        refine rg_done (by kernel_rfl) ?_
        go_wp2
        go_meet
        exact ⟨rfl, HP5.out, HKK5.out⟩
    case dq5 =>
      intro K hK
      (have q3 := (HFC.out _ (Kp.refl No ws).drew).1; go_simp; clear q3)
      refine rg_use hK (HRM.out _ (Kp.refl No ws).drew) (fun hF => ?_)
      clear hK K
      try simp only [Act.put, List.setIfInBounds_toArray, List.set_cons_zero, List.set_cons_succ]
      refine rg_one (i := 1) (oi := ?oqx5x1) ?aqx5x1 ?bqx5x1 ?cqx5x1 ?dqx5x1
      case aqx5x1 => (simp only [List.getElem?_toArray, List.getElem?_cons_succ, List.getElem?_cons_zero]; rfl)
      case bqx5x1 => kernel_rfl
      case cqx5x1 => rfl
      intro K hK
      (go_simp; refine (PG.out _ (Kp.refl No ws).drew).mono ?_; rintro e u1 ⟨sv, rfl, o1, k1⟩; obtain ⟨A1, c1, rfl, _⟩ := own_len o1; have HK1 := Lib.hid ((Kp.refl No ws).drew.trans k1); have HO1 := Lib.hid o1; clear o1 k1)
      refine rg_use hK (HRM.out _ HK1.out) (fun hF => ?_)
      clear hK K
      try simp only [Act.put, List.setIfInBounds_toArray, List.set_cons_zero, List.set_cons_succ]
      refine rg_one (i := 6) (oi := ?oqx5x6) ?aqx5x6 ?bqx5x6 ?cqx5x6 ?dqx5x6
      case aqx5x6 => (simp only [List.getElem?_toArray, List.getElem?_cons_succ, List.getElem?_cons_zero]; rfl)
      case bqx5x6 => kernel_rfl
      case cqx5x6 => rfl
      intro K hK
      (go_simp; refine (PE.out _ HK1.out A1 c1 (own_argI HO1.out)).mono ?_; rintro e u2 ⟨rfl, k2⟩; have HK2 := Lib.hid (HK1.out.trans k2); clear k2)
      refine rg_use hK (HRM.out _ HK2.out) (fun hF => ?_)
      clear hK K
      try simp only [Act.put, List.setIfInBounds_toArray, List.set_cons_zero, List.set_cons_succ]
      refine rg_take (i := 7) (v := (.bool false)) (by simp only [List.getElem?_toArray, List.getElem?_cons_succ, List.getElem?_cons_zero]; rfl) (by kernel_rfl) (by exact fun _ _ _ h => h) (by rfl) ?rqx5x7 hF ?sqx5x7
      case rqx5x7 => (intro W hW; clear hW; go_simp; try with_reducible rfl)
      try simp only [Act.put, List.setIfInBounds_toArray, List.set_cons_zero, List.set_cons_succ]
      refine rg_take (i := 8) (v := (.bool false)) (by simp only [List.getElem?_toArray, List.getElem?_cons_succ, List.getElem?_cons_zero]; rfl) (by kernel_rfl) (by exact fun _ _ _ h => h) (by rfl) ?rqx5x8 hF ?sqx5x8
      case rqx5x8 => (intro W hW; clear hW; go_simp; try with_reducible rfl)
      try simp only [Act.put, List.setIfInBounds_toArray, List.set_cons_zero, List.set_cons_succ]
      refine rg_take (i := 9) (v := ?vqx5x9) (by simp only [List.getElem?_toArray, List.getElem?_cons_succ, List.getElem?_cons_zero]; rfl) (by kernel_rfl) (by exact fun _ _ _ h => h) (by rfl) ?rqx5x9 hF ?sqx5x9
      case rqx5x9 => (intro W hW; clear hW; go_simp; try with_reducible rfl)
      try simp only [Act.put, List.setIfInBounds_toArray, List.set_cons_zero, List.set_cons_succ]
      refine rg_take (i := 11) (v := ?vqx5x11) (by simp only [List.getElem?_toArray, List.getElem?_cons_succ, List.getElem?_cons_zero]; rfl) (by kernel_rfl) (by exact fun _ _ _ h => h) (by rfl) ?rqx5x11 hF ?sqx5x11
      case rqx5x11 => (intro W hW; clear hW; go_simp; try with_reducible rfl)
      try simp only [Act.put, List.setIfInBounds_toArray, List.set_cons_zero, List.set_cons_succ]
      refine rg_take (i := 12) (v := ?vqx5x12) (by simp only [List.getElem?_toArray, List.getElem?_cons_succ, List.getElem?_cons_zero]; rfl) (by kernel_rfl) (by exact fun _ _ _ h => h) (by rfl) ?rqx5x12 hF ?sqx5x12
      case rqx5x12 => (intro W hW; clear hW; go_simp; try with_reducible rfl)
      try simp only [Act.put, List.setIfInBounds_toArray, List.set_cons_zero, List.set_cons_succ]
      refine rg_take (i := 13) (v := ?vqx5x13) (by simp only [List.getElem?_toArray, List.getElem?_cons_succ, List.getElem?_cons_zero]; rfl) (by kernel_rfl) (by exact fun _ _ _ h => h) (by rfl) ?rqx5x13 hF ?sqx5x13
      case rqx5x13 => (intro W hW; clear hW; go_simp; try with_reducible rfl)
      try simp only [Act.put, List.setIfInBounds_toArray, List.set_cons_zero, List.set_cons_succ]
      refine rg_two (i := 10) (j := 14) (oi := ?oqx5x10) (oj := ?oqx5x14) ?aqx5x10 ?aqx5x14 ?bqx5x10 ?cqx5x10 ?cqx5x14 ?dqx5x10 ?dqx5x14
      case aqx5x10 => (simp only [List.getElem?_toArray, List.getElem?_cons_succ, List.getElem?_cons_zero]; rfl)
      case aqx5x14 => (simp only [List.getElem?_toArray, List.getElem?_cons_succ, List.getElem?_cons_zero]; rfl)
      case bqx5x10 => kernel_rfl
      case cqx5x10 => rfl
      case cqx5x14 => rfl
      case dqx5x10 =>
        intro K hK
        (go_simp; refine (PQ.out _ HK2.out).mono ?_; rintro e w' ⟨rfl, rfl⟩)
        refine rg_use hK (HRM.out _ HK2.out) (fun hF => ?_)
        clear hK K
        try simp only [Act.put, List.setIfInBounds_toArray, List.set_cons_zero, List.set_cons_succ]
        refine rg_one (i := 14) (oi := ?oqx5xx10x14) ?aqx5xx10x14 ?bqx5xx10x14 ?cqx5xx10x14 ?dqx5xx10x14
        case aqx5xx10x14 => (simp only [List.getElem?_toArray, List.getElem?_cons_succ, List.getElem?_cons_zero]; rfl)
        case bqx5xx10x14 => kernel_rfl
        case cqx5xx10x14 => rfl
        intro K hK
        (have q4 := (HFC.out _ HK2.out).2; go_simp; clear q4)
        refine rg_use hK (HRM.out _ HK2.out) (fun hF => ?_)
        clear hK K
        try simp only [Act.put, List.setIfInBounds_toArray, List.set_cons_zero, List.set_cons_succ]
        refine rg_take (i := 15) (v := (.bool false)) (by simp only [List.getElem?_toArray, List.getElem?_cons_succ, List.getElem?_cons_zero]; rfl) (by kernel_rfl) (by exact fun _ _ _ h => h) (by rfl) ?rqx5xx10x15 hF ?sqx5xx10x15
        case rqx5xx10x15 => (intro W hW; clear hW; go_simp; try with_reducible rfl)
        try simp only [Act.put, List.setIfInBounds_toArray, List.set_cons_zero, List.set_cons_succ]
        refine rg_take (i := 16) (v := (.bool false)) (by simp only [List.getElem?_toArray, List.getElem?_cons_succ, List.getElem?_cons_zero]; rfl) (by kernel_rfl) (by exact fun _ _ _ h => h) (by rfl) ?rqx5xx10x16 hF ?sqx5xx10x16
        case rqx5xx10x16 => (intro W hW; clear hW; go_simp; try with_reducible rfl)
        try simp only [Act.put, List.setIfInBounds_toArray, List.set_cons_zero, List.set_cons_succ]
        refine rg_take (i := 17) (v := (.bool false)) (by simp only [List.getElem?_toArray, List.getElem?_cons_succ, List.getElem?_cons_zero]; rfl) (by kernel_rfl) (by exact fun _ _ _ h => h) (by rfl) ?rqx5xx10x17 hF ?sqx5xx10x17
        case rqx5xx10x17 => (intro W hW; clear hW; go_simp; try with_reducible rfl)
        try simp only [Act.put, List.setIfInBounds_toArray, List.set_cons_zero, List.set_cons_succ]
        refine rg_take (i := 18) (v := ?vqx5xx10x18) (by simp only [List.getElem?_toArray, List.getElem?_cons_succ, List.getElem?_cons_zero]; rfl) (by kernel_rfl) (by exact fun _ _ _ h => h) (by rfl) ?rqx5xx10x18 hF ?sqx5xx10x18
        case rqx5xx10x18 => (intro W hW; clear hW; go_simp; try with_reducible rfl)
        try simp only [Act.put, List.setIfInBounds_toArray, List.set_cons_zero, List.set_cons_succ]
        refine rg_take (i := 19) (v := ?vqx5xx10x19) (by simp only [List.getElem?_toArray, List.getElem?_cons_succ, List.getElem?_cons_zero]; rfl) (by kernel_rfl) (by exact fun _ _ _ h => h) (by rfl) ?rqx5xx10x19 hF ?sqx5xx10x19
        case rqx5xx10x19 => (intro W9 hW; refine exec_load_mid W9 38 (.tmp 3) ?_ W.heap.size 0 ?_ CM _ hW Tryz.underlying38 ?_ HiM.out; exact rfl; exact rfl; exact rfl)
        try simp only [Act.put, List.setIfInBounds_toArray, List.set_cons_zero, List.set_cons_succ]
        refine rg_take (i := 22) (v := ?vqx5xx10x22) (by simp only [List.getElem?_toArray, List.getElem?_cons_succ, List.getElem?_cons_zero]; rfl) (by kernel_rfl) (by exact fun _ _ _ h => h) (by rfl) ?rqx5xx10x22 hF ?sqx5xx10x22
        case rqx5xx10x22 => (intro W hW; clear hW; go_simp; try with_reducible rfl)
        try simp only [Act.put, List.setIfInBounds_toArray, List.set_cons_zero, List.set_cons_succ]
        refine rg_take (i := 23) (v := ?vqx5xx10x23) (by simp only [List.getElem?_toArray, List.getElem?_cons_succ, List.getElem?_cons_zero]; rfl) (by kernel_rfl) (by exact fun _ _ _ h => h) (by rfl) ?rqx5xx10x23 hF ?sqx5xx10x23
        case rqx5xx10x23 => (intro W9 hW; refine exec_load_mid W9 38 (.tmp 3) ?_ W.heap.size 0 ?_ CM _ hW Tryz.underlying38 ?_ HiM.out; exact rfl; exact rfl; exact rfl)
        try simp only [Act.put, List.setIfInBounds_toArray, List.set_cons_zero, List.set_cons_succ]
        refine rg_one (i := 20) (oi := ?oqx5xx10x20) ?aqx5xx10x20 ?bqx5xx10x20 ?cqx5xx10x20 ?dqx5xx10x20
        case aqx5xx10x20 => (simp only [List.getElem?_toArray, List.getElem?_cons_succ, List.getElem?_cons_zero]; rfl)
        case bqx5xx10x20 => kernel_rfl
        case cqx5xx10x20 => rfl
        intro K hK
        (go_simp; refine (PO.out _ HK2.out).mono ?_; rintro e u3 ⟨A3, c3, rfl, o1, k1⟩; have HK3 := Lib.hid (HK2.out.trans k1); have HO3 := Lib.hid o1; clear o1 k1)
        refine rg_use hK (HRM.out _ HK3.out) (fun hF => ?_)
        clear hK K
        try simp only [Act.put, List.setIfInBounds_toArray, List.set_cons_zero, List.set_cons_succ]
        refine rg_one (i := 21) (oi := ?oqx5xx10x21) ?aqx5xx10x21 ?bqx5xx10x21 ?cqx5xx10x21 ?dqx5xx10x21
        case aqx5xx10x21 => (simp only [List.getElem?_toArray, List.getElem?_cons_succ, List.getElem?_cons_zero]; rfl)
        case bqx5xx10x21 => kernel_rfl
        case cqx5xx10x21 => rfl
        intro K hK
        (go_simp; refine (PH.out _ HK3.out A3 c3 (own_slI HO3.out)).mono ?_; rintro e u4 ⟨rfl, g2s, k2⟩; have HG4 := Lib.hid g2s; have HM4 := Lib.hid k2; clear g2s k2)
        refine rg_use hK (HRK.out _ HK3.out _ HM4.out) (fun hF => ?_)
        clear hK K
        try simp only [Act.put, List.setIfInBounds_toArray, List.set_cons_zero, List.set_cons_succ]
        refine rg_one (i := 24) (oi := ?oqx5xx10x24) ?aqx5xx10x24 ?bqx5xx10x24 ?cqx5xx10x24 ?dqx5xx10x24
        case aqx5xx10x24 => (simp only [List.getElem?_toArray, List.getElem?_cons_succ, List.getElem?_cons_zero]; rfl)
        case bqx5xx10x24 => kernel_rfl
        case cqx5xx10x24 => rfl
        intro K hK
        (go_simp; refine (PR.out _ HK3.out _ HM4.out HG4.out).mono ?_; rintro e u5 ⟨rfl, hps, hkk, hrr⟩; have HP5 := Lib.hid hps; have HKK5 := Lib.hid hkk; have HRR5 := Lib.hid hrr; clear hps hkk hrr)
        refine rg_use hK (HRR5.out) (fun hF => ?_)
        clear hK K
        try simp only [Act.put, List.setIfInBounds_toArray, List.set_cons_zero, List.set_cons_succ]
        refine rg_take (i := 25) (v := (.bool false)) (by simp only [List.getElem?_toArray, List.getElem?_cons_succ, List.getElem?_cons_zero]; rfl) (by kernel_rfl) (by exact fun _ _ _ h => h) (by rfl) ?rqx5xx10x25 hF ?sqx5xx10x25
        case rqx5xx10x25 => (intro W hW; clear hW; go_simp; try with_reducible rfl)
        try simp only [Act.put, List.setIfInBounds_toArray, List.set_cons_zero, List.set_cons_succ]
        refine rg_take (i := 26) (v := (.bool false)) (by simp only [List.getElem?_toArray, List.getElem?_cons_succ, List.getElem?_cons_zero]; rfl) (by kernel_rfl) (by exact fun _ _ _ h => h) (by rfl) ?rqx5xx10x26 hF ?sqx5xx10x26
        case rqx5xx10x26 => (intro W hW; clear hW; go_simp; try with_reducible rfl)
        try simp only [Act.put, List.setIfInBounds_toArray, List.set_cons_zero, List.set_cons_succ]
        refine rg_done (by kernel_rfl) ?_
        go_wp2
        go_meet
        exact ⟨rfl, HP5.out, HKK5.out⟩
      case dqx5x14 =>
        intro K hK
        (have q4 := (HFC.out _ HK2.out).2; go_simp; clear q4)
        refine rg_use hK (HRM.out _ HK2.out) (fun hF => ?_)
        clear hK K
        try simp only [Act.put, List.setIfInBounds_toArray, List.set_cons_zero, List.set_cons_succ]
        refine rg_one (i := 10) (oi := ?oqx5xx14x10) ?aqx5xx14x10 ?bqx5xx14x10 ?cqx5xx14x10 ?dqx5xx14x10
        case aqx5xx14x10 => (simp only [List.getElem?_toArray, List.getElem?_cons_succ, List.getElem?_cons_zero]; rfl)
        case bqx5xx14x10 => kernel_rfl
        case cqx5xx14x10 => rfl
        intro K hK
        (go_simp; refine (PQ.out _ HK2.out).mono ?_; rintro e w' ⟨rfl, rfl⟩)
        refine rg_use hK (HRM.out _ HK2.out) (fun hF => ?_)
        clear hK K
        try simp only [Act.put, List.setIfInBounds_toArray, List.set_cons_zero, List.set_cons_succ]
        refine rg_take (i := 15) (v := (.bool false)) (by simp only [List.getElem?_toArray, List.getElem?_cons_succ, List.getElem?_cons_zero]; rfl) (by kernel_rfl) (by exact fun _ _ _ h => h) (by rfl) ?rqx5xx14x15 hF ?sqx5xx14x15
        case rqx5xx14x15 => (intro W hW; clear hW; go_simp; try with_reducible rfl)
        try simp only [Act.put, List.setIfInBounds_toArray, List.set_cons_zero, List.set_cons_succ]
        refine rg_take (i := 16) (v := (.bool false)) (by simp only [List.getElem?_toArray, List.getElem?_cons_succ, List.getElem?_cons_zero]; rfl) (by kernel_rfl) (by exact fun _ _ _ h => h) (by rfl) ?rqx5xx14x16 hF ?sqx5xx14x16
        case rqx5xx14x16 => (intro W hW; clear hW; go_simp; try with_reducible rfl)
        try simp only [Act.put, List.setIfInBounds_toArray, List.set_cons_zero, List.set_cons_succ]
        refine rg_take (i := 17) (v := (.bool false)) (by simp only [List.getElem?_toArray, List.getElem?_cons_succ, List.getElem?_cons_zero]; rfl) (by kernel_rfl) (by exact fun _ _ _ h => h) (by rfl) ?rqx5xx14x17 hF ?sqx5xx14x17
        case rqx5xx14x17 => (intro W hW; clear hW; go_simp; try with_reducible rfl)
        try simp only [Act.put, List.setIfInBounds_toArray, List.set_cons_zero, List.set_cons_succ]
        refine rg_take (i := 18) (v := ?vqx5xx14x18) (by simp only [List.getElem?_toArray, List.getElem?_cons_succ, List.getElem?_cons_zero]; rfl) (by kernel_rfl) (by exact fun _ _ _ h => h) (by rfl) ?rqx5xx14x18 hF ?sqx5xx14x18
        case rqx5xx14x18 => (intro W hW; clear hW; go_simp; try with_reducible rfl)
        try simp only [Act.put, List.setIfInBounds_toArray, List.set_cons_zero, List.set_cons_succ]
        refine rg_take (i := 19) (v := ?vqx5xx14x19) (by simp only [List.getElem?_toArray, List.getElem?_cons_succ, List.getElem?_cons_zero]; rfl) (by kernel_rfl) (by exact fun _ _ _ h => h) (by rfl) ?rqx5xx14x19 hF ?sqx5xx14x19
        case rqx5xx14x19 => (intro W9 hW; refine exec_load_mid W9 38 (.tmp 3) ?_ W.heap.size 0 ?_ CM _ hW Tryz.underlying38 ?_ HiM.out; exact rfl; exact rfl; exact rfl)
        try simp only [Act.put, List.setIfInBounds_toArray, List.set_cons_zero, List.set_cons_succ]
        refine rg_take (i := 22) (v := ?vqx5xx14x22) (by simp only [List.getElem?_toArray, List.getElem?_cons_succ, List.getElem?_cons_zero]; rfl) (by kernel_rfl) (by exact fun _ _ _ h => h) (by rfl) ?rqx5xx14x22 hF ?sqx5xx14x22
        case rqx5xx14x22 => (intro W hW; clear hW; go_simp; try with_reducible rfl)
        try simp only [Act.put, List.setIfInBounds_toArray, List.set_cons_zero, List.set_cons_succ]
        refine rg_take (i := 23) (v := ?vqx5xx14x23) (by simp only [List.getElem?_toArray, List.getElem?_cons_succ, List.getElem?_cons_zero]; rfl) (by kernel_rfl) (by exact fun _ _ _ h => h) (by rfl) ?rqx5xx14x23 hF ?sqx5xx14x23
        case rqx5xx14x23 => (intro W9 hW; refine exec_load_mid W9 38 (.tmp 3) ?_ W.heap.size 0 ?_ CM _ hW Tryz.underlying38 ?_ HiM.out; exact rfl; exact rfl; exact rfl)
        try simp only [Act.put, List.setIfInBounds_toArray, List.set_cons_zero, List.set_cons_succ]
        refine rg_one (i := 20) (oi := ?oqx5xx14x20) ?aqx5xx14x20 ?bqx5xx14x20 ?cqx5xx14x20 ?dqx5xx14x20
        case aqx5xx14x20 => (simp only [List.getElem?_toArray, List.getElem?_cons_succ, List.getElem?_cons_zero]; rfl)
        case bqx5xx14x20 => kernel_rfl
        case cqx5xx14x20 => rfl
        intro K hK
        (go_simp; refine (PO.out _ HK2.out).mono ?_; rintro e u3 ⟨A3, c3, rfl, o1, k1⟩; have HK3 := Lib.hid (HK2.out.trans k1); have HO3 := Lib.hid o1; clear o1 k1)
        refine rg_use hK (HRM.out _ HK3.out) (fun hF => ?_)
        clear hK K
        try simp only [Act.put, List.setIfInBounds_toArray, List.set_cons_zero, List.set_cons_succ]
        refine rg_one (i := 21) (oi := ?oqx5xx14x21) ?aqx5xx14x21 ?bqx5xx14x21 ?cqx5xx14x21 ?dqx5xx14x21
        case aqx5xx14x21 => (simp only [List.getElem?_toArray, List.getElem?_cons_succ, List.getElem?_cons_zero]; rfl)
        case bqx5xx14x21 => kernel_rfl
        case cqx5xx14x21 => rfl
        intro K hK
        (go_simp; refine (PH.out _ HK3.out A3 c3 (own_slI HO3.out)).mono ?_; rintro e u4 ⟨rfl, g2s, k2⟩; have HG4 := Lib.hid g2s; have HM4 := Lib.hid k2; clear g2s k2)
        refine rg_use hK (HRK.out _ HK3.out _ HM4.out) (fun hF => ?_)
        clear hK K
        try simp only [Act.put, List.setIfInBounds_toArray, List.set_cons_zero, List.set_cons_succ]
        refine rg_one (i := 24) (oi := ?oqx5xx14x24) ?aqx5xx14x24 ?bqx5xx14x24 ?cqx5xx14x24 ?dqx5xx14x24
        case aqx5xx14x24 => (simp only [List.getElem?_toArray, List.getElem?_cons_succ, List.getElem?_cons_zero]; rfl)
        case bqx5xx14x24 => kernel_rfl
        case cqx5xx14x24 => rfl
        intro K hK
        (go_simp; refine (PR.out _ HK3.out _ HM4.out HG4.out).mono ?_; rintro e u5 ⟨rfl, hps, hkk, hrr⟩; have HP5 := Lib.hid hps; have HKK5 := Lib.hid hkk; have HRR5 := Lib.hid hrr; clear hps hkk hrr)
        refine rg_use hK (HRR5.out) (fun hF => ?_)
        clear hK K
        try simp only [Act.put, List.setIfInBounds_toArray, List.set_cons_zero, List.set_cons_succ]
        refine rg_take (i := 25) (v := (.bool false)) (by simp only [List.getElem?_toArray, List.getElem?_cons_succ, List.getElem?_cons_zero]; rfl) (by kernel_rfl) (by exact fun _ _ _ h => h) (by rfl) ?rqx5xx14x25 hF ?sqx5xx14x25
        case rqx5xx14x25 => (intro W hW; clear hW; go_simp; try with_reducible rfl)
        try simp only [Act.put, List.setIfInBounds_toArray, List.set_cons_zero, List.set_cons_succ]
        refine rg_take (i := 26) (v := (.bool false)) (by simp only [List.getElem?_toArray, List.getElem?_cons_succ, List.getElem?_cons_zero]; rfl) (by kernel_rfl) (by exact fun _ _ _ h => h) (by rfl) ?rqx5xx14x26 hF ?sqx5xx14x26
        case rqx5xx14x26 => (intro W hW; clear hW; go_simp; try with_reducible rfl)
        try simp only [Act.put, List.setIfInBounds_toArray, List.set_cons_zero, List.set_cons_succ]
        refine rg_done (by kernel_rfl) ?_
        go_wp2
        go_meet
        exact ⟨rfl, HP5.out, HKK5.out⟩
  case rest =>
  obtain ⟨rfl, hps, hkp⟩ := hcut
  clear hF HFC HRM PG PE PQ PO PH PR HRK HPS HKS HMS HSLR HBG HEE HWB HWR HA HCM
  have HPS := Lib.hid hps; have HKP := Lib.hid hkp
  obtain ⟨gg, hgg⟩ : ∃ x, x = g2 := ⟨_, rfl⟩
  obtain ⟨d, hdd⟩ : ∃ x, x = d2 := ⟨_, rfl⟩
  rw [← hgg, ← hdd] at HPS
  clear hgg hdd hps hkp
  obtain ⟨hv, hb, hsl, _⟩ := HPS.out.rgb
  obtain ⟨AH, cH, rfl, _⟩ := id hsl
  have HSLR := Lib.hid hsl; have HBG := Lib.hid hb
  have hh4 := HPS.out.gs.high
  have h512 := HPS.out.gs.dk.1.n2
  have h2 := HPS.out.gs.inv.two
  obtain ⟨gvv, gcap, hgv, _⟩ := rows_at HPS.out.rd.1.ro (by omega)
  have HROW := Lib.hid (show ∀ W2, Kp No wc W2 → W2.cell? ⟨rb, 0, none⟩ = some (.slice (some ⟨gvv, 0, none⟩) d.L.length gcap) ∧ ArgRows W2 (.slice (some ⟨gvv, 0, none⟩) d.L.length gcap) d.L from fun W2 kk => by
    rw [← hgv]
    exact ⟨(HPS.out.no kk).rd.1.st.cell 0, (HPS.out.no kk).rd.1.ro.arg⟩)
  have HFC := Lib.hid (show ∀ W2, Kp No wc W2 → (fun W2 => W2.cell? ⟨rg, 3, none⟩ = some (.slice AH gg.high.length cH) ∧ W2.cell? ⟨rb, 0, none⟩ = some (.slice (some ⟨gvv, 0, none⟩) d.L.length gcap)) W2 from fun W2 kk => ⟨(HBG.out.no kk).cell 3, (HROW.out W2 kk).1⟩)
  have PG := Lib.hid (show ∀ W2, Kp No wc W2 → Calls Tryz.prog 18 #[.pointer (some ⟨gb, 0, none⟩)] W2 (HighR W2 gg.high) from fun W2 kk => high_any gb db 8 gg _ W2 (HPS.out.no kk).gs.gt hh4)
  have PE := Lib.hid (show ∀ W2, Kp No wc W2 → ∀ A1 c1, ArgInts W2 (.slice A1 gg.high.length c1) gg.high → Calls Tryz.prog 22 #[.slice A1 gg.high.length c1, .slice AH gg.high.length cH] W2 (fun e w' => e = .returned (.bool true) ∧ Kp No W2 w') from fun W2 kk A1 c1 ha => by
    have := sameInts_any (.slice A1 gg.high.length c1) (.slice AH gg.high.length cH) gg.high gg.high W2 ha (HSLR.out.no kk).arg (by unfold maxLen; omega) (by unfold maxLen; omega)
    rw [decide_eq_true rfl] at this
    exact this)
  have PIM := Lib.hid (show ∀ W2, Kp No wc W2 → Calls Tryz.prog 33 #[.pointer (some ⟨db, 0, none⟩)] W2 (fun e w' => ∃ v, e = .returned v ∧ RowsOf w' W2.heap.size v d.L 91 ∧ Kp No W2 w') from fun W2 kk => image_any db sb cap W2 d.L d.wr d.ar d.lf d.off (HPS.out.no kk).gs.dk.1)
  have PSM := Lib.hid (show ∀ W2, Kp No wc W2 → ∀ vi, ArgRows W2 vi d.L → Calls Tryz.prog 32 #[vi, .slice (some ⟨gvv, 0, none⟩) d.L.length gcap] W2 (fun e w' => e = .returned (.bool true) ∧ Kp No W2 w') from fun W2 kk vi hvi => by
    refine (dsame_any vi _ d.L d.L W2 hvi (HROW.out W2 kk).2 rfl (by omega)).mono ?_
    rintro e w' ⟨rfl, n, rfl⟩
    exact ⟨by rw [decide_eq_true rfl], (Kp.refl No W2).drewN n⟩)
  have hF : (fun W2 => W2.cell? ⟨rg, 3, none⟩ = some (.slice AH gg.high.length cH) ∧ W2.cell? ⟨rb, 0, none⟩ = some (.slice (some ⟨gvv, 0, none⟩) d.L.length gcap)) wc.drew := HFC.out _ (Kp.refl No wc).drew
  clear hb hsl hh4 h512 h2 hgv
  go_upto_region 23 with (fail)
  refine rg_begin (fun W2 => W2.cell? ⟨rg, 3, none⟩ = some (.slice AH gg.high.length cH) ∧ W2.cell? ⟨rb, 0, none⟩ = some (.slice (some ⟨gvv, 0, none⟩) d.L.length gcap)) 17 (by kernel_rfl) ?_
  refine rg_take (i := 0) (v := ?vz0) (by simp only [List.getElem?_toArray, List.getElem?_cons_zero]; rfl) (by kernel_rfl) (by exact fun _ _ _ h => h) (by rfl) ?rz0 hF ?sz0
  case rz0 => (intro W hW; clear hW; go_simp; try with_reducible rfl)
  try simp only [Act.put, List.setIfInBounds_toArray, List.set_cons_zero, List.set_cons_succ]
  refine rg_take (i := 2) (v := ?vz2) (by simp only [List.getElem?_toArray, List.getElem?_cons_succ, List.getElem?_cons_zero]; rfl) (by kernel_rfl) (by exact fun _ _ _ h => h) (by rfl) ?rz2 hF ?sz2
  case rz2 => (intro W hW; clear hW; go_simp; try with_reducible rfl)
  try simp only [Act.put, List.setIfInBounds_toArray, List.set_cons_zero, List.set_cons_succ]
  refine rg_take (i := 3) (v := ?vz3) (by simp only [List.getElem?_toArray, List.getElem?_cons_succ, List.getElem?_cons_zero]; rfl) (by kernel_rfl) (by exact fun _ _ _ h => h) (by rfl) ?rz3 hF ?sz3
  case rz3 => (intro W hW; clear hW; go_simp; try with_reducible rfl)
  try simp only [Act.put, List.setIfInBounds_toArray, List.set_cons_zero, List.set_cons_succ]
  refine rg_take (i := 4) (v := ?vz4) (by simp only [List.getElem?_toArray, List.getElem?_cons_succ, List.getElem?_cons_zero]; rfl) (by kernel_rfl) (by exact fun _ _ _ h => h) (by rfl) ?rz4 hF ?sz4
  case rz4 => (intro W hW; clear hW; go_simp; try with_reducible rfl)
  try simp only [Act.put, List.setIfInBounds_toArray, List.set_cons_zero, List.set_cons_succ]
  refine rg_take (i := 5) (v := ?vz5) (by simp only [List.getElem?_toArray, List.getElem?_cons_succ, List.getElem?_cons_zero]; rfl) (by kernel_rfl) (by exact fun _ _ _ h => h) (by rfl) ?rz5 hF ?sz5
  case rz5 => (intro W9 hW; obtain ⟨f1, f2⟩ := hW; go_simp; try with_reducible rfl)
  try simp only [Act.put, List.setIfInBounds_toArray, List.set_cons_zero, List.set_cons_succ]
  refine rg_one (i := 1) (oi := ?oz1) ?az1 ?bz1 ?cz1 ?dz1
  case az1 => (simp only [List.getElem?_toArray, List.getElem?_cons_succ, List.getElem?_cons_zero]; rfl)
  case bz1 => kernel_rfl
  case cz1 => rfl
  intro K hK
  (go_simp; refine (PG.out _ (Kp.refl No wc).drew).mono ?_; rintro e v1 ⟨sv, rfl, o1, k1⟩; obtain ⟨A1, c1, rfl, _⟩ := own_len o1; have HK1 := Lib.hid ((Kp.refl No wc).drew.trans k1); have HO1 := Lib.hid o1; clear o1 k1)
  refine rg_use hK (HFC.out _ HK1.out) (fun hF => ?_)
  clear hK K
  try simp only [Act.put, List.setIfInBounds_toArray, List.set_cons_zero, List.set_cons_succ]
  refine rg_one (i := 6) (oi := ?oz6) ?az6 ?bz6 ?cz6 ?dz6
  case az6 => (simp only [List.getElem?_toArray, List.getElem?_cons_succ, List.getElem?_cons_zero]; rfl)
  case bz6 => kernel_rfl
  case cz6 => rfl
  intro K hK
  (go_simp; refine (PE.out v1 HK1.out A1 c1 (own_argI HO1.out)).mono ?_; rintro e v2 ⟨rfl, k2⟩; have HK2 := Lib.hid (HK1.out.trans k2); clear k2)
  refine rg_use hK (HFC.out _ HK2.out) (fun hF => ?_)
  clear hK K
  try simp only [Act.put, List.setIfInBounds_toArray, List.set_cons_zero, List.set_cons_succ]
  refine rg_take (i := 7) (v := (.bool true)) (by simp only [List.getElem?_toArray, List.getElem?_cons_succ, List.getElem?_cons_zero]; rfl) (by kernel_rfl) (by exact fun _ _ _ h => h) (by rfl) ?rz7 hF ?sz7
  case rz7 => (intro W hW; clear hW; go_simp; try with_reducible rfl)
  try simp only [Act.put, List.setIfInBounds_toArray, List.set_cons_zero, List.set_cons_succ]
  refine rg_take (i := 8) (v := ?vz8) (by simp only [List.getElem?_toArray, List.getElem?_cons_succ, List.getElem?_cons_zero]; rfl) (by kernel_rfl) (by exact fun _ _ _ h => h) (by rfl) ?rz8 hF ?sz8
  case rz8 => (intro W hW; clear hW; go_simp; try with_reducible rfl)
  try simp only [Act.put, List.setIfInBounds_toArray, List.set_cons_zero, List.set_cons_succ]
  refine rg_take (i := 10) (v := ?vz10) (by simp only [List.getElem?_toArray, List.getElem?_cons_succ, List.getElem?_cons_zero]; rfl) (by kernel_rfl) (by exact fun _ _ _ h => h) (by rfl) ?rz10 hF ?sz10
  case rz10 => (intro W hW; clear hW; go_simp; try with_reducible rfl)
  try simp only [Act.put, List.setIfInBounds_toArray, List.set_cons_zero, List.set_cons_succ]
  refine rg_take (i := 11) (v := ?vz11) (by simp only [List.getElem?_toArray, List.getElem?_cons_succ, List.getElem?_cons_zero]; rfl) (by kernel_rfl) (by exact fun _ _ _ h => h) (by rfl) ?rz11 hF ?sz11
  case rz11 => (intro W hW; clear hW; go_simp; try with_reducible rfl)
  try simp only [Act.put, List.setIfInBounds_toArray, List.set_cons_zero, List.set_cons_succ]
  refine rg_take (i := 12) (v := ?vz12) (by simp only [List.getElem?_toArray, List.getElem?_cons_succ, List.getElem?_cons_zero]; rfl) (by kernel_rfl) (by exact fun _ _ _ h => h) (by rfl) ?rz12 hF ?sz12
  case rz12 => (intro W hW; clear hW; go_simp; try with_reducible rfl)
  try simp only [Act.put, List.setIfInBounds_toArray, List.set_cons_zero, List.set_cons_succ]
  refine rg_take (i := 13) (v := ?vz13) (by simp only [List.getElem?_toArray, List.getElem?_cons_succ, List.getElem?_cons_zero]; rfl) (by kernel_rfl) (by exact fun _ _ _ h => h) (by rfl) ?rz13 hF ?sz13
  case rz13 => (intro W9 hW; obtain ⟨f1, f2⟩ := hW; go_simp; try with_reducible rfl)
  try simp only [Act.put, List.setIfInBounds_toArray, List.set_cons_zero, List.set_cons_succ]
  refine rg_one (i := 9) (oi := ?oz9) ?az9 ?bz9 ?cz9 ?dz9
  case az9 => (simp only [List.getElem?_toArray, List.getElem?_cons_succ, List.getElem?_cons_zero]; rfl)
  case bz9 => kernel_rfl
  case cz9 => rfl
  intro K hK
  (go_simp; refine (PIM.out v2 HK2.out).mono ?_; rintro e v3 ⟨vi, rfl, ro, k3⟩; have HK3 := Lib.hid (HK2.out.trans k3); have HRO := Lib.hid ro; clear ro k3)
  refine rg_use hK (HFC.out _ HK3.out) (fun hF => ?_)
  clear hK K
  try simp only [Act.put, List.setIfInBounds_toArray, List.set_cons_zero, List.set_cons_succ]
  refine rg_one (i := 14) (oi := ?oz14) ?az14 ?bz14 ?cz14 ?dz14
  case az14 => (simp only [List.getElem?_toArray, List.getElem?_cons_succ, List.getElem?_cons_zero]; rfl)
  case bz14 => kernel_rfl
  case cz14 => rfl
  intro K hK
  (go_simp; refine (PSM.out v3 HK3.out vi HRO.out.arg).mono ?_; rintro e v4 ⟨rfl, k4⟩; have HK4 := Lib.hid (HK3.out.trans k4); clear k4)
  refine rg_use hK (HFC.out _ HK4.out) (fun hF => ?_)
  clear hK K
  try simp only [Act.put, List.setIfInBounds_toArray, List.set_cons_zero, List.set_cons_succ]
  refine rg_take (i := 15) (v := (.bool true)) (by simp only [List.getElem?_toArray, List.getElem?_cons_succ, List.getElem?_cons_zero]; rfl) (by kernel_rfl) (by exact fun _ _ _ h => h) (by rfl) ?rz15 hF ?sz15
  case rz15 => (intro W hW; clear hW; go_simp; try with_reducible rfl)
  try simp only [Act.put, List.setIfInBounds_toArray, List.set_cons_zero, List.set_cons_succ]
  refine rg_take (i := 16) (v := ?vz16) (by simp only [List.getElem?_toArray, List.getElem?_cons_succ, List.getElem?_cons_zero]; rfl) (by kernel_rfl) (by exact fun _ _ _ h => h) (by rfl) ?rz16 hF ?sz16
  case rz16 => (intro W hW; clear hW; go_simp; try with_reducible rfl)
  try simp only [Act.put, List.setIfInBounds_toArray, List.set_cons_zero, List.set_cons_succ]
  refine rg_done (by kernel_rfl) ?_
  go_wp2
  go_ret
  exact ⟨rfl, (HKP.out.trans HK4.out).below (Nat.le_refl _) fun _ _ m => m⟩

end Go.Proofs.YtlgbmkdeamgpkaaGreatDoor.gateRaw

/- GateRaw returns true for all sectors and every message: a gate begun over any sectors says and does what the document says. No condition. -/
namespace Go.Proofs.YtlgbmkdeamgpkaaGreatDoor.gateRaw
open Go.ChangeShapes Go.WideShapes Go.ChangeAt Go.RowKit Go.PlainAid
open Go.ChangeMaps (open_string shut_string)

theorem own : ownKnob Tryz.prog.godebug = none := by kernel_rfl
theorem laidOut : laidOutB Tryz.prog = true := by kernel_rfl

set_option maxRecDepth 100000 in
theorem lifted (os : Os) (started : os.Started) (H : Type) (enc : TypeId × Value → H) :
    ReturnsInHanded {} Tryz.checked os 8 .any (fun w args => (Rows.gateRawSpec.pre enc Tryz.prog Tryz.f8 Rows.gateRawRow.domain false w args ∧ laidMetH Tryz.prog [("unicode/utf8.acceptRanges", Rows.laid_unicode_utf8_acceptRanges), ("unicode/utf8.first", Rows.laid_unicode_utf8_first)] w) ∧ sizedMet enc Tryz.prog Tryz.f8 (OpenSpec.ofChange Rows.gateRawSpec) false w args)
      (Rows.gateRawSpec.post enc Tryz.prog Tryz.f8 false true false false) := by
  refine returnsInHanded_and_shaped (C := Tryz.checked) (X := (fun w _ => laidMetH Tryz.prog [("unicode/utf8.acceptRanges", Rows.laid_unicode_utf8_acceptRanges), ("unicode/utf8.first", Rows.laid_unicode_utf8_first)] w)) (fun _ _ _ hh h => h.of_heap hh) own started (by kernel_rfl) Tryz.func8
    (ChangeSpec.witness_shaped (enc := enc) (C := Tryz.checked) (os := os) (X := (fun w _ => laidMetH Tryz.prog [("unicode/utf8.acceptRanges", Rows.laid_unicode_utf8_acceptRanges), ("unicode/utf8.first", Rows.laid_unicode_utf8_first)] w)) false (World.laidAll Tryz.prog os [("unicode/utf8.acceptRanges", Rows.laid_unicode_utf8_acceptRanges), ("unicode/utf8.first", Rows.laid_unicode_utf8_first)]) #[.slice none 0 0, (.agg #[.int .i64 0, .int .i64 0, .int .i64 0, .int .i64 0, .int .i64 0, .int .i64 0, .int .i64 0, .string ⟨#[]⟩, .int .i64 0, .int .i64 0, .int .i64 0, .bool false, .int .i64 0, .slice none 0 0, .int .i64 0, .int .i64 0])] 8 (World.laidAll_os _ _ _)
      (World.shaped_of_ZipB (by kernel_rfl) (by kernel_rfl)) (by kernel_rfl) (by kernel_rfl) (by kernel_rfl)
      (by rw [MakeChecks.laidMetH_plain _ _ _ (by kernel_rfl)]; exact laidMet_laidAll _ (by kernel_rfl) (by kernel_rfl))) ?_
  intro W base args ds gs before hval0 hW hcnd hsz0 hL hsh _
  have hval : ∀ (j : Nat) t v, Tryz.f8.params[j]? = some t → args[j]? = some v → Value.okWide Tryz.prog W .any base t v := hval0
  have hW' := hW
  obtain ⟨p, q, hA0, hV, rfl, hfz, hnd⟩ := hW
  have hA : DataW.TrodAll enc Tryz.prog W 0 (fun _ => true) true Tryz.f8.params.toList args.toList ds p := hA0
  rw [Tryz.params8] at hA hval
  obtain ⟨v0, vs0, d0, ds0, p0, q0, hargs, rfl, rfl, h0, r0⟩ := trodAll_cons hA
  obtain ⟨v1, vs1, d1, ds1, p1, q1, rfl, rfl, rfl, h1, r1⟩ := trodAll_cons r0
  obtain ⟨rfl, rfl, rfl⟩ := trodAll_nil r1
  obtain rfl : args = #[v0, v1] := by cases args; simp_all
  obtain ⟨rfl, rfl⟩ := trodVars_none hV
  have hsz : ∀ (j : Nat) (t : TypeId) (d : DataW H), ([63, 38] : List TypeId)[j]? = some t → [d0, d1][j]? = some d → ∀ n ∈ d.weights Tryz.prog t, n ≤ reachBytes := by
    intro j t d ht hd n hn
    have hsz1 : (DataW.weightsEach Tryz.prog ([63, 38] : List TypeId) [d0, d1]).all (· ≤ reachBytes) = true := hsz0
    have := List.all_eq_true.1 hsz1 n (DataW.weights_mem_each ht hd n hn)
    simpa using this
  have k0 := h0
  have lt0 : ∀ x ∈ p0, x.block < W.heap.size := by obtain ⟨m, hm⟩ := k0; exact DataW.trod_lt m _ _ _ hm
  obtain ⟨L0, a0, s0, z0⟩ := open_rowsR Tryz.underlying63 Tryz.underlying69 Tryz.underlying5 (by kernel_rfl) (by kernel_rfl) (by kernel_rfl) (by kernel_rfl) (hval 0 63 v0 rfl rfl) h0 (hsz 0 63 _ rfl rfl)
  have k1 := h1
  have lt1 : ∀ x ∈ p1, x.block < W.heap.size := by obtain ⟨m, hm⟩ := k1; exact DataW.trod_lt m _ _ _ hm
  obtain ⟨m1, A1, c1, rfl, a1, r1, s1, z1, y1⟩ := open_msg2 (hval 1 38 v1 rfl rfl) h1 (hsz 1 38 d1 rfl rfl)
  refine (walk v0 L0 m1 A1 c1 W a0 s0 z0 a1 r1 s1 z1 y1).mono fun e W' ⟨he, bel⟩ => ?_
  subst he
  exact ⟨_, rfl, _, _, _, [], _, [], hW', trodAll_mk1 (shut_bool Tryz.underlying4 _), (trodAll_cons_mk (Below.trod laidOut (by kernel_rfl) (of_decide_eq_true (by kernel_rfl)) k0 bel lt0) (trodAll_cons_mk (Below.trod laidOut (by kernel_rfl) (of_decide_eq_true (by kernel_rfl)) k1 bel lt1) trodAll_mk0)), rfl, bel.frame _, fun h => by cases h⟩

theorem over : Rows.gateRawRow.holds Tryz.pinned (OpenSpec.ofChange Rows.gateRawSpec) :=
  OpenClaim.holds_of_wide 8 Tryz.f8 rfl rfl rfl rfl rfl rfl rfl ⟨rfl, rfl, rfl, rfl, rfl⟩ rfl rfl rfl rfl rfl (by kernel_rfl) Tryz.func8 (by kernel_rfl)
    (of_decide_eq_true (by kernel_rfl)) (by unfold Func.isWrapper; first | (rw [if_pos (by decide +kernel)]; kernel_rfl) | (rw [if_neg (by decide +kernel)]; exact ⟨rfl, rfl⟩))
    (fun os started H enc _ => lifted os started H enc)

theorem proved : Rows.GateRawCardSaid :=
  Claim7.holds_tied_plain_at .later [] [.data, .pinned] true (true, "36de4b0e266865fa76cef0376ca197fae2bbf455f528766fd1e4f577ed6d676b") false over (fun _ h => by cases h) (by kernel_rfl) (fun _ h => by cases h) gateRaw_row_tie rfl ⟨rfl, rfl⟩ (by kernel_rfl) rfl
    (fun f fn hf hfn => by
      obtain rfl : f = 8 := Option.some.inj ((show Tryz.prog.funcNamed "sublet/subletlaw19.GateRaw" = some 8 by kernel_rfl).symm.trans hf) |>.symm
      obtain rfl : fn = Tryz.f8 := (Option.some.inj (Tryz.func8.symm.trans hfn)).symm
      exact ⟨by kernel_rfl, fun j t ht => by
        rw [Tryz.params8] at ht
        have hm : t ∈ ([63, 38] : List TypeId) := by simpa using Array.mem_of_getElem? ht
        have hall : (([63, 38] : List TypeId).all fun u => !Tryz.prog.wantsStandIn u) = true := by kernel_rfl
        exact (show Tryz.prog.wantsStandIn t = false by simpa using List.all_eq_true.1 hall t hm)⟩)
    (by kernel_rfl)
#print axioms proved
end Go.Proofs.YtlgbmkdeamgpkaaGreatDoor.gateRaw
