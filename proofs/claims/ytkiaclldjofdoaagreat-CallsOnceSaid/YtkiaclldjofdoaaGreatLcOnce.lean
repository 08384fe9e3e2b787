/- CallsOnce: no number is given out twice, all open ones lie within the window, and each keeps the moment at which it was first sent, for every boot and script. No condition. -/
import Derived.Test.YtkiaclldjofdoaaGreatH12
import Derived.Test.YtkiaclldjofdoaaGreatH03
import Derived.Deep.CutBlock
import Derived.Deep.CutRange
import Derived.Deep.DeepCutAuto
import Derived.ProofKit
import Derived.OpenShut
import Derived.ShutString
import Derived.ChangeOld
import Derived.SizedLaws
import Derived.Below
namespace Go.Proofs.YtkiaclldjofdoaaGreat.callsOnce
open Go Go.Maps Go.PlainAid Go.ChangeShapes Go.WideShapes Go.ChangeAt Go.RowKit
open Go.ChangeMaps (open_string shut_string)

theorem own : ownKnob Tryz.prog.godebug = none := by kernel_rfl
theorem laidOut : laidOutB Tryz.prog = true := by kernel_rfl
set_option maxRecDepth 100000 in
set_option maxHeartbeats 64000000 in
theorem walk (boot : Int) (v : Value) (l : List Opr) (W : World) (hv : ArgO W v l) (hl : l.length ≤ maxLen) (hp : ∀ p ∈ l, InO p) : Calls Tryz.prog 5 #[.int .i64 boot, v] W fun e w' => e = .returned (.bool true) ∧ Below W.heap.size W w' := by
  obtain ⟨A, cp, rfl, _⟩ : ∃ A c, v = .slice A l.length c ∧ l.length ≤ c := by obtain ⟨A, c, e, hc, _⟩ := hv; exact ⟨A, c, e, hc⟩
  have HVV := Lib.hid hv; have HP := Lib.hid hp
  have hl2 : l.length ≤ 9223372036854775807 := by unfold maxLen at hl; omega
  clear hv hp hl
  go_enter Tryz.func5, Tryz.ntmps5
  go_wp2_with fail
  refine (awake14_any W).mono ?_
  rintro e wa ⟨rfl, ka⟩
  have HKa := Lib.hid ka
  clear ka
  by_cases hb : boot < 1 ∨ 1099511627776 < boot
  · go_wp2_with fail
    refine (new_bad boot wa hb).mono ?_
    rintro e w1 ⟨rfl, rfl⟩
    by_cases hb1 : boot < 1
    · clear hb
      go_wp2
      go_ret
      exact ⟨rfl, HKa.out.below (Nat.le_refl _) (fun _ _ m => m)⟩
    · have hb2 : 1099511627776 < boot := by omega
      clear hb
      go_wp2
      go_ret
      exact ⟨rfl, HKa.out.below (Nat.le_refl _) (fun _ _ m => m)⟩
  have hb1 : 1 ≤ boot := by omega
  have hb2 : boot ≤ 1099511627776 := by omega
  go_wp2_with fail
  refine (new_good boot wa hb1 hb2).mono ?_
  rintro e w1 ⟨b, mb, rfl, o1, hbb, hmb, k1⟩
  have HO1 := Lib.hid o1; have HK1 := Lib.hid (HKa.out.trans k1)
  have hbW : W.heap.size ≤ b := Nat.le_trans HKa.out.size hbb
  have hmW : W.heap.size ≤ mb := Nat.le_trans HKa.out.size hmb
  have HS0 := Lib.hid (show OnceS 0 [] (newC boot) from ⟨CsOk.new ⟨hb1, hb2⟩, rfl, Nat.le_refl _, fun x hx => by cases hx⟩)
  clear o1 k1 hbb hmb hb hb1 hb2
  go_wp2
  go_loopw [49, 7, 8] (fun i p q wr => ∃ j : Nat, j ≤ l.length ∧ j ≤ 301 ∧ i = .int .i64 j ∧ OnceW W b mb boot j p q wr) (fun i _ _ _ => l.length - (intOf i).toNat)
  case atStart => exact ⟨0, Nat.zero_le _, Nat.zero_le _, rfl, newC boot, [], rfl, HS0.out, rfl, HO1.out, nil_own _ _ _ _, HK1.out⟩
  case round =>
    obtain ⟨j, hj, hj3, rfl, c, S, rfl, hs, hbt, ho, hsr, hk⟩ := hrel
    obtain ⟨As, cs, hsl, _⟩ := own_len hsr
    subst hsl
    have HO := Lib.hid ho; have HS := Lib.hid hs; have HBT := Lib.hid hbt; have HSR0 := Lib.hid hsr; have HK := Lib.hid hk
    clear ho hs hbt hsr hk HO1 HK1 HS0
    by_cases hlt : j < l.length
    case neg =>
      have hk1 : ¬ (j : Int) < (l.length : Int) := by omega
      clear hlt
      go_wp2
      go_ret
      exact ⟨rfl, HK.out.below (Nat.le_refl _) (fun _ _ m => m)⟩
    have hk0 : (0 : Int) ≤ (j : Int) := by omega
    have hk1 : (j : Int) < (l.length : Int) := by omega
    obtain ⟨g, o, hA, hgl, hr⟩ := (HVV.out.no HK.out).at_ hlt
    subst hA
    obtain ⟨op, hop⟩ : ∃ op, op = l[j] := ⟨_, rfl⟩
    have HIN := Lib.hid (HP.out op (by rw [hop]; exact List.getElem_mem hlt))
    rw [← hop] at hr
    have HR := Lib.hid hr
    have HLT := Lib.hid hlt
    clear hlt hr hop
    obtain ⟨O, hO⟩ : ∃ O, O = oC op := ⟨_, rfl⟩
    have HTO := Lib.hid (show Thn O by rw [hO]; exact Thn.of _)
    have HOO := Lib.hid hO
    rw [← hO] at HR
    clear hO
    have HLO := Lib.hid HTO.out.infoL; have HMO := Lib.hid HTO.out.info; have HOO1 := Lib.hid HTO.out.one
    have HTH := Lib.hid (show (wr.alloc (.cells #[.int .i64 0, .int .i64 0, .int .i64 0, .int .i64 0, .int .i64 0, .int .i64 0, .string ⟨#[]⟩, .int .i64 0, .int .i64 0, .int .i64 0, .bool false, .int .i64 0, .int .i64 0] 43)).there wr.heap.size 0 O.toArray.size from (Bk.new wr 43 (oC {})).thereO rfl HTO.out)
    have HX1 := Lib.hid (show Bk ((wr.alloc (.cells #[.int .i64 0, .int .i64 0, .int .i64 0, .int .i64 0, .int .i64 0, .int .i64 0, .string ⟨#[]⟩, .int .i64 0, .int .i64 0, .int .i64 0, .bool false, .int .i64 0, .int .i64 0] 43)).setCells wr.heap.size 0 O) wr.heap.size 43 O from (Bk.new wr 43 (oC {})).put HTO.out.len)
    have HK1 := Lib.hid (show Kp No wr ((wr.alloc (.cells #[.int .i64 0, .int .i64 0, .int .i64 0, .int .i64 0, .int .i64 0, .int .i64 0, .string ⟨#[]⟩, .int .i64 0, .int .i64 0, .int .i64 0, .bool false, .int .i64 0, .int .i64 0] 43)).setCells wr.heap.size 0 O) from ((Kp.refl No wr).alloc _).sets O 0 (.inr (Nat.le_refl _)))
    obtain ⟨la, hla⟩ : ∃ la, la = c.next - 1 := ⟨_, rfl⟩
    rw [← hla]
    have HLA := Lib.hid hla
    have hla0 : 0 ≤ la := by have := HS.out.2.1; omega
    have hla1 : la ≤ 301 := by have := HS.out.2.1; have := HS.out.2.2.1; omega
    clear hla
    go_upto_region 11 with (first
      | (with_reducible refine wpList_load_mid rfl _ _ rfl g (o + j * 13) rfl O _ HR.out Tryz.underlying43 rfl HLO.out ?_)
      | (with_reducible refine wpList_store_mid rfl _ _ _ rfl wr.heap.size 0 O.toArray rfl rfl HTH.out HMO.out HOO1.out ?_))
    generalize World.setCells _ wr.heap.size 0 O = w1 at *
    have HO1 := Lib.hid (HO.out.no HK1.out); have HSR := Lib.hid (own_kp HSR0.out HK1.out fun _ _ m => m); have HKW := Lib.hid (HK.out.trans HK1.out)
    generalize wr.heap.size = xB at *
    clear HO HSR0 HTH HK1 HMO HOO1 HR HK hgl
    by_cases h300 : j = 301
    · have hg3 : (300 : Int) < (j : Int) := by omega
      clear h300
      go_wp2
      go_ret
      exact ⟨rfl, HKW.out.below (Nat.le_refl _) (fun _ _ m => m)⟩
    have hg3 : ¬ (300 : Int) < (j : Int) := by omega
    have hj4 : j + 1 ≤ 301 := by omega
    clear h300
    go_upto_region 12 with (fail)
    clear hg3
    obtain ⟨kind, hkd⟩ : ∃ kind, kind = op.kind := ⟨_, rfl⟩
    obtain ⟨n, hn⟩ : ∃ n, n = op.n := ⟨_, rfl⟩
    obtain ⟨X, hX⟩ : ∃ X, X = cC op.x := ⟨_, rfl⟩
    have HN0 := Lib.hid (show O[0]? = some (.int .i64 kind) by rw [HOO.out, hkd]; rfl)
    have HN1 := Lib.hid (show O[1]? = some (.int .i64 n) by rw [HOO.out, hn]; rfl)
    have HWN := Lib.hid (show (Lit.int .i64 n).wf = true by rw [hn]; exact HIN.out.n)
    have HXX := Lib.hid hX; have HNN := Lib.hid hn
    rw [← hn] at *
    have x0 : w1.cell? ⟨xB, 0, none⟩ = some (.int .i64 kind) := (HX1.out.cell 0).trans HN0.out
    have x1 : w1.cell? ⟨xB, 1, none⟩ = some (.int .i64 n) := (HX1.out.cell 1).trans HN1.out
    clear hkd hn hX
    go_upto_block 2 with (fail)
    go_cut [7, 8] (fun p q wx => OnceW W b mb boot (j + 1) p q wx)
    case first =>
      by_cases h2 : kind = 2
      · as_aux_lemma =>
          have d2 : (kind == 2) = true := by rw [beq_iff_eq]; exact h2
          clear h2
          have pg := again_any b mb c n w1 HO1.out HS.out.1 HWN.out
          go_wp2_with fail
          refine pg.mono ?_
          rintro e w2 ⟨rfl, o2, k2⟩
          have HFIN := Lib.hid (show OnceW W b mb boot (j + 1) (.int .i64 la) (.slice As S.length cs) w2 from ⟨againC c n, S, by rw [HLA.out, (again_opn c n).2.2], HS.out.again (by omega) n, by rw [(again_opn c n).2.1]; exact HBT.out, o2, row_one HSR.out HO1.out k2, kp_one HKW.out k2 hmW⟩)
          clear o2 k2 pg
          go_wp2
          go_meet
          exact HFIN.out
      have d2 : (kind == 2) = false := by rw [beq_eq_false_iff_ne]; exact h2
      clear h2
      by_cases h3 : kind = 3
      · as_aux_lemma =>
          have d3 : (kind == 3) = true := by rw [beq_iff_eq]; exact h3
          clear h3
          have pg := close_any b mb c n w1 HO1.out HWN.out
          have pg2 := fun w (o : OwnCs w b mb (closeC c n)) => get_any b mb (closeC c n) n w o HWN.out
          have hg0 : getC (closeC c n).opn n = none := getC_closed c.opn n
          have ha0 : atC (closeC c n).opn n = {} := by unfold atC; rw [hg0]; rfl
          rw [ha0, hg0] at pg2
          obtain ⟨C, hC⟩ : ∃ C, C = cC (atC c.opn n) := ⟨_, rfl⟩
          have HTC := Lib.hid (show Ten C by rw [hC]; exact Ten.of _)
          have HMC := Lib.hid HTC.out.info; have HOC := Lib.hid HTC.out.one; have HLC := Lib.hid HTC.out.infoL
          obtain ⟨D, hD⟩ : ∃ D, D = cC {} := ⟨_, rfl⟩
          have HTD := Lib.hid (show Ten D by rw [hD]; exact Ten.of _)
          have HMD := Lib.hid HTD.out.info; have HOD := Lib.hid HTD.out.one; have HLD := Lib.hid HTD.out.infoL
          have hvc : vC (atC c.opn n) = .agg C.toArray := by rw [hC]; rfl
          have hvd : vC {} = .agg D.toArray := by rw [hD]; rfl
          have HC0 := Lib.hid (show (getC c.opn n).isSome = true → C[0]? = some (.int .i64 n) from fun h => by
            obtain ⟨x, hx⟩ := Option.isSome_iff_exists.1 h
            rw [hC]; unfold atC; rw [hx]
            show some (Value.int .i64 x.seq) = _
            rw [(getC_mem hx).2])
          rw [hvc] at pg
          rw [hvd] at pg2
          have HPG := Lib.hid pg2
          clear hC hD hvc hvd hg0 ha0 pg2
          generalize (getC c.opn n).isSome = ok at pg HC0
          go_wp2_with fail
          refine pg.mono ?_
          rintro e w2 ⟨rfl, o2, k2⟩
          have HO2 := Lib.hid o2; have HX2 := Lib.hid (HX1.out.kp k2 (HO1.out.off1 HX1.out (by decide))); have HSR2 := Lib.hid (row_one HSR.out HO1.out k2); have HK2 := Lib.hid (kp_one HKW.out k2 hmW)
          clear o2 k2 pg
          have HTHx := Lib.hid (show (w2.alloc (.cells (cC {}).toArray 32)).there w2.heap.size 0 C.toArray.size from (Bk.new w2 _ _).thereC rfl HTC.out)
          have HB3 := Lib.hid (show Bk ((w2.alloc (.cells (cC {}).toArray 32)).setCells w2.heap.size 0 C) w2.heap.size 32 C from (Bk.new w2 _ (cC {})).put HTC.out.len)
          have k3 := Lib.hid (show Kp No w2 ((w2.alloc (.cells (cC {}).toArray 32)).setCells w2.heap.size 0 C) from ((Kp.refl No w2).alloc _).sets C 0 (.inr (Nat.le_refl _)))
          have e0 : (cC {}).toArray = #[.int .i64 0, .int .i64 0, .int .i64 0, .string ⟨#[]⟩, .int .i64 0, .int .i64 0, .int .i64 0, .bool false, .int .i64 0, .int .i64 0] := rfl
          rw [e0] at HTHx HB3 k3
          clear e0
          go_upto_region 25 with (with_reducible refine wpList_store_mid rfl _ _ _ rfl w2.heap.size 0 C.toArray rfl rfl HTHx.out HMC.out HOC.out ?_)
          clear HTHx
          generalize World.setCells _ w2.heap.size 0 C = w3 at *
          have HX3 := Lib.hid (HX2.out.no k3.out)
          have x1 : w3.cell? ⟨xB, 1, none⟩ = some (.int .i64 n) := (HX3.out.cell 1).trans HN1.out
          go_wp2_with fail
          refine (HPG.out w3 (HO2.out.no k3.out)).mono ?_
          rintro e w4 ⟨rfl, k4⟩
          have HK4 := Lib.hid (k3.out.trans k4)
          have HB4 := Lib.hid (HB3.out.no k4)
          clear k3 k4 x1 HPG
          have HTHx := Lib.hid (show (w4.alloc (.cells (cC {}).toArray 32)).there w4.heap.size 0 D.toArray.size from (Bk.new w4 _ _).thereC rfl HTD.out)
          have HD5 := Lib.hid (show Bk ((w4.alloc (.cells (cC {}).toArray 32)).setCells w4.heap.size 0 D) w4.heap.size 32 D from (Bk.new w4 _ (cC {})).put HTD.out.len)
          have k5 := Lib.hid (show Kp No w4 ((w4.alloc (.cells (cC {}).toArray 32)).setCells w4.heap.size 0 D) from ((Kp.refl No w4).alloc _).sets D 0 (.inr (Nat.le_refl _)))
          have e0 : (cC {}).toArray = #[.int .i64 0, .int .i64 0, .int .i64 0, .string ⟨#[]⟩, .int .i64 0, .int .i64 0, .int .i64 0, .bool false, .int .i64 0, .int .i64 0] := rfl
          rw [e0] at HTHx HD5 k5
          clear e0
          go_upto_region 26 with (with_reducible refine wpList_store_mid rfl _ _ _ rfl w4.heap.size 0 D.toArray rfl rfl HTHx.out HMD.out HOD.out ?_)
          clear HTHx
          generalize World.setCells _ w4.heap.size 0 D = w5 at *
          have HK5 := Lib.hid (HK4.out.trans k5.out)
          have HB5 := Lib.hid (HB4.out.no k5.out)
          clear k5
          have y1 : w5.cell? ⟨xB, 1, none⟩ = some (.int .i64 n) := ((HX2.out.no HK5.out).cell 1).trans HN1.out
          have HFIN := Lib.hid (show OnceW W b mb boot (j + 1) (.int .i64 la) (.slice As S.length cs) w5 from ⟨closeC c n, S, by rw [HLA.out]; rfl, HS.out.close n, HBT.out, HO2.out.no HK5.out, own_kp HSR2.out HK5.out fun _ _ m => m, HK2.out.trans HK5.out⟩)
          cases ok
          case false =>
            go_wp2
            go_meet
            exact HFIN.out
          case true =>
            have y0 : w5.cell? ⟨w2.heap.size, 0, none⟩ = some (.int .i64 n) := (HB5.out.cell 0).trans (HC0.out rfl)
            go_wp2
            go_meet
            exact HFIN.out
      have d3 : (kind == 3) = false := by rw [beq_eq_false_iff_ne]; exact h3
      clear h3
      as_aux_lemma =>
        have pg := open_any b mb c n op.x w1 HO1.out HS.out.1 HIN.out.x
        have hvx : vC op.x = .agg X.toArray := by rw [HXX.out]; rfl
        unfold OpenR at pg
        rw [hvx] at pg
        have HOKK := Lib.hid (fun h => HS.out.opened (now := n) HIN.out.x (fun h : okX op.x => h) h)
        obtain ⟨er, her⟩ : ∃ er, er = startE (decide (okX op.x)) c n := ⟨_, rfl⟩
        have HERR := Lib.hid her
        rw [← her] at pg
        have HTX := Lib.hid (show Ten X by rw [HXX.out]; exact Ten.of _)
        have HLX := Lib.hid HTX.out.infoL
        have HRX := Lib.hid (show w1.rangeAt xB 3 X by rw [HXX.out]; exact oC_x (by rw [← HOO.out]; exact HX1.out))
        clear hvx her
        by_cases h0 : er = 0
        · have HE0 := Lib.hid h0
          have hnn : openN c er = la + 1 := by unfold openN; rw [if_pos h0, HLA.out]; omega
          have hst : stepO c n op.x er = openC c n op.x := by unfold stepO; rw [if_pos h0]
          rw [hnn, hst, h0] at pg
          clear h0 hnn hst
          go_wp2_with (with_reducible refine wpList_load_mid rfl _ _ rfl xB 3 rfl X _ HRX.out Tryz.underlying32 rfl HLX.out ?_)
          refine pg.mono ?_
          rintro e w2 ⟨rfl, o2, k2⟩
          have HO2 := Lib.hid o2; have HX2 := Lib.hid (HX1.out.kp k2 (HO1.out.off HX1.out (by decide))); have HSR2 := Lib.hid (row_two HSR.out HO1.out k2); have HK2 := Lib.hid (kp_two HKW.out k2 hbW hmW)
          clear o2 k2 pg HRX
          have x1 : w2.cell? ⟨xB, 1, none⟩ = some (.int .i64 n) := (HX2.out.cell 1).trans HN1.out
          have hwl : IntKind.i64.wrap (la + 1) = la + 1 := by rw [IntKind.wrap_i64]; omega
          have hsz : W.heap.size ≤ w2.heap.size := HK2.out.size
          have hSl : S.length ≤ 301 := by have := HS.out.2.2.1; omega
          go_wp2_with (at_builtin; go_must (refine wpList_app1 _ rfl _ _ 48 rfl W.heap.size 3 _ 1 8 Tryz.underlying48 infoI14 rfl (by omega) _ S.length (ints S) rfl (HSR2.out.alloc _) _ _ [.int .i64 n] rfl (Bk.new' rfl rfl) rfl (by simp [Value.oneCell']) (by omega) (by omega) (by simp; omega) ?_); intro g9 c9 w9 hown9 hk9 hat9)
          have ka : Kp No w2 (w2.alloc (.cells #[.int .i64 n] 3)) := (Kp.refl No w2).alloc _
          have HFIN := Lib.hid (show OnceW W b mb boot (j + 1) (.int .i64 (la + 1)) (.slice (some ⟨g9, 0, none⟩) (S.length + 1) c9) w9 from by
            refine ⟨openC c n op.x, S ++ [n], ?_, HOKK.out (by rw [← HERR.out]; exact HE0.out), HBT.out, (HO2.out.no ka).ints hk9 fun q e => own_bkC (HSR2.out.alloc _) q e, ?_, (HK2.out.trans ka).then_ (M := No) hk9 fun q hq m => by have := (HSR2.out.lt q m).1; omega⟩
            · rw [HLA.out]; congr 1; show c.next - 1 + 1 = c.next + 1 - 1; omega
            · rw [List.length_append, ints_append]; exact hown9)
          clear ka hown9 hk9 hat9
          go_meet
          exact HFIN.out
        · have hnn : openN c er = 0 := by unfold openN; rw [if_neg h0]
          have hst : stepO c n op.x er = c := by unfold stepO; rw [if_neg h0]
          rw [hnn, hst] at pg
          have d0 : (er != 0) = true := by rw [bne_iff_ne]; exact h0
          clear h0 hnn hst
          go_wp2_with (with_reducible refine wpList_load_mid rfl _ _ rfl xB 3 rfl X _ HRX.out Tryz.underlying32 rfl HLX.out ?_)
          refine pg.mono ?_
          rintro e w2 ⟨rfl, o2, k2⟩
          have HFIN := Lib.hid (show OnceW W b mb boot (j + 1) (.int .i64 la) (.slice As S.length cs) w2 from ⟨c, S, by rw [HLA.out], HS.out.more, HBT.out, o2, row_two HSR.out HO1.out k2, kp_two HKW.out k2 hbW hmW⟩)
          clear o2 k2 pg
          go_wp2
          go_meet
          exact HFIN.out
    case rest =>
      as_aux_lemma =>
        obtain ⟨c2, S2, hp, hs, hbt, ho, hsr, hk⟩ := hcut
        clear HO1 HSR HKW HX1 x0 x1 HS HBT HLA hla0 hla1 HIN HTO HOO HLO HN0 HN1 HWN HXX HNN
        have HS2 := Lib.hid hs; have HC2 := Lib.hid hs.1; have HBT2 := Lib.hid hbt
        obtain ⟨A2, cs2, hq, _⟩ := own_len hsr
        subst hp hq
        obtain ⟨la2, hla2⟩ : ∃ la2, la2 = c2.next - 1 := ⟨_, rfl⟩
        rw [← hla2]
        have HLA2 := Lib.hid (show la2 = c2.next - 1 ∧ la2 ≤ 301 from ⟨hla2, by have := hs.2.1; have := hs.2.2.1; omega⟩)
        have HFIN := Lib.hid (fun w (k : Kp No wc w) => (show OnceW W b mb boot (j + 1) (.int .i64 la2) (.slice A2 S2.length cs2) w from ⟨c2, S2, by rw [hla2], hs, hbt, ho.no k, own_kp hsr k fun _ _ m => m, hk.trans k⟩))
        have HOc := Lib.hid ho; have HSc := Lib.hid hsr; have HKc := Lib.hid hk
        clear hs hbt ho hsr hk hla2
        go_wp2_with fail
        refine (list_any b mb c2 wc HOc.out HC2.out).mono ?_
        rintro e w4 ⟨vl, rfl, ol4, k4⟩
        obtain ⟨Al, cl, hvl, _⟩ := own_len ol4
        subst hvl
        have HL4 := Lib.hid (own_argC ol4 rfl); have HO4 := Lib.hid (HOc.out.no k4); have HSR4 := Lib.hid (own_kp HSc.out k4 fun _ _ m => m); have HKw4 := Lib.hid k4
        clear ol4 k4 HOc HSc
        have hn4 : c2.opn.length ≤ 4 := HC2.out.len
        obtain ⟨lo, hlo⟩ : ∃ lo, lo = c2.low := ⟨_, rfl⟩
        have HLO := Lib.hid hlo
        have pl := fun w (k : Kp No w4 w) => (low_any b mb c2 w (HO4.out.no k) HC2.out).mono fun e w' ⟨h1, h3⟩ => (⟨by rw [h1, hlo], k.trans h3⟩ : e = Ending.returned (.int .i64 lo) ∧ Kp No w4 w')
        obtain ⟨n4, hn4e⟩ : ∃ n4, n4 = c2.opn.length := ⟨_, rfl⟩
        rw [← hn4e] at hn4 HL4 ⊢
        have HNL := Lib.hid hn4e
        clear hn4e
        have hwl2 : IntKind.i64.wrap (la2 + 1) = la2 + 1 := by have := HLA2.out; have := HC2.out.next; rw [IntKind.wrap_i64]; omega
        clear hlo
        go_upto_region 29 with (fail)
        have hF := (Kp.refl No w4).drew
        have hb4 : ¬ (4 : Int) < (n4 : Int) := by omega
        have hb4n : ¬ 4 < n4 := by omega
        have hb4d : decide ((4 : Int) < (n4 : Int)) = false := decide_eq_false hb4
        have hb4m : decide (4 < n4) = false := decide_eq_false hb4n
        go_cut [144] (fun s wx => s = .bool false ∧ Kp No w4 wx)
        case first =>
          by_cases h0 : n4 = 0
          · as_aux_lemma =>
            have HLE := Lib.hid (show lo = la2 + 1 by
              have h1 : c2.opn = [] := List.eq_nil_of_length_eq_zero (by have := HNL.out; omega)
              have := HLA2.out.1
              rw [HLO.out]; unfold Cls.low; rw [h1]; show c2.next = _; omega)
            have hz1 : ((n4 : Int) == 0) = true := by rw [beq_iff_eq]; omega
            have hz2 : ¬ (0 : Int) < (n4 : Int) := by omega
            have hz1n : (n4 == 0) = true := by rw [beq_iff_eq]; exact h0
            have hz2d : decide (0 < n4) = false := decide_eq_false (by omega)
            have hz2e : decide ((0 : Int) < (n4 : Int)) = false := decide_eq_false hz2
            rw [HLE.out] at pl
            clear h0
            refine rg_begin (fun W2 => Kp No w4 W2) 29 (by kernel_rfl) ?_
            refine rg_take (i := 0) (v := ?vp0) (by simp only [List.getElem?_toArray, List.getElem?_cons_zero]; rfl) (by kernel_rfl) (by exact fun _ _ _ h => h) (by rfl) ?rp0 hF ?sp0
            case rp0 => (intro W hW; clear hW; go_simp; try with_reducible rfl)
            try simp only [Act.put, List.setIfInBounds_toArray, List.set_cons_zero, List.set_cons_succ]
            refine rg_take (i := 1) (v := ?vp1) (by simp only [List.getElem?_toArray, List.getElem?_cons_succ, List.getElem?_cons_zero]; rfl) (by kernel_rfl) (by exact fun _ _ _ h => h) (by rfl) ?rp1 hF ?sp1
            case rp1 => (intro W hW; clear hW; go_simp; try with_reducible rfl)
            try simp only [Act.put, List.setIfInBounds_toArray, List.set_cons_zero, List.set_cons_succ]
            refine rg_take (i := 2) (v := ?vp2) (by simp only [List.getElem?_toArray, List.getElem?_cons_succ, List.getElem?_cons_zero]; rfl) (by kernel_rfl) (by exact fun _ _ _ h => h) (by rfl) ?rp2 hF ?sp2
            case rp2 => (intro W hW; clear hW; go_simp; try with_reducible rfl)
            try simp only [Act.put, List.setIfInBounds_toArray, List.set_cons_zero, List.set_cons_succ]
            refine rg_take (i := 3) (v := ?vp3) (by simp only [List.getElem?_toArray, List.getElem?_cons_succ, List.getElem?_cons_zero]; rfl) (by kernel_rfl) (by exact fun _ _ _ h => h) (by rfl) ?rp3 hF ?sp3
            case rp3 => (intro W hW; clear hW; go_simp; try with_reducible rfl)
            try simp only [Act.put, List.setIfInBounds_toArray, List.set_cons_zero, List.set_cons_succ]
            refine rg_take (i := 4) (v := ?vp4) (by simp only [List.getElem?_toArray, List.getElem?_cons_succ, List.getElem?_cons_zero]; rfl) (by kernel_rfl) (by exact fun _ _ _ h => h) (by rfl) ?rp4 hF ?sp4
            case rp4 => (intro W hW; clear hW; go_simp; try with_reducible rfl)
            try simp only [Act.put, List.setIfInBounds_toArray, List.set_cons_zero, List.set_cons_succ]
            refine rg_take (i := 5) (v := ?vp5) (by simp only [List.getElem?_toArray, List.getElem?_cons_succ, List.getElem?_cons_zero]; rfl) (by kernel_rfl) (by exact fun _ _ _ h => h) (by rfl) ?rp5 hF ?sp5
            case rp5 => (intro W hW; clear hW; go_simp; try with_reducible rfl)
            try simp only [Act.put, List.setIfInBounds_toArray, List.set_cons_zero, List.set_cons_succ]
            refine rg_take (i := 6) (v := ?vp6) (by simp only [List.getElem?_toArray, List.getElem?_cons_succ, List.getElem?_cons_zero]; rfl) (by kernel_rfl) (by exact fun _ _ _ h => h) (by rfl) ?rp6 hF ?sp6
            case rp6 => (intro W hW; clear hW; go_simp; try with_reducible rfl)
            try simp only [Act.put, List.setIfInBounds_toArray, List.set_cons_zero, List.set_cons_succ]
            refine rg_take (i := 7) (v := ?vp7) (by simp only [List.getElem?_toArray, List.getElem?_cons_succ, List.getElem?_cons_zero]; rfl) (by kernel_rfl) (by exact fun _ _ _ h => h) (by rfl) ?rp7 hF ?sp7
            case rp7 => (intro W hW; clear hW; go_simp; try with_reducible rfl)
            try simp only [Act.put, List.setIfInBounds_toArray, List.set_cons_zero, List.set_cons_succ]
            refine rg_take (i := 8) (v := ?vp8) (by simp only [List.getElem?_toArray, List.getElem?_cons_succ, List.getElem?_cons_zero]; rfl) (by kernel_rfl) (by exact fun _ _ _ h => h) (by rfl) ?rp8 hF ?sp8
            case rp8 => (intro W hW; clear hW; go_simp; try with_reducible rfl)
            try simp only [Act.put, List.setIfInBounds_toArray, List.set_cons_zero, List.set_cons_succ]
            refine rg_take (i := 10) (v := ?vp10) (by simp only [List.getElem?_toArray, List.getElem?_cons_succ, List.getElem?_cons_zero]; rfl) (by kernel_rfl) (by exact fun _ _ _ h => h) (by rfl) ?rp10 hF ?sp10
            case rp10 => (intro W hW; clear hW; go_simp; try with_reducible rfl)
            try simp only [Act.put, List.setIfInBounds_toArray, List.set_cons_zero, List.set_cons_succ]
            refine rg_take (i := 11) (v := ?vp11) (by simp only [List.getElem?_toArray, List.getElem?_cons_succ, List.getElem?_cons_zero]; rfl) (by kernel_rfl) (by exact fun _ _ _ h => h) (by rfl) ?rp11 hF ?sp11
            case rp11 => (intro W hW; clear hW; go_simp; try with_reducible rfl)
            try simp only [Act.put, List.setIfInBounds_toArray, List.set_cons_zero, List.set_cons_succ]
            refine rg_one (i := 9) (oi := ?op9) ?ap9 ?bp9 ?cp9 ?dp9
            case ap9 => (simp only [List.getElem?_toArray, List.getElem?_cons_succ, List.getElem?_cons_zero]; rfl)
            case bp9 => kernel_rfl
            case cp9 => rfl
            intro K hK
            (go_simp; refine (pl _ (Kp.refl No w4).drew).mono ?_; rintro e w5 ⟨rfl, k5⟩)
            refine rg_use hK (k5) (fun hF => ?_)
            clear hK K
            try simp only [Act.put, List.setIfInBounds_toArray, List.set_cons_zero, List.set_cons_succ]
            refine rg_take (i := 12) (v := ?vp12) (by simp only [List.getElem?_toArray, List.getElem?_cons_succ, List.getElem?_cons_zero]; rfl) (by kernel_rfl) (by exact fun _ _ _ h => h) (by rfl) ?rp12 hF ?sp12
            case rp12 => (intro W hW; clear hW; go_simp; try with_reducible rfl)
            try simp only [Act.put, List.setIfInBounds_toArray, List.set_cons_zero, List.set_cons_succ]
            refine rg_take (i := 13) (v := ?vp13) (by simp only [List.getElem?_toArray, List.getElem?_cons_succ, List.getElem?_cons_zero]; rfl) (by kernel_rfl) (by exact fun _ _ _ h => h) (by rfl) ?rp13 hF ?sp13
            case rp13 => (intro W hW; clear hW; go_simp; try with_reducible rfl)
            try simp only [Act.put, List.setIfInBounds_toArray, List.set_cons_zero, List.set_cons_succ]
            refine rg_take (i := 14) (v := ?vp14) (by simp only [List.getElem?_toArray, List.getElem?_cons_succ, List.getElem?_cons_zero]; rfl) (by kernel_rfl) (by exact fun _ _ _ h => h) (by rfl) ?rp14 hF ?sp14
            case rp14 => (intro W hW; clear hW; go_simp; try with_reducible rfl)
            try simp only [Act.put, List.setIfInBounds_toArray, List.set_cons_zero, List.set_cons_succ]
            refine rg_take (i := 15) (v := ?vp15) (by simp only [List.getElem?_toArray, List.getElem?_cons_succ, List.getElem?_cons_zero]; rfl) (by kernel_rfl) (by exact fun _ _ _ h => h) (by rfl) ?rp15 hF ?sp15
            case rp15 => (intro W hW; clear hW; go_simp; try with_reducible rfl)
            try simp only [Act.put, List.setIfInBounds_toArray, List.set_cons_zero, List.set_cons_succ]
            refine rg_take (i := 16) (v := ?vp16) (by simp only [List.getElem?_toArray, List.getElem?_cons_succ, List.getElem?_cons_zero]; rfl) (by kernel_rfl) (by exact fun _ _ _ h => h) (by rfl) ?rp16 hF ?sp16
            case rp16 => (intro W hW; clear hW; go_simp; try with_reducible rfl)
            try simp only [Act.put, List.setIfInBounds_toArray, List.set_cons_zero, List.set_cons_succ]
            refine rg_take (i := 17) (v := ?vp17) (by simp only [List.getElem?_toArray, List.getElem?_cons_succ, List.getElem?_cons_zero]; rfl) (by kernel_rfl) (by exact fun _ _ _ h => h) (by rfl) ?rp17 hF ?sp17
            case rp17 => (intro W hW; clear hW; go_simp; try with_reducible rfl)
            try simp only [Act.put, List.setIfInBounds_toArray, List.set_cons_zero, List.set_cons_succ]
            refine rg_take (i := 18) (v := ?vp18) (by simp only [List.getElem?_toArray, List.getElem?_cons_succ, List.getElem?_cons_zero]; rfl) (by kernel_rfl) (by exact fun _ _ _ h => h) (by rfl) ?rp18 hF ?sp18
            case rp18 => (intro W hW; clear hW; go_simp; try with_reducible rfl)
            try simp only [Act.put, List.setIfInBounds_toArray, List.set_cons_zero, List.set_cons_succ]
            refine rg_take (i := 19) (v := ?vp19) (by simp only [List.getElem?_toArray, List.getElem?_cons_succ, List.getElem?_cons_zero]; rfl) (by kernel_rfl) (by exact fun _ _ _ h => h) (by rfl) ?rp19 hF ?sp19
            case rp19 => (intro W hW; clear hW; go_simp; try with_reducible rfl)
            try simp only [Act.put, List.setIfInBounds_toArray, List.set_cons_zero, List.set_cons_succ]
            refine rg_pass (i := 20) (by simp only [List.getElem?_toArray, List.getElem?_cons_succ, List.getElem?_cons_zero]; rfl) (by kernel_rfl) (by exact fun _ _ _ h => h) (by rfl) hF ?_
            try simp only [Act.put, List.setIfInBounds_toArray, List.set_cons_zero, List.set_cons_succ]
            refine rg_pass (i := 21) (by simp only [List.getElem?_toArray, List.getElem?_cons_succ, List.getElem?_cons_zero]; rfl) (by kernel_rfl) (by exact fun _ _ _ h => h) (by rfl) hF ?_
            try simp only [Act.put, List.setIfInBounds_toArray, List.set_cons_zero, List.set_cons_succ]
            refine rg_pass (i := 22) (by simp only [List.getElem?_toArray, List.getElem?_cons_succ, List.getElem?_cons_zero]; rfl) (by kernel_rfl) (by exact fun _ _ _ h => h) (by rfl) hF ?_
            try simp only [Act.put, List.setIfInBounds_toArray, List.set_cons_zero, List.set_cons_succ]
            refine rg_pass (i := 23) (by simp only [List.getElem?_toArray, List.getElem?_cons_succ, List.getElem?_cons_zero]; rfl) (by kernel_rfl) (by exact fun _ _ _ h => h) (by rfl) hF ?_
            try simp only [Act.put, List.setIfInBounds_toArray, List.set_cons_zero, List.set_cons_succ]
            refine rg_pass (i := 24) (by simp only [List.getElem?_toArray, List.getElem?_cons_succ, List.getElem?_cons_zero]; rfl) (by kernel_rfl) (by exact fun _ _ _ h => h) (by rfl) hF ?_
            try simp only [Act.put, List.setIfInBounds_toArray, List.set_cons_zero, List.set_cons_succ]
            refine rg_pass (i := 25) (by simp only [List.getElem?_toArray, List.getElem?_cons_succ, List.getElem?_cons_zero]; rfl) (by kernel_rfl) (by exact fun _ _ _ h => h) (by rfl) hF ?_
            try simp only [Act.put, List.setIfInBounds_toArray, List.set_cons_zero, List.set_cons_succ]
            refine rg_pass (i := 26) (by simp only [List.getElem?_toArray, List.getElem?_cons_succ, List.getElem?_cons_zero]; rfl) (by kernel_rfl) (by exact fun _ _ _ h => h) (by rfl) hF ?_
            try simp only [Act.put, List.setIfInBounds_toArray, List.set_cons_zero, List.set_cons_succ]
            refine rg_take (i := 27) (v := ?vp27) (by simp only [List.getElem?_toArray, List.getElem?_cons_succ, List.getElem?_cons_zero]; rfl) (by kernel_rfl) (by exact fun _ _ _ h => h) (by rfl) ?rp27 hF ?sp27
            case rp27 => (intro W hW; clear hW; go_simp; try with_reducible rfl)
            try simp only [Act.put, List.setIfInBounds_toArray, List.set_cons_zero, List.set_cons_succ]
            refine rg_take (i := 28) (v := ?vp28) (by simp only [List.getElem?_toArray, List.getElem?_cons_succ, List.getElem?_cons_zero]; rfl) (by kernel_rfl) (by exact fun _ _ _ h => h) (by rfl) ?rp28 hF ?sp28
            case rp28 => (intro W hW; clear hW; go_simp; try with_reducible rfl)
            try simp only [Act.put, List.setIfInBounds_toArray, List.set_cons_zero, List.set_cons_succ]
            refine rg_done (by kernel_rfl) ?_
            go_wp2
            go_meet
            exact ⟨rfl, k5⟩
          · as_aux_lemma =>
            have hz1 : ((n4 : Int) == 0) = false := by rw [beq_eq_false_iff_ne]; omega
            have hz2 : (0 : Int) < (n4 : Int) := by omega
            have hz3 : ¬ n4 = 0 := h0
            have hz1n : (n4 == 0) = false := by rw [beq_eq_false_iff_ne]; exact h0
            have hz2n : 0 < n4 := by omega
            obtain ⟨g, o, hA, _, hr0⟩ := HL4.out.at_ (k := 0) (by have := HNL.out; omega)
            subst hA
            have HR0 := Lib.hid hr0
            have HV0 := Lib.hid (show (cC (c2.opn[0]'(by have := HNL.out; omega)))[0]? = some (.int .i64 lo) by
              have h1 : 0 < c2.opn.length := by have := HNL.out; omega
              rw [HLO.out]
              unfold Cls.low
              obtain ⟨y, r, hy⟩ : ∃ y r, c2.opn = y :: r := by
                cases hc : c2.opn with
                | nil => rw [hc] at h1; simp at h1
                | cons y r => exact ⟨y, r, rfl⟩
              simp only [hy]
              rfl)
            simp only [Nat.zero_mul, Nat.add_zero] at HR0
            clear h0 hr0
            refine rg_begin (fun W2 => Kp No w4 W2) 29 (by kernel_rfl) ?_
            refine rg_take (i := 0) (v := ?vq0) (by simp only [List.getElem?_toArray, List.getElem?_cons_zero]; rfl) (by kernel_rfl) (by exact fun _ _ _ h => h) (by rfl) ?rq0 hF ?sq0
            case rq0 => (intro W hW; clear hW; go_simp; try with_reducible rfl)
            try simp only [Act.put, List.setIfInBounds_toArray, List.set_cons_zero, List.set_cons_succ]
            refine rg_take (i := 1) (v := ?vq1) (by simp only [List.getElem?_toArray, List.getElem?_cons_succ, List.getElem?_cons_zero]; rfl) (by kernel_rfl) (by exact fun _ _ _ h => h) (by rfl) ?rq1 hF ?sq1
            case rq1 => (intro W hW; clear hW; go_simp; try with_reducible rfl)
            try simp only [Act.put, List.setIfInBounds_toArray, List.set_cons_zero, List.set_cons_succ]
            refine rg_take (i := 2) (v := ?vq2) (by simp only [List.getElem?_toArray, List.getElem?_cons_succ, List.getElem?_cons_zero]; rfl) (by kernel_rfl) (by exact fun _ _ _ h => h) (by rfl) ?rq2 hF ?sq2
            case rq2 => (intro W hW; clear hW; go_simp; try with_reducible rfl)
            try simp only [Act.put, List.setIfInBounds_toArray, List.set_cons_zero, List.set_cons_succ]
            refine rg_take (i := 3) (v := ?vq3) (by simp only [List.getElem?_toArray, List.getElem?_cons_succ, List.getElem?_cons_zero]; rfl) (by kernel_rfl) (by exact fun _ _ _ h => h) (by rfl) ?rq3 hF ?sq3
            case rq3 => (intro W hW; clear hW; go_simp; try with_reducible rfl)
            try simp only [Act.put, List.setIfInBounds_toArray, List.set_cons_zero, List.set_cons_succ]
            refine rg_take (i := 4) (v := ?vq4) (by simp only [List.getElem?_toArray, List.getElem?_cons_succ, List.getElem?_cons_zero]; rfl) (by kernel_rfl) (by exact fun _ _ _ h => h) (by rfl) ?rq4 hF ?sq4
            case rq4 => (intro W hW; clear hW; go_simp; try with_reducible rfl)
            try simp only [Act.put, List.setIfInBounds_toArray, List.set_cons_zero, List.set_cons_succ]
            refine rg_take (i := 5) (v := ?vq5) (by simp only [List.getElem?_toArray, List.getElem?_cons_succ, List.getElem?_cons_zero]; rfl) (by kernel_rfl) (by exact fun _ _ _ h => h) (by rfl) ?rq5 hF ?sq5
            case rq5 => (intro W hW; clear hW; go_simp; try with_reducible rfl)
            try simp only [Act.put, List.setIfInBounds_toArray, List.set_cons_zero, List.set_cons_succ]
            refine rg_take (i := 6) (v := ?vq6) (by simp only [List.getElem?_toArray, List.getElem?_cons_succ, List.getElem?_cons_zero]; rfl) (by kernel_rfl) (by exact fun _ _ _ h => h) (by rfl) ?rq6 hF ?sq6
            case rq6 => (intro W hW; clear hW; go_simp; try with_reducible rfl)
            try simp only [Act.put, List.setIfInBounds_toArray, List.set_cons_zero, List.set_cons_succ]
            refine rg_take (i := 7) (v := ?vq7) (by simp only [List.getElem?_toArray, List.getElem?_cons_succ, List.getElem?_cons_zero]; rfl) (by kernel_rfl) (by exact fun _ _ _ h => h) (by rfl) ?rq7 hF ?sq7
            case rq7 => (intro W hW; clear hW; go_simp; try with_reducible rfl)
            try simp only [Act.put, List.setIfInBounds_toArray, List.set_cons_zero, List.set_cons_succ]
            refine rg_pass (i := 8) (by simp only [List.getElem?_toArray, List.getElem?_cons_succ, List.getElem?_cons_zero]; rfl) (by kernel_rfl) (by exact fun _ _ _ h => h) (by rfl) hF ?_
            try simp only [Act.put, List.setIfInBounds_toArray, List.set_cons_zero, List.set_cons_succ]
            refine rg_pass (i := 9) (by simp only [List.getElem?_toArray, List.getElem?_cons_succ, List.getElem?_cons_zero]; rfl) (by kernel_rfl) (by exact fun _ _ _ h => h) (by rfl) hF ?_
            try simp only [Act.put, List.setIfInBounds_toArray, List.set_cons_zero, List.set_cons_succ]
            refine rg_pass (i := 10) (by simp only [List.getElem?_toArray, List.getElem?_cons_succ, List.getElem?_cons_zero]; rfl) (by kernel_rfl) (by exact fun _ _ _ h => h) (by rfl) hF ?_
            try simp only [Act.put, List.setIfInBounds_toArray, List.set_cons_zero, List.set_cons_succ]
            refine rg_pass (i := 11) (by simp only [List.getElem?_toArray, List.getElem?_cons_succ, List.getElem?_cons_zero]; rfl) (by kernel_rfl) (by exact fun _ _ _ h => h) (by rfl) hF ?_
            try simp only [Act.put, List.setIfInBounds_toArray, List.set_cons_zero, List.set_cons_succ]
            refine rg_pass (i := 12) (by simp only [List.getElem?_toArray, List.getElem?_cons_succ, List.getElem?_cons_zero]; rfl) (by kernel_rfl) (by exact fun _ _ _ h => h) (by rfl) hF ?_
            try simp only [Act.put, List.setIfInBounds_toArray, List.set_cons_zero, List.set_cons_succ]
            refine rg_take (i := 13) (v := ?vq13) (by simp only [List.getElem?_toArray, List.getElem?_cons_succ, List.getElem?_cons_zero]; rfl) (by kernel_rfl) (by exact fun _ _ _ h => h) (by rfl) ?rq13 hF ?sq13
            case rq13 => (intro W hW; clear hW; go_simp; try with_reducible rfl)
            try simp only [Act.put, List.setIfInBounds_toArray, List.set_cons_zero, List.set_cons_succ]
            refine rg_take (i := 14) (v := ?vq14) (by simp only [List.getElem?_toArray, List.getElem?_cons_succ, List.getElem?_cons_zero]; rfl) (by kernel_rfl) (by exact fun _ _ _ h => h) (by rfl) ?rq14 hF ?sq14
            case rq14 => (intro W hW; clear hW; go_simp; try with_reducible rfl)
            try simp only [Act.put, List.setIfInBounds_toArray, List.set_cons_zero, List.set_cons_succ]
            refine rg_take (i := 15) (v := ?vq15) (by simp only [List.getElem?_toArray, List.getElem?_cons_succ, List.getElem?_cons_zero]; rfl) (by kernel_rfl) (by exact fun _ _ _ h => h) (by rfl) ?rq15 hF ?sq15
            case rq15 => (intro W hW; clear hW; go_simp; try with_reducible rfl)
            try simp only [Act.put, List.setIfInBounds_toArray, List.set_cons_zero, List.set_cons_succ]
            refine rg_take (i := 16) (v := ?vq16) (by simp only [List.getElem?_toArray, List.getElem?_cons_succ, List.getElem?_cons_zero]; rfl) (by kernel_rfl) (by exact fun _ _ _ h => h) (by rfl) ?rq16 hF ?sq16
            case rq16 => (intro W hW; clear hW; go_simp; try with_reducible rfl)
            try simp only [Act.put, List.setIfInBounds_toArray, List.set_cons_zero, List.set_cons_succ]
            refine rg_take (i := 17) (v := ?vq17) (by simp only [List.getElem?_toArray, List.getElem?_cons_succ, List.getElem?_cons_zero]; rfl) (by kernel_rfl) (by exact fun _ _ _ h => h) (by rfl) ?rq17 hF ?sq17
            case rq17 => (intro W hW; clear hW; go_simp; try with_reducible rfl)
            try simp only [Act.put, List.setIfInBounds_toArray, List.set_cons_zero, List.set_cons_succ]
            refine rg_take (i := 18) (v := ?vq18) (by simp only [List.getElem?_toArray, List.getElem?_cons_succ, List.getElem?_cons_zero]; rfl) (by kernel_rfl) (by exact fun _ _ _ h => h) (by rfl) ?rq18 hF ?sq18
            case rq18 => (intro W hW; clear hW; go_simp; try with_reducible rfl)
            try simp only [Act.put, List.setIfInBounds_toArray, List.set_cons_zero, List.set_cons_succ]
            refine rg_take (i := 19) (v := ?vq19) (by simp only [List.getElem?_toArray, List.getElem?_cons_succ, List.getElem?_cons_zero]; rfl) (by kernel_rfl) (by exact fun _ _ _ h => h) (by rfl) ?rq19 hF ?sq19
            case rq19 => (intro W hW; clear hW; go_simp; try with_reducible rfl)
            try simp only [Act.put, List.setIfInBounds_toArray, List.set_cons_zero, List.set_cons_succ]
            refine rg_take (i := 20) (v := ?vq20) (by simp only [List.getElem?_toArray, List.getElem?_cons_succ, List.getElem?_cons_zero]; rfl) (by kernel_rfl) (by exact fun _ _ _ h => h) (by rfl) ?rq20 hF ?sq20
            case rq20 => (intro W hW; clear hW; go_simp; try with_reducible rfl)
            try simp only [Act.put, List.setIfInBounds_toArray, List.set_cons_zero, List.set_cons_succ]
            refine rg_take (i := 22) (v := ?vq22) (by simp only [List.getElem?_toArray, List.getElem?_cons_succ, List.getElem?_cons_zero]; rfl) (by kernel_rfl) (by exact fun _ _ _ h => h) (by rfl) ?rq22 hF ?sq22
            case rq22 => (intro W hW; clear hW; go_simp; try with_reducible rfl)
            try simp only [Act.put, List.setIfInBounds_toArray, List.set_cons_zero, List.set_cons_succ]
            refine rg_take (i := 23) (v := ?vq23) (by simp only [List.getElem?_toArray, List.getElem?_cons_succ, List.getElem?_cons_zero]; rfl) (by kernel_rfl) (by exact fun _ _ _ h => h) (by rfl) ?rq23 hF ?sq23
            case rq23 => (intro W hW; clear hW; go_simp; try with_reducible rfl)
            try simp only [Act.put, List.setIfInBounds_toArray, List.set_cons_zero, List.set_cons_succ]
            refine rg_take (i := 24) (v := ?vq24) (by simp only [List.getElem?_toArray, List.getElem?_cons_succ, List.getElem?_cons_zero]; rfl) (by kernel_rfl) (by exact fun _ _ _ h => h) (by rfl) ?rq24 hF ?sq24
            case rq24 => (intro W hW; clear hW; go_simp; try with_reducible rfl)
            try simp only [Act.put, List.setIfInBounds_toArray, List.set_cons_zero, List.set_cons_succ]
            refine rg_take (i := 25) (v := ?vq25) (by simp only [List.getElem?_toArray, List.getElem?_cons_succ, List.getElem?_cons_zero]; rfl) (by kernel_rfl) (by exact fun _ _ _ h => h) (by rfl) ?rq25 hF ?sq25
            case rq25 => (intro W9 hW; have z : W9.cell? ⟨g, o, none⟩ = some (.int .i64 lo) := by {have h := range_kp HR0.out hW id 0 _ HV0.out; simpa using h}; clear hW; go_simp; try with_reducible rfl)
            try simp only [Act.put, List.setIfInBounds_toArray, List.set_cons_zero, List.set_cons_succ]
            refine rg_one (i := 21) (oi := ?oq21) ?aq21 ?bq21 ?cq21 ?dq21
            case aq21 => (simp only [List.getElem?_toArray, List.getElem?_cons_succ, List.getElem?_cons_zero]; rfl)
            case bq21 => kernel_rfl
            case cq21 => rfl
            intro K hK
            (go_simp; refine (pl _ (Kp.refl No w4).drew).mono ?_; rintro e w5 ⟨rfl, k5⟩)
            refine rg_use hK (k5) (fun hF => ?_)
            clear hK K
            try simp only [Act.put, List.setIfInBounds_toArray, List.set_cons_zero, List.set_cons_succ]
            refine rg_take (i := 26) (v := ?vq26) (by simp only [List.getElem?_toArray, List.getElem?_cons_succ, List.getElem?_cons_zero]; rfl) (by kernel_rfl) (by exact fun _ _ _ h => h) (by rfl) ?rq26 hF ?sq26
            case rq26 => (intro W hW; clear hW; go_simp; try with_reducible rfl)
            try simp only [Act.put, List.setIfInBounds_toArray, List.set_cons_zero, List.set_cons_succ]
            refine rg_take (i := 27) (v := ?vq27) (by simp only [List.getElem?_toArray, List.getElem?_cons_succ, List.getElem?_cons_zero]; rfl) (by kernel_rfl) (by exact fun _ _ _ h => h) (by rfl) ?rq27 hF ?sq27
            case rq27 => (intro W hW; clear hW; go_simp; try with_reducible rfl)
            try simp only [Act.put, List.setIfInBounds_toArray, List.set_cons_zero, List.set_cons_succ]
            refine rg_take (i := 28) (v := ?vq28) (by simp only [List.getElem?_toArray, List.getElem?_cons_succ, List.getElem?_cons_zero]; rfl) (by kernel_rfl) (by exact fun _ _ _ h => h) (by rfl) ?rq28 hF ?sq28
            case rq28 => (intro W hW; clear hW; go_simp; try with_reducible rfl)
            try simp only [Act.put, List.setIfInBounds_toArray, List.set_cons_zero, List.set_cons_succ]
            refine rg_done (by kernel_rfl) ?_
            go_wp2
            go_meet
            exact ⟨rfl, k5⟩
        case rest =>
        obtain ⟨rfl, kx⟩ := hcut
        have HFINx := Lib.hid (HFIN.out _ (HKw4.out.trans kx))
        have HKx := Lib.hid kx
        clear hF hb4 hb4n hb4d hb4m kx
        go_wp2
        go_loopw [147] (fun i wr => ∃ k : Nat, k ≤ n4 ∧ i = .int .i64 k ∧ Kp No w4 wr) (fun i _ => n4 - (intOf i).toNat)
        case atStart => exact ⟨0, Nat.zero_le _, rfl, HKx.out⟩
        case round =>
          obtain ⟨k, hkn, rfl, hk4⟩ := hrel
          have HK4 := Lib.hid hk4
          clear hk4
          by_cases hlt : k < n4
          case neg =>
            have hk1 : ¬ (k : Int) < (n4 : Int) := by omega
            clear hlt
            go_wp2
            go_roundw
            case rel => exact ⟨j + 1, by have := HLT.out; omega, by omega, by go_num, HFIN.out _ (HKw4.out.trans HK4.out)⟩
            case measure => have := HLT.out; simp [intOf]; omega
          have hk0 : (0 : Int) ≤ (k : Int) := by omega
          have hk1 : (k : Int) < (n4 : Int) := by omega
          obtain ⟨x, hx⟩ : ∃ x, x = c2.opn[k]'(by have := HNL.out; omega) := ⟨_, rfl⟩
          have hlk : k < c2.opn.length := by have := HNL.out; omega
          have hxm : x ∈ c2.opn := by rw [hx]; exact List.getElem_mem hlk
          have HXO := Lib.hid (HS2.out.2.2.2 x hxm)
          have HXN := Lib.hid (HC2.out.num x hxm)
          have HGX := Lib.hid (show getC c2.opn x.seq = some x from getC_of HC2.out.ris hxm)
          obtain ⟨g, o, hA, _, hr⟩ := (HL4.out.no HK4.out).at_ hlk
          rw [← hx] at hr
          obtain ⟨Y, hY⟩ : ∃ Y, Y = cC x := ⟨_, rfl⟩
          have HTY := Lib.hid (show Ten Y by rw [hY]; exact Ten.of _)
          have HMY := Lib.hid HTY.out.info; have HOY := Lib.hid HTY.out.one; have HLY := Lib.hid HTY.out.infoL
          rw [← hY] at hr
          have HR := Lib.hid hr
          have HXW := Lib.hid (HC2.out.win); have HXL := Lib.hid (HC2.out.low_le.1 x hxm)
          have HPR := Lib.hid (show ∀ k1, k = k1 + 1 → ∃ y, c2.opn[k1]? = some y ∧ y.seq < x.seq from fun k1 e => by
            have h1 : k1 < c2.opn.length := by omega
            refine ⟨c2.opn[k1], List.getElem?_eq_getElem h1, ?_⟩
            rw [hx]
            exact List.pairwise_iff_getElem.1 HC2.out.ris k1 k h1 hlk (by omega))
          have HY0f := Lib.hid (show Y[0]? = some (.int .i64 x.seq) by rw [hY]; rfl); have HY1f := Lib.hid (show Y[1]? = some (.int .i64 x.dest) by rw [hY]; rfl); have HY2f := Lib.hid (show Y[2]? = some (.int .i64 x.verb) by rw [hY]; rfl); have HY3f := Lib.hid (show Y[3]? = some (.string ⟨x.path.toArray⟩) by rw [hY]; rfl)
          have HY4f := Lib.hid (show Y[4]? = some (.int .i64 x.mode) by rw [hY]; rfl); have HY5f := Lib.hid (show Y[5]? = some (.int .i64 x.term) by rw [hY]; rfl); have HY6f := Lib.hid (show Y[6]? = some (.int .i64 x.id) by rw [hY]; rfl); have HY7f := Lib.hid (show Y[7]? = some (.bool x.fresh) by rw [hY]; rfl)
          have HY8f := Lib.hid (show Y[8]? = some (.int .i64 x.sent) by rw [hY]; rfl); have HY9f := Lib.hid (show Y[9]? = some (.int .i64 x.tries) by rw [hY]; rfl)
          clear hxm hr hY
          subst hA
          have HTHx := Lib.hid (show (wr.alloc (.cells #[.int .i64 0, .int .i64 0, .int .i64 0, .string ⟨#[]⟩, .int .i64 0, .int .i64 0, .int .i64 0, .bool false, .int .i64 0, .int .i64 0] 32)).there wr.heap.size 0 Y.toArray.size from (Bk.new wr 32 (cC {})).thereC rfl HTY.out)
          have HY3 := Lib.hid (show Bk ((wr.alloc (.cells #[.int .i64 0, .int .i64 0, .int .i64 0, .string ⟨#[]⟩, .int .i64 0, .int .i64 0, .int .i64 0, .bool false, .int .i64 0, .int .i64 0] 32)).setCells wr.heap.size 0 Y) wr.heap.size 32 Y from (Bk.new wr 32 (cC {})).put HTY.out.len)
          have HK3 := Lib.hid (show Kp No wr ((wr.alloc (.cells #[.int .i64 0, .int .i64 0, .int .i64 0, .string ⟨#[]⟩, .int .i64 0, .int .i64 0, .int .i64 0, .bool false, .int .i64 0, .int .i64 0] 32)).setCells wr.heap.size 0 Y) from ((Kp.refl No wr).alloc _).sets Y 0 (.inr (Nat.le_refl _)))
          go_upto_region 34 with (first
            | (with_reducible refine wpList_load_mid rfl _ _ rfl g (o + k * 10) rfl Y _ HR.out Tryz.underlying32 rfl HLY.out ?_)
            | (with_reducible refine wpList_store_mid rfl _ _ _ rfl wr.heap.size 0 Y.toArray rfl rfl HTHx.out HMY.out HOY.out ?_))
          generalize World.setCells _ wr.heap.size 0 Y = w3 at *
          have HK43 := Lib.hid (HK4.out.trans HK3.out)
          generalize wr.heap.size = yB at *
          have pl3 := fun w (kk : Kp No w3 w) => pl w (HK43.out.trans kk)
          have pl3 : ∀ w, Kp No w3 w → Calls Tryz.prog 22 #[.pointer (some ⟨b, 0, none⟩)] w fun e w' => e = .returned (.int .i64 lo) ∧ Kp No w3 w' := fun w kk => (low_any b mb c2 w ((HO4.out.no HK43.out).no kk) HC2.out).mono fun e w' ⟨h1, h3⟩ => ⟨by rw [h1, HLO.out], kk.trans h3⟩
          clear HTHx HR HK3
          obtain ⟨sq, hsq⟩ : ∃ sq, sq = x.seq := ⟨_, rfl⟩
          obtain ⟨st, hst⟩ : ∃ st, st = x.sent := ⟨_, rfl⟩
          obtain ⟨tr, htr⟩ : ∃ tr, tr = x.tries := ⟨_, rfl⟩
          have HSQ := Lib.hid hsq
          rw [← hsq] at HY0f HXN HGX HXL HPR
          rw [← hst] at HY8f
          rw [← htr] at HY9f
          have n5 : ¬ tr < 1 := by have := HXO.out.tries; omega
          have n1 : ¬ sq < lo := by have := HXL.out; have := HLO.out; omega
          have n2 : ¬ lo + 8 ≤ sq := by have := HXN.out; have := HXW.out; have := HLO.out; omega
          have n3 : ¬ la2 < sq := by have := HXN.out; have := HLA2.out; omega
          have hlo1 : 1 ≤ lo := by have := HC2.out.low_le.2; have := HLO.out; omega
          have hlo2 : lo ≤ 400 := by have := HC2.out.low_le.2; have := HLO.out; have := HLA2.out; omega
          have hsq1 : 1 ≤ sq := HXN.out.1
          have hsq2 : sq ≤ 400 := by have := HXN.out; have := HLA2.out; omega
          have hwr : IntKind.i64.wrap (lo + 8) = lo + 8 := by rw [IntKind.wrap_i64]; omega
          obtain ⟨i0, hi0⟩ : ∃ i0 : Nat, i0 = (sq - 1).toNat := ⟨_, rfl⟩
          have hs1 : sq - 1 = (i0 : Int) := by omega
          have hs2 : IntKind.i64.wrap (sq - 1) = (i0 : Int) := by rw [IntKind.wrap_i64]; omega
          have hSi : S2[i0]? = some st := by rw [hi0, hsq, hst]; exact HXO.out.sent
          have hiS : (i0 : Int) < (S2.length : Int) := by have := (List.getElem?_eq_some_iff.1 hSi).1; omega
          have hi00 : (0 : Int) ≤ (i0 : Int) := by omega
          have hw0 : IntKind.i64.wrap (i0 : Int) = (i0 : Int) := by rw [IntKind.wrap_i64]; omega
          obtain ⟨gs, os, cs', hsv, hsc⟩ := (own_argI HSR4.out).at_ (show 0 < S2.length by omega)
          injection hsv with e1 e2 e3
          subst e1
          have HSC := Lib.hid (fun w (kk : Kp No w3 w) => show w.cell? ⟨gs, os + i0, none⟩ = some (.int .i64 st) by
            have h := hsc i0 st hSi
            rw [World.cell?_of_block ((HK43.out.trans kk).block gs (World.block_lt_of_cell? w4 _ h) id)]
            exact h)
          clear e2 e3 hsc hSi hi0 hsq hst htr hlk hx
          have hkz : (0 : Int) ≤ (k : Int) := by omega
          have hF := (Kp.refl No w3).drew
          try simp only [Act.put]
          go_cut [201] (fun s wx => s = .bool false ∧ Kp No w3 wx)
          case first =>
            by_cases hk00 : k = 0
            · as_aux_lemma =>
              have hz0 : ¬ (0 : Int) < (k : Int) := by omega
              have hz0n : ¬ 0 < k := by omega
              have hz0d : decide (0 < k) = false := decide_eq_false hz0n
              have hz0e : decide ((0 : Int) < (k : Int)) = false := decide_eq_false hz0
              clear hk00
              refine rg_begin (fun W2 => Kp No w3 W2) 50 (by kernel_rfl) ?_
              refine rg_take (i := 0) (v := ?vs0) (by simp only [List.getElem?_toArray, List.getElem?_cons_zero]; rfl) (by kernel_rfl) (by exact fun _ _ _ h => h) (by rfl) ?rs0 hF ?ss0
              case rs0 => (intro W hW; clear hW; go_simp; try with_reducible rfl)
              try simp only [Act.put, List.setIfInBounds_toArray, List.set_cons_zero, List.set_cons_succ]
              refine rg_take (i := 1) (v := ?vs1) (by simp only [List.getElem?_toArray, List.getElem?_cons_succ, List.getElem?_cons_zero]; rfl) (by kernel_rfl) (by exact fun _ _ _ h => h) (by rfl) ?rs1 hF ?ss1
              case rs1 => (intro W9 hW; have z : W9.cell? ⟨yB, 0, none⟩ = some (.int .i64 sq) := ((HY3.out.no hW).cell 0).trans HY0f.out; clear hW; go_simp; try with_reducible rfl)
              try simp only [Act.put, List.setIfInBounds_toArray, List.set_cons_zero, List.set_cons_succ]
              refine rg_take (i := 2) (v := ?vs2) (by simp only [List.getElem?_toArray, List.getElem?_cons_succ, List.getElem?_cons_zero]; rfl) (by kernel_rfl) (by exact fun _ _ _ h => h) (by rfl) ?rs2 hF ?ss2
              case rs2 => (intro W hW; clear hW; go_simp; try with_reducible rfl)
              try simp only [Act.put, List.setIfInBounds_toArray, List.set_cons_zero, List.set_cons_succ]
              refine rg_one (i := 3) (oi := ?os3) ?as3 ?bs3 ?cs3 ?ds3
              case as3 => (simp only [List.getElem?_toArray, List.getElem?_cons_succ, List.getElem?_cons_zero]; rfl)
              case bs3 => kernel_rfl
              case cs3 => rfl
              intro K hK
              (go_simp; refine (pl3 _ (Kp.refl No w3).drew).mono ?_; rintro e wA ⟨rfl, kA⟩)
              refine rg_use hK (kA) (fun hF => ?_)
              clear hK K
              try simp only [Act.put, List.setIfInBounds_toArray, List.set_cons_zero, List.set_cons_succ]
              refine rg_take (i := 4) (v := ?vs4) (by simp only [List.getElem?_toArray, List.getElem?_cons_succ, List.getElem?_cons_zero]; rfl) (by kernel_rfl) (by exact fun _ _ _ h => h) (by rfl) ?rs4 hF ?ss4
              case rs4 => (intro W hW; clear hW; go_simp; try with_reducible rfl)
              try simp only [Act.put, List.setIfInBounds_toArray, List.set_cons_zero, List.set_cons_succ]
              refine rg_take (i := 5) (v := ?vs5) (by simp only [List.getElem?_toArray, List.getElem?_cons_succ, List.getElem?_cons_zero]; rfl) (by kernel_rfl) (by exact fun _ _ _ h => h) (by rfl) ?rs5 hF ?ss5
              case rs5 => (intro W hW; clear hW; go_simp; try with_reducible rfl)
              try simp only [Act.put, List.setIfInBounds_toArray, List.set_cons_zero, List.set_cons_succ]
              refine rg_take (i := 6) (v := ?vs6) (by simp only [List.getElem?_toArray, List.getElem?_cons_succ, List.getElem?_cons_zero]; rfl) (by kernel_rfl) (by exact fun _ _ _ h => h) (by rfl) ?rs6 hF ?ss6
              case rs6 => (intro W hW; clear hW; go_simp; try with_reducible rfl)
              try simp only [Act.put, List.setIfInBounds_toArray, List.set_cons_zero, List.set_cons_succ]
              refine rg_take (i := 7) (v := ?vs7) (by simp only [List.getElem?_toArray, List.getElem?_cons_succ, List.getElem?_cons_zero]; rfl) (by kernel_rfl) (by exact fun _ _ _ h => h) (by rfl) ?rs7 hF ?ss7
              case rs7 => (intro W9 hW; have z : W9.cell? ⟨yB, 0, none⟩ = some (.int .i64 sq) := ((HY3.out.no hW).cell 0).trans HY0f.out; clear hW; go_simp; try with_reducible rfl)
              try simp only [Act.put, List.setIfInBounds_toArray, List.set_cons_zero, List.set_cons_succ]
              refine rg_take (i := 8) (v := ?vs8) (by simp only [List.getElem?_toArray, List.getElem?_cons_succ, List.getElem?_cons_zero]; rfl) (by kernel_rfl) (by exact fun _ _ _ h => h) (by rfl) ?rs8 hF ?ss8
              case rs8 => (intro W hW; clear hW; go_simp; try with_reducible rfl)
              try simp only [Act.put, List.setIfInBounds_toArray, List.set_cons_zero, List.set_cons_succ]
              refine rg_one (i := 9) (oi := ?os9) ?as9 ?bs9 ?cs9 ?ds9
              case as9 => (simp only [List.getElem?_toArray, List.getElem?_cons_succ, List.getElem?_cons_zero]; rfl)
              case bs9 => kernel_rfl
              case cs9 => rfl
              intro K hK
              (go_simp; refine (pl3 wA kA).mono ?_; rintro e wB ⟨rfl, kB⟩)
              refine rg_use hK (kB) (fun hF => ?_)
              clear hK K
              try simp only [Act.put, List.setIfInBounds_toArray, List.set_cons_zero, List.set_cons_succ]
              refine rg_take (i := 10) (v := ?vs10) (by simp only [List.getElem?_toArray, List.getElem?_cons_succ, List.getElem?_cons_zero]; rfl) (by kernel_rfl) (by exact fun _ _ _ h => h) (by rfl) ?rs10 hF ?ss10
              case rs10 => (intro W hW; clear hW; go_simp; try with_reducible rfl)
              try simp only [Act.put, List.setIfInBounds_toArray, List.set_cons_zero, List.set_cons_succ]
              refine rg_take (i := 11) (v := ?vs11) (by simp only [List.getElem?_toArray, List.getElem?_cons_succ, List.getElem?_cons_zero]; rfl) (by kernel_rfl) (by exact fun _ _ _ h => h) (by rfl) ?rs11 hF ?ss11
              case rs11 => (intro W hW; clear hW; go_simp; try with_reducible rfl)
              try simp only [Act.put, List.setIfInBounds_toArray, List.set_cons_zero, List.set_cons_succ]
              refine rg_take (i := 12) (v := ?vs12) (by simp only [List.getElem?_toArray, List.getElem?_cons_succ, List.getElem?_cons_zero]; rfl) (by kernel_rfl) (by exact fun _ _ _ h => h) (by rfl) ?rs12 hF ?ss12
              case rs12 => (intro W hW; clear hW; go_simp; try with_reducible rfl)
              try simp only [Act.put, List.setIfInBounds_toArray, List.set_cons_zero, List.set_cons_succ]
              refine rg_take (i := 13) (v := ?vs13) (by simp only [List.getElem?_toArray, List.getElem?_cons_succ, List.getElem?_cons_zero]; rfl) (by kernel_rfl) (by exact fun _ _ _ h => h) (by rfl) ?rs13 hF ?ss13
              case rs13 => (intro W hW; clear hW; go_simp; try with_reducible rfl)
              try simp only [Act.put, List.setIfInBounds_toArray, List.set_cons_zero, List.set_cons_succ]
              refine rg_take (i := 14) (v := ?vs14) (by simp only [List.getElem?_toArray, List.getElem?_cons_succ, List.getElem?_cons_zero]; rfl) (by kernel_rfl) (by exact fun _ _ _ h => h) (by rfl) ?rs14 hF ?ss14
              case rs14 => (intro W hW; clear hW; go_simp; try with_reducible rfl)
              try simp only [Act.put, List.setIfInBounds_toArray, List.set_cons_zero, List.set_cons_succ]
              refine rg_take (i := 15) (v := ?vs15) (by simp only [List.getElem?_toArray, List.getElem?_cons_succ, List.getElem?_cons_zero]; rfl) (by kernel_rfl) (by exact fun _ _ _ h => h) (by rfl) ?rs15 hF ?ss15
              case rs15 => (intro W9 hW; have z : W9.cell? ⟨yB, 0, none⟩ = some (.int .i64 sq) := ((HY3.out.no hW).cell 0).trans HY0f.out; clear hW; go_simp; try with_reducible rfl)
              try simp only [Act.put, List.setIfInBounds_toArray, List.set_cons_zero, List.set_cons_succ]
              refine rg_take (i := 16) (v := ?vs16) (by simp only [List.getElem?_toArray, List.getElem?_cons_succ, List.getElem?_cons_zero]; rfl) (by kernel_rfl) (by exact fun _ _ _ h => h) (by rfl) ?rs16 hF ?ss16
              case rs16 => (intro W hW; clear hW; go_simp; try with_reducible rfl)
              try simp only [Act.put, List.setIfInBounds_toArray, List.set_cons_zero, List.set_cons_succ]
              refine rg_take (i := 17) (v := ?vs17) (by simp only [List.getElem?_toArray, List.getElem?_cons_succ, List.getElem?_cons_zero]; rfl) (by kernel_rfl) (by exact fun _ _ _ h => h) (by rfl) ?rs17 hF ?ss17
              case rs17 => (intro W hW; clear hW; go_simp; try with_reducible rfl)
              try simp only [Act.put, List.setIfInBounds_toArray, List.set_cons_zero, List.set_cons_succ]
              refine rg_take (i := 18) (v := ?vs18) (by simp only [List.getElem?_toArray, List.getElem?_cons_succ, List.getElem?_cons_zero]; rfl) (by kernel_rfl) (by exact fun _ _ _ h => h) (by rfl) ?rs18 hF ?ss18
              case rs18 => (intro W hW; clear hW; go_simp; try with_reducible rfl)
              try simp only [Act.put, List.setIfInBounds_toArray, List.set_cons_zero, List.set_cons_succ]
              refine rg_take (i := 19) (v := ?vs19) (by simp only [List.getElem?_toArray, List.getElem?_cons_succ, List.getElem?_cons_zero]; rfl) (by kernel_rfl) (by exact fun _ _ _ h => h) (by rfl) ?rs19 hF ?ss19
              case rs19 => (intro W hW; clear hW; go_simp; try with_reducible rfl)
              try simp only [Act.put, List.setIfInBounds_toArray, List.set_cons_zero, List.set_cons_succ]
              refine rg_take (i := 20) (v := ?vs20) (by simp only [List.getElem?_toArray, List.getElem?_cons_succ, List.getElem?_cons_zero]; rfl) (by kernel_rfl) (by exact fun _ _ _ h => h) (by rfl) ?rs20 hF ?ss20
              case rs20 => (intro W hW; clear hW; go_simp; try with_reducible rfl)
              try simp only [Act.put, List.setIfInBounds_toArray, List.set_cons_zero, List.set_cons_succ]
              refine rg_take (i := 21) (v := ?vs21) (by simp only [List.getElem?_toArray, List.getElem?_cons_succ, List.getElem?_cons_zero]; rfl) (by kernel_rfl) (by exact fun _ _ _ h => h) (by rfl) ?rs21 hF ?ss21
              case rs21 => (intro W hW; clear hW; go_simp; try with_reducible rfl)
              try simp only [Act.put, List.setIfInBounds_toArray, List.set_cons_zero, List.set_cons_succ]
              refine rg_take (i := 22) (v := ?vs22) (by simp only [List.getElem?_toArray, List.getElem?_cons_succ, List.getElem?_cons_zero]; rfl) (by kernel_rfl) (by exact fun _ _ _ h => h) (by rfl) ?rs22 hF ?ss22
              case rs22 => (intro W hW; clear hW; go_simp; try with_reducible rfl)
              try simp only [Act.put, List.setIfInBounds_toArray, List.set_cons_zero, List.set_cons_succ]
              refine rg_pass (i := 23) (by simp only [List.getElem?_toArray, List.getElem?_cons_succ, List.getElem?_cons_zero]; rfl) (by kernel_rfl) (by exact fun _ _ _ h => h) (by rfl) hF ?_
              try simp only [Act.put, List.setIfInBounds_toArray, List.set_cons_zero, List.set_cons_succ]
              refine rg_pass (i := 24) (by simp only [List.getElem?_toArray, List.getElem?_cons_succ, List.getElem?_cons_zero]; rfl) (by kernel_rfl) (by exact fun _ _ _ h => h) (by rfl) hF ?_
              try simp only [Act.put, List.setIfInBounds_toArray, List.set_cons_zero, List.set_cons_succ]
              refine rg_pass (i := 25) (by simp only [List.getElem?_toArray, List.getElem?_cons_succ, List.getElem?_cons_zero]; rfl) (by kernel_rfl) (by exact fun _ _ _ h => h) (by rfl) hF ?_
              try simp only [Act.put, List.setIfInBounds_toArray, List.set_cons_zero, List.set_cons_succ]
              refine rg_pass (i := 26) (by simp only [List.getElem?_toArray, List.getElem?_cons_succ, List.getElem?_cons_zero]; rfl) (by kernel_rfl) (by exact fun _ _ _ h => h) (by rfl) hF ?_
              try simp only [Act.put, List.setIfInBounds_toArray, List.set_cons_zero, List.set_cons_succ]
              refine rg_pass (i := 27) (by simp only [List.getElem?_toArray, List.getElem?_cons_succ, List.getElem?_cons_zero]; rfl) (by kernel_rfl) (by exact fun _ _ _ h => h) (by rfl) hF ?_
              try simp only [Act.put, List.setIfInBounds_toArray, List.set_cons_zero, List.set_cons_succ]
              refine rg_pass (i := 28) (by simp only [List.getElem?_toArray, List.getElem?_cons_succ, List.getElem?_cons_zero]; rfl) (by kernel_rfl) (by exact fun _ _ _ h => h) (by rfl) hF ?_
              try simp only [Act.put, List.setIfInBounds_toArray, List.set_cons_zero, List.set_cons_succ]
              refine rg_pass (i := 29) (by simp only [List.getElem?_toArray, List.getElem?_cons_succ, List.getElem?_cons_zero]; rfl) (by kernel_rfl) (by exact fun _ _ _ h => h) (by rfl) hF ?_
              try simp only [Act.put, List.setIfInBounds_toArray, List.set_cons_zero, List.set_cons_succ]
              refine rg_pass (i := 30) (by simp only [List.getElem?_toArray, List.getElem?_cons_succ, List.getElem?_cons_zero]; rfl) (by kernel_rfl) (by exact fun _ _ _ h => h) (by rfl) hF ?_
              try simp only [Act.put, List.setIfInBounds_toArray, List.set_cons_zero, List.set_cons_succ]
              refine rg_pass (i := 31) (by simp only [List.getElem?_toArray, List.getElem?_cons_succ, List.getElem?_cons_zero]; rfl) (by kernel_rfl) (by exact fun _ _ _ h => h) (by rfl) hF ?_
              try simp only [Act.put, List.setIfInBounds_toArray, List.set_cons_zero, List.set_cons_succ]
              refine rg_take (i := 32) (v := ?vs32) (by simp only [List.getElem?_toArray, List.getElem?_cons_succ, List.getElem?_cons_zero]; rfl) (by kernel_rfl) (by exact fun _ _ _ h => h) (by rfl) ?rs32 hF ?ss32
              case rs32 => (intro W hW; clear hW; go_simp; try with_reducible rfl)
              try simp only [Act.put, List.setIfInBounds_toArray, List.set_cons_zero, List.set_cons_succ]
              refine rg_take (i := 33) (v := ?vs33) (by simp only [List.getElem?_toArray, List.getElem?_cons_succ, List.getElem?_cons_zero]; rfl) (by kernel_rfl) (by exact fun _ _ _ h => h) (by rfl) ?rs33 hF ?ss33
              case rs33 => (intro W hW; clear hW; go_simp; try with_reducible rfl)
              try simp only [Act.put, List.setIfInBounds_toArray, List.set_cons_zero, List.set_cons_succ]
              refine rg_take (i := 34) (v := ?vs34) (by simp only [List.getElem?_toArray, List.getElem?_cons_succ, List.getElem?_cons_zero]; rfl) (by kernel_rfl) (by exact fun _ _ _ h => h) (by rfl) ?rs34 hF ?ss34
              case rs34 => (intro W hW; clear hW; go_simp; try with_reducible rfl)
              try simp only [Act.put, List.setIfInBounds_toArray, List.set_cons_zero, List.set_cons_succ]
              refine rg_take (i := 35) (v := ?vs35) (by simp only [List.getElem?_toArray, List.getElem?_cons_succ, List.getElem?_cons_zero]; rfl) (by kernel_rfl) (by exact fun _ _ _ h => h) (by rfl) ?rs35 hF ?ss35
              case rs35 => (intro W hW; clear hW; go_simp; try with_reducible rfl)
              try simp only [Act.put, List.setIfInBounds_toArray, List.set_cons_zero, List.set_cons_succ]
              refine rg_take (i := 36) (v := ?vs36) (by simp only [List.getElem?_toArray, List.getElem?_cons_succ, List.getElem?_cons_zero]; rfl) (by kernel_rfl) (by exact fun _ _ _ h => h) (by rfl) ?rs36 hF ?ss36
              case rs36 => (intro W9 hW; have z : W9.cell? ⟨yB, 8, none⟩ = some (.int .i64 st) := ((HY3.out.no hW).cell 8).trans HY8f.out; clear hW; go_simp; try with_reducible rfl)
              try simp only [Act.put, List.setIfInBounds_toArray, List.set_cons_zero, List.set_cons_succ]
              refine rg_take (i := 37) (v := ?vs37) (by simp only [List.getElem?_toArray, List.getElem?_cons_succ, List.getElem?_cons_zero]; rfl) (by kernel_rfl) (by exact fun _ _ _ h => h) (by rfl) ?rs37 hF ?ss37
              case rs37 => (intro W hW; clear hW; go_simp; try with_reducible rfl)
              try simp only [Act.put, List.setIfInBounds_toArray, List.set_cons_zero, List.set_cons_succ]
              refine rg_take (i := 38) (v := ?vs38) (by simp only [List.getElem?_toArray, List.getElem?_cons_succ, List.getElem?_cons_zero]; rfl) (by kernel_rfl) (by exact fun _ _ _ h => h) (by rfl) ?rs38 hF ?ss38
              case rs38 => (intro W hW; clear hW; go_simp; try with_reducible rfl)
              try simp only [Act.put, List.setIfInBounds_toArray, List.set_cons_zero, List.set_cons_succ]
              refine rg_take (i := 39) (v := ?vs39) (by simp only [List.getElem?_toArray, List.getElem?_cons_succ, List.getElem?_cons_zero]; rfl) (by kernel_rfl) (by exact fun _ _ _ h => h) (by rfl) ?rs39 hF ?ss39
              case rs39 => (intro W9 hW; have z : W9.cell? ⟨yB, 0, none⟩ = some (.int .i64 sq) := ((HY3.out.no hW).cell 0).trans HY0f.out; clear hW; go_simp; try with_reducible rfl)
              try simp only [Act.put, List.setIfInBounds_toArray, List.set_cons_zero, List.set_cons_succ]
              refine rg_take (i := 40) (v := ?vs40) (by simp only [List.getElem?_toArray, List.getElem?_cons_succ, List.getElem?_cons_zero]; rfl) (by kernel_rfl) (by exact fun _ _ _ h => h) (by rfl) ?rs40 hF ?ss40
              case rs40 => (intro W hW; clear hW; go_simp; try with_reducible rfl)
              try simp only [Act.put, List.setIfInBounds_toArray, List.set_cons_zero, List.set_cons_succ]
              refine rg_take (i := 41) (v := ?vs41) (by simp only [List.getElem?_toArray, List.getElem?_cons_succ, List.getElem?_cons_zero]; rfl) (by kernel_rfl) (by exact fun _ _ _ h => h) (by rfl) ?rs41 hF ?ss41
              case rs41 => (intro W hW; clear hW; go_simp; try with_reducible rfl)
              try simp only [Act.put, List.setIfInBounds_toArray, List.set_cons_zero, List.set_cons_succ]
              refine rg_take (i := 42) (v := ?vs42) (by simp only [List.getElem?_toArray, List.getElem?_cons_succ, List.getElem?_cons_zero]; rfl) (by kernel_rfl) (by exact fun _ _ _ h => h) (by rfl) ?rs42 hF ?ss42
              case rs42 => (intro W9 hW; have z : W9.cell? ⟨gs, os + i0, none⟩ = some (.int .i64 st) := HSC.out W9 hW; clear hW; go_simp; try with_reducible rfl)
              try simp only [Act.put, List.setIfInBounds_toArray, List.set_cons_zero, List.set_cons_succ]
              refine rg_take (i := 43) (v := ?vs43) (by simp only [List.getElem?_toArray, List.getElem?_cons_succ, List.getElem?_cons_zero]; rfl) (by kernel_rfl) (by exact fun _ _ _ h => h) (by rfl) ?rs43 hF ?ss43
              case rs43 => (intro W hW; clear hW; go_simp; try with_reducible rfl)
              try simp only [Act.put, List.setIfInBounds_toArray, List.set_cons_zero, List.set_cons_succ]
              refine rg_take (i := 44) (v := ?vs44) (by simp only [List.getElem?_toArray, List.getElem?_cons_succ, List.getElem?_cons_zero]; rfl) (by kernel_rfl) (by exact fun _ _ _ h => h) (by rfl) ?rs44 hF ?ss44
              case rs44 => (intro W hW; clear hW; go_simp; try with_reducible rfl)
              try simp only [Act.put, List.setIfInBounds_toArray, List.set_cons_zero, List.set_cons_succ]
              refine rg_take (i := 45) (v := ?vs45) (by simp only [List.getElem?_toArray, List.getElem?_cons_succ, List.getElem?_cons_zero]; rfl) (by kernel_rfl) (by exact fun _ _ _ h => h) (by rfl) ?rs45 hF ?ss45
              case rs45 => (intro W hW; clear hW; go_simp; try with_reducible rfl)
              try simp only [Act.put, List.setIfInBounds_toArray, List.set_cons_zero, List.set_cons_succ]
              refine rg_take (i := 46) (v := ?vs46) (by simp only [List.getElem?_toArray, List.getElem?_cons_succ, List.getElem?_cons_zero]; rfl) (by kernel_rfl) (by exact fun _ _ _ h => h) (by rfl) ?rs46 hF ?ss46
              case rs46 => (intro W hW; clear hW; go_simp; try with_reducible rfl)
              try simp only [Act.put, List.setIfInBounds_toArray, List.set_cons_zero, List.set_cons_succ]
              refine rg_take (i := 47) (v := ?vs47) (by simp only [List.getElem?_toArray, List.getElem?_cons_succ, List.getElem?_cons_zero]; rfl) (by kernel_rfl) (by exact fun _ _ _ h => h) (by rfl) ?rs47 hF ?ss47
              case rs47 => (intro W9 hW; have z : W9.cell? ⟨yB, 9, none⟩ = some (.int .i64 tr) := ((HY3.out.no hW).cell 9).trans HY9f.out; clear hW; go_simp; try with_reducible rfl)
              try simp only [Act.put, List.setIfInBounds_toArray, List.set_cons_zero, List.set_cons_succ]
              refine rg_take (i := 48) (v := ?vs48) (by simp only [List.getElem?_toArray, List.getElem?_cons_succ, List.getElem?_cons_zero]; rfl) (by kernel_rfl) (by exact fun _ _ _ h => h) (by rfl) ?rs48 hF ?ss48
              case rs48 => (intro W hW; clear hW; go_simp; try with_reducible rfl)
              try simp only [Act.put, List.setIfInBounds_toArray, List.set_cons_zero, List.set_cons_succ]
              refine rg_take (i := 49) (v := ?vs49) (by simp only [List.getElem?_toArray, List.getElem?_cons_succ, List.getElem?_cons_zero]; rfl) (by kernel_rfl) (by exact fun _ _ _ h => h) (by rfl) ?rs49 hF ?ss49
              case rs49 => (intro W hW; clear hW; go_simp; try with_reducible rfl)
              try simp only [Act.put, List.setIfInBounds_toArray, List.set_cons_zero, List.set_cons_succ]
              refine rg_done (by kernel_rfl) ?_
              go_wp2
              go_meet
              exact ⟨rfl, kB⟩
            · as_aux_lemma =>
              obtain ⟨k1, hk1e⟩ : ∃ k1, k = k1 + 1 := ⟨k - 1, by omega⟩
              obtain ⟨y, hy, hyl⟩ := HPR.out k1 hk1e
              have hz0 : (0 : Int) < (k : Int) := by omega
              have hz0n : 0 < k := by omega
              have hm1 : (k : Int) - 1 = (k1 : Int) := by omega
              have hm2 : IntKind.i64.wrap ((k : Int) - 1) = (k1 : Int) := by rw [IntKind.wrap_i64]; omega
              have hk1l : (k1 : Int) < (n4 : Int) := by omega
              have hk10 : (0 : Int) ≤ (k1 : Int) := by omega
              have hw1 : IntKind.i64.wrap (k1 : Int) = (k1 : Int) := by rw [IntKind.wrap_i64]; omega
              have hyk := List.getElem?_eq_some_iff.1 hy
              obtain ⟨g', o', hA', _, hrp⟩ := (HL4.out.no HK43.out).at_ hyk.1
              rw [hyk.2] at hrp
              injection hA' with hA'
              injection hA' with e1 e2 _
              subst e1 e2
              have HRp := Lib.hid hrp
              obtain ⟨sq1, hsq1e⟩ : ∃ sq1, sq1 = y.seq := ⟨_, rfl⟩
              have HVp := Lib.hid (show (cC y)[0]? = some (.int .i64 sq1) by rw [hsq1e]; rfl)
              have n4' : ¬ sq ≤ sq1 := by omega
              clear hk00 hk1e hy hyl hyk hrp hsq1e
              refine rg_begin (fun W2 => Kp No w3 W2) 50 (by kernel_rfl) ?_
              refine rg_take (i := 0) (v := ?vt0) (by simp only [List.getElem?_toArray, List.getElem?_cons_zero]; rfl) (by kernel_rfl) (by exact fun _ _ _ h => h) (by rfl) ?rt0 hF ?st0
              case rt0 => (intro W hW; clear hW; go_simp; try with_reducible rfl)
              try simp only [Act.put, List.setIfInBounds_toArray, List.set_cons_zero, List.set_cons_succ]
              refine rg_take (i := 1) (v := ?vt1) (by simp only [List.getElem?_toArray, List.getElem?_cons_succ, List.getElem?_cons_zero]; rfl) (by kernel_rfl) (by exact fun _ _ _ h => h) (by rfl) ?rt1 hF ?st1
              case rt1 => (intro W9 hW; have z : W9.cell? ⟨yB, 0, none⟩ = some (.int .i64 sq) := ((HY3.out.no hW).cell 0).trans HY0f.out; clear hW; go_simp; try with_reducible rfl)
              try simp only [Act.put, List.setIfInBounds_toArray, List.set_cons_zero, List.set_cons_succ]
              refine rg_take (i := 2) (v := ?vt2) (by simp only [List.getElem?_toArray, List.getElem?_cons_succ, List.getElem?_cons_zero]; rfl) (by kernel_rfl) (by exact fun _ _ _ h => h) (by rfl) ?rt2 hF ?st2
              case rt2 => (intro W hW; clear hW; go_simp; try with_reducible rfl)
              try simp only [Act.put, List.setIfInBounds_toArray, List.set_cons_zero, List.set_cons_succ]
              refine rg_one (i := 3) (oi := ?ot3) ?at3 ?bt3 ?ct3 ?dt3
              case at3 => (simp only [List.getElem?_toArray, List.getElem?_cons_succ, List.getElem?_cons_zero]; rfl)
              case bt3 => kernel_rfl
              case ct3 => rfl
              intro K hK
              (go_simp; refine (pl3 _ (Kp.refl No w3).drew).mono ?_; rintro e wA ⟨rfl, kA⟩)
              refine rg_use hK (kA) (fun hF => ?_)
              clear hK K
              try simp only [Act.put, List.setIfInBounds_toArray, List.set_cons_zero, List.set_cons_succ]
              refine rg_take (i := 4) (v := ?vt4) (by simp only [List.getElem?_toArray, List.getElem?_cons_succ, List.getElem?_cons_zero]; rfl) (by kernel_rfl) (by exact fun _ _ _ h => h) (by rfl) ?rt4 hF ?st4
              case rt4 => (intro W hW; clear hW; go_simp; try with_reducible rfl)
              try simp only [Act.put, List.setIfInBounds_toArray, List.set_cons_zero, List.set_cons_succ]
              refine rg_take (i := 5) (v := ?vt5) (by simp only [List.getElem?_toArray, List.getElem?_cons_succ, List.getElem?_cons_zero]; rfl) (by kernel_rfl) (by exact fun _ _ _ h => h) (by rfl) ?rt5 hF ?st5
              case rt5 => (intro W hW; clear hW; go_simp; try with_reducible rfl)
              try simp only [Act.put, List.setIfInBounds_toArray, List.set_cons_zero, List.set_cons_succ]
              refine rg_take (i := 6) (v := ?vt6) (by simp only [List.getElem?_toArray, List.getElem?_cons_succ, List.getElem?_cons_zero]; rfl) (by kernel_rfl) (by exact fun _ _ _ h => h) (by rfl) ?rt6 hF ?st6
              case rt6 => (intro W hW; clear hW; go_simp; try with_reducible rfl)
              try simp only [Act.put, List.setIfInBounds_toArray, List.set_cons_zero, List.set_cons_succ]
              refine rg_take (i := 7) (v := ?vt7) (by simp only [List.getElem?_toArray, List.getElem?_cons_succ, List.getElem?_cons_zero]; rfl) (by kernel_rfl) (by exact fun _ _ _ h => h) (by rfl) ?rt7 hF ?st7
              case rt7 => (intro W9 hW; have z : W9.cell? ⟨yB, 0, none⟩ = some (.int .i64 sq) := ((HY3.out.no hW).cell 0).trans HY0f.out; clear hW; go_simp; try with_reducible rfl)
              try simp only [Act.put, List.setIfInBounds_toArray, List.set_cons_zero, List.set_cons_succ]
              refine rg_take (i := 8) (v := ?vt8) (by simp only [List.getElem?_toArray, List.getElem?_cons_succ, List.getElem?_cons_zero]; rfl) (by kernel_rfl) (by exact fun _ _ _ h => h) (by rfl) ?rt8 hF ?st8
              case rt8 => (intro W hW; clear hW; go_simp; try with_reducible rfl)
              try simp only [Act.put, List.setIfInBounds_toArray, List.set_cons_zero, List.set_cons_succ]
              refine rg_one (i := 9) (oi := ?ot9) ?at9 ?bt9 ?ct9 ?dt9
              case at9 => (simp only [List.getElem?_toArray, List.getElem?_cons_succ, List.getElem?_cons_zero]; rfl)
              case bt9 => kernel_rfl
              case ct9 => rfl
              intro K hK
              (go_simp; refine (pl3 wA kA).mono ?_; rintro e wB ⟨rfl, kB⟩)
              refine rg_use hK (kB) (fun hF => ?_)
              clear hK K
              try simp only [Act.put, List.setIfInBounds_toArray, List.set_cons_zero, List.set_cons_succ]
              refine rg_take (i := 10) (v := ?vt10) (by simp only [List.getElem?_toArray, List.getElem?_cons_succ, List.getElem?_cons_zero]; rfl) (by kernel_rfl) (by exact fun _ _ _ h => h) (by rfl) ?rt10 hF ?st10
              case rt10 => (intro W hW; clear hW; go_simp; try with_reducible rfl)
              try simp only [Act.put, List.setIfInBounds_toArray, List.set_cons_zero, List.set_cons_succ]
              refine rg_take (i := 11) (v := ?vt11) (by simp only [List.getElem?_toArray, List.getElem?_cons_succ, List.getElem?_cons_zero]; rfl) (by kernel_rfl) (by exact fun _ _ _ h => h) (by rfl) ?rt11 hF ?st11
              case rt11 => (intro W hW; clear hW; go_simp; try with_reducible rfl)
              try simp only [Act.put, List.setIfInBounds_toArray, List.set_cons_zero, List.set_cons_succ]
              refine rg_take (i := 12) (v := ?vt12) (by simp only [List.getElem?_toArray, List.getElem?_cons_succ, List.getElem?_cons_zero]; rfl) (by kernel_rfl) (by exact fun _ _ _ h => h) (by rfl) ?rt12 hF ?st12
              case rt12 => (intro W hW; clear hW; go_simp; try with_reducible rfl)
              try simp only [Act.put, List.setIfInBounds_toArray, List.set_cons_zero, List.set_cons_succ]
              refine rg_take (i := 13) (v := ?vt13) (by simp only [List.getElem?_toArray, List.getElem?_cons_succ, List.getElem?_cons_zero]; rfl) (by kernel_rfl) (by exact fun _ _ _ h => h) (by rfl) ?rt13 hF ?st13
              case rt13 => (intro W hW; clear hW; go_simp; try with_reducible rfl)
              try simp only [Act.put, List.setIfInBounds_toArray, List.set_cons_zero, List.set_cons_succ]
              refine rg_take (i := 14) (v := ?vt14) (by simp only [List.getElem?_toArray, List.getElem?_cons_succ, List.getElem?_cons_zero]; rfl) (by kernel_rfl) (by exact fun _ _ _ h => h) (by rfl) ?rt14 hF ?st14
              case rt14 => (intro W hW; clear hW; go_simp; try with_reducible rfl)
              try simp only [Act.put, List.setIfInBounds_toArray, List.set_cons_zero, List.set_cons_succ]
              refine rg_take (i := 15) (v := ?vt15) (by simp only [List.getElem?_toArray, List.getElem?_cons_succ, List.getElem?_cons_zero]; rfl) (by kernel_rfl) (by exact fun _ _ _ h => h) (by rfl) ?rt15 hF ?st15
              case rt15 => (intro W9 hW; have z : W9.cell? ⟨yB, 0, none⟩ = some (.int .i64 sq) := ((HY3.out.no hW).cell 0).trans HY0f.out; clear hW; go_simp; try with_reducible rfl)
              try simp only [Act.put, List.setIfInBounds_toArray, List.set_cons_zero, List.set_cons_succ]
              refine rg_take (i := 16) (v := ?vt16) (by simp only [List.getElem?_toArray, List.getElem?_cons_succ, List.getElem?_cons_zero]; rfl) (by kernel_rfl) (by exact fun _ _ _ h => h) (by rfl) ?rt16 hF ?st16
              case rt16 => (intro W hW; clear hW; go_simp; try with_reducible rfl)
              try simp only [Act.put, List.setIfInBounds_toArray, List.set_cons_zero, List.set_cons_succ]
              refine rg_take (i := 17) (v := ?vt17) (by simp only [List.getElem?_toArray, List.getElem?_cons_succ, List.getElem?_cons_zero]; rfl) (by kernel_rfl) (by exact fun _ _ _ h => h) (by rfl) ?rt17 hF ?st17
              case rt17 => (intro W hW; clear hW; go_simp; try with_reducible rfl)
              try simp only [Act.put, List.setIfInBounds_toArray, List.set_cons_zero, List.set_cons_succ]
              refine rg_take (i := 18) (v := ?vt18) (by simp only [List.getElem?_toArray, List.getElem?_cons_succ, List.getElem?_cons_zero]; rfl) (by kernel_rfl) (by exact fun _ _ _ h => h) (by rfl) ?rt18 hF ?st18
              case rt18 => (intro W hW; clear hW; go_simp; try with_reducible rfl)
              try simp only [Act.put, List.setIfInBounds_toArray, List.set_cons_zero, List.set_cons_succ]
              refine rg_take (i := 19) (v := ?vt19) (by simp only [List.getElem?_toArray, List.getElem?_cons_succ, List.getElem?_cons_zero]; rfl) (by kernel_rfl) (by exact fun _ _ _ h => h) (by rfl) ?rt19 hF ?st19
              case rt19 => (intro W hW; clear hW; go_simp; try with_reducible rfl)
              try simp only [Act.put, List.setIfInBounds_toArray, List.set_cons_zero, List.set_cons_succ]
              refine rg_take (i := 20) (v := ?vt20) (by simp only [List.getElem?_toArray, List.getElem?_cons_succ, List.getElem?_cons_zero]; rfl) (by kernel_rfl) (by exact fun _ _ _ h => h) (by rfl) ?rt20 hF ?st20
              case rt20 => (intro W hW; clear hW; go_simp; try with_reducible rfl)
              try simp only [Act.put, List.setIfInBounds_toArray, List.set_cons_zero, List.set_cons_succ]
              refine rg_take (i := 21) (v := ?vt21) (by simp only [List.getElem?_toArray, List.getElem?_cons_succ, List.getElem?_cons_zero]; rfl) (by kernel_rfl) (by exact fun _ _ _ h => h) (by rfl) ?rt21 hF ?st21
              case rt21 => (intro W hW; clear hW; go_simp; try with_reducible rfl)
              try simp only [Act.put, List.setIfInBounds_toArray, List.set_cons_zero, List.set_cons_succ]
              refine rg_take (i := 22) (v := ?vt22) (by simp only [List.getElem?_toArray, List.getElem?_cons_succ, List.getElem?_cons_zero]; rfl) (by kernel_rfl) (by exact fun _ _ _ h => h) (by rfl) ?rt22 hF ?st22
              case rt22 => (intro W hW; clear hW; go_simp; try with_reducible rfl)
              try simp only [Act.put, List.setIfInBounds_toArray, List.set_cons_zero, List.set_cons_succ]
              refine rg_take (i := 23) (v := ?vt23) (by simp only [List.getElem?_toArray, List.getElem?_cons_succ, List.getElem?_cons_zero]; rfl) (by kernel_rfl) (by exact fun _ _ _ h => h) (by rfl) ?rt23 hF ?st23
              case rt23 => (intro W hW; clear hW; go_simp; try with_reducible rfl)
              try simp only [Act.put, List.setIfInBounds_toArray, List.set_cons_zero, List.set_cons_succ]
              refine rg_take (i := 24) (v := ?vt24) (by simp only [List.getElem?_toArray, List.getElem?_cons_succ, List.getElem?_cons_zero]; rfl) (by kernel_rfl) (by exact fun _ _ _ h => h) (by rfl) ?rt24 hF ?st24
              case rt24 => (intro W9 hW; have z : W9.cell? ⟨yB, 0, none⟩ = some (.int .i64 sq) := ((HY3.out.no hW).cell 0).trans HY0f.out; clear hW; go_simp; try with_reducible rfl)
              try simp only [Act.put, List.setIfInBounds_toArray, List.set_cons_zero, List.set_cons_succ]
              refine rg_take (i := 25) (v := ?vt25) (by simp only [List.getElem?_toArray, List.getElem?_cons_succ, List.getElem?_cons_zero]; rfl) (by kernel_rfl) (by exact fun _ _ _ h => h) (by rfl) ?rt25 hF ?st25
              case rt25 => (intro W hW; clear hW; go_simp; try with_reducible rfl)
              try simp only [Act.put, List.setIfInBounds_toArray, List.set_cons_zero, List.set_cons_succ]
              refine rg_take (i := 26) (v := ?vt26) (by simp only [List.getElem?_toArray, List.getElem?_cons_succ, List.getElem?_cons_zero]; rfl) (by kernel_rfl) (by exact fun _ _ _ h => h) (by rfl) ?rt26 hF ?st26
              case rt26 => (intro W hW; clear hW; go_simp; try with_reducible rfl)
              try simp only [Act.put, List.setIfInBounds_toArray, List.set_cons_zero, List.set_cons_succ]
              refine rg_take (i := 27) (v := ?vt27) (by simp only [List.getElem?_toArray, List.getElem?_cons_succ, List.getElem?_cons_zero]; rfl) (by kernel_rfl) (by exact fun _ _ _ h => h) (by rfl) ?rt27 hF ?st27
              case rt27 => (intro W hW; clear hW; go_simp; try with_reducible rfl)
              try simp only [Act.put, List.setIfInBounds_toArray, List.set_cons_zero, List.set_cons_succ]
              refine rg_take (i := 28) (v := ?vt28) (by simp only [List.getElem?_toArray, List.getElem?_cons_succ, List.getElem?_cons_zero]; rfl) (by kernel_rfl) (by exact fun _ _ _ h => h) (by rfl) ?rt28 hF ?st28
              case rt28 => (intro W hW; clear hW; go_simp; try with_reducible rfl)
              try simp only [Act.put, List.setIfInBounds_toArray, List.set_cons_zero, List.set_cons_succ]
              refine rg_take (i := 29) (v := ?vt29) (by simp only [List.getElem?_toArray, List.getElem?_cons_succ, List.getElem?_cons_zero]; rfl) (by kernel_rfl) (by exact fun _ _ _ h => h) (by rfl) ?rt29 hF ?st29
              case rt29 => (intro W hW; clear hW; go_simp; try with_reducible rfl)
              try simp only [Act.put, List.setIfInBounds_toArray, List.set_cons_zero, List.set_cons_succ]
              refine rg_take (i := 30) (v := ?vt30) (by simp only [List.getElem?_toArray, List.getElem?_cons_succ, List.getElem?_cons_zero]; rfl) (by kernel_rfl) (by exact fun _ _ _ h => h) (by rfl) ?rt30 hF ?st30
              case rt30 => (intro W9 hW; have z : W9.cell? ⟨g, o + k1 * 10, none⟩ = some (.int .i64 sq1) := by {have h := range_kp HRp.out hW id 0 _ HVp.out; simpa using h}; clear hW; go_simp; try with_reducible rfl)
              try simp only [Act.put, List.setIfInBounds_toArray, List.set_cons_zero, List.set_cons_succ]
              refine rg_take (i := 31) (v := ?vt31) (by simp only [List.getElem?_toArray, List.getElem?_cons_succ, List.getElem?_cons_zero]; rfl) (by kernel_rfl) (by exact fun _ _ _ h => h) (by rfl) ?rt31 hF ?st31
              case rt31 => (intro W hW; clear hW; go_simp; try with_reducible rfl)
              try simp only [Act.put, List.setIfInBounds_toArray, List.set_cons_zero, List.set_cons_succ]
              refine rg_take (i := 32) (v := ?vt32) (by simp only [List.getElem?_toArray, List.getElem?_cons_succ, List.getElem?_cons_zero]; rfl) (by kernel_rfl) (by exact fun _ _ _ h => h) (by rfl) ?rt32 hF ?st32
              case rt32 => (intro W hW; clear hW; go_simp; try with_reducible rfl)
              try simp only [Act.put, List.setIfInBounds_toArray, List.set_cons_zero, List.set_cons_succ]
              refine rg_take (i := 33) (v := ?vt33) (by simp only [List.getElem?_toArray, List.getElem?_cons_succ, List.getElem?_cons_zero]; rfl) (by kernel_rfl) (by exact fun _ _ _ h => h) (by rfl) ?rt33 hF ?st33
              case rt33 => (intro W hW; clear hW; go_simp; try with_reducible rfl)
              try simp only [Act.put, List.setIfInBounds_toArray, List.set_cons_zero, List.set_cons_succ]
              refine rg_take (i := 34) (v := ?vt34) (by simp only [List.getElem?_toArray, List.getElem?_cons_succ, List.getElem?_cons_zero]; rfl) (by kernel_rfl) (by exact fun _ _ _ h => h) (by rfl) ?rt34 hF ?st34
              case rt34 => (intro W hW; clear hW; go_simp; try with_reducible rfl)
              try simp only [Act.put, List.setIfInBounds_toArray, List.set_cons_zero, List.set_cons_succ]
              refine rg_take (i := 35) (v := ?vt35) (by simp only [List.getElem?_toArray, List.getElem?_cons_succ, List.getElem?_cons_zero]; rfl) (by kernel_rfl) (by exact fun _ _ _ h => h) (by rfl) ?rt35 hF ?st35
              case rt35 => (intro W hW; clear hW; go_simp; try with_reducible rfl)
              try simp only [Act.put, List.setIfInBounds_toArray, List.set_cons_zero, List.set_cons_succ]
              refine rg_take (i := 36) (v := ?vt36) (by simp only [List.getElem?_toArray, List.getElem?_cons_succ, List.getElem?_cons_zero]; rfl) (by kernel_rfl) (by exact fun _ _ _ h => h) (by rfl) ?rt36 hF ?st36
              case rt36 => (intro W9 hW; have z : W9.cell? ⟨yB, 8, none⟩ = some (.int .i64 st) := ((HY3.out.no hW).cell 8).trans HY8f.out; clear hW; go_simp; try with_reducible rfl)
              try simp only [Act.put, List.setIfInBounds_toArray, List.set_cons_zero, List.set_cons_succ]
              refine rg_take (i := 37) (v := ?vt37) (by simp only [List.getElem?_toArray, List.getElem?_cons_succ, List.getElem?_cons_zero]; rfl) (by kernel_rfl) (by exact fun _ _ _ h => h) (by rfl) ?rt37 hF ?st37
              case rt37 => (intro W hW; clear hW; go_simp; try with_reducible rfl)
              try simp only [Act.put, List.setIfInBounds_toArray, List.set_cons_zero, List.set_cons_succ]
              refine rg_take (i := 38) (v := ?vt38) (by simp only [List.getElem?_toArray, List.getElem?_cons_succ, List.getElem?_cons_zero]; rfl) (by kernel_rfl) (by exact fun _ _ _ h => h) (by rfl) ?rt38 hF ?st38
              case rt38 => (intro W hW; clear hW; go_simp; try with_reducible rfl)
              try simp only [Act.put, List.setIfInBounds_toArray, List.set_cons_zero, List.set_cons_succ]
              refine rg_take (i := 39) (v := ?vt39) (by simp only [List.getElem?_toArray, List.getElem?_cons_succ, List.getElem?_cons_zero]; rfl) (by kernel_rfl) (by exact fun _ _ _ h => h) (by rfl) ?rt39 hF ?st39
              case rt39 => (intro W9 hW; have z : W9.cell? ⟨yB, 0, none⟩ = some (.int .i64 sq) := ((HY3.out.no hW).cell 0).trans HY0f.out; clear hW; go_simp; try with_reducible rfl)
              try simp only [Act.put, List.setIfInBounds_toArray, List.set_cons_zero, List.set_cons_succ]
              refine rg_take (i := 40) (v := ?vt40) (by simp only [List.getElem?_toArray, List.getElem?_cons_succ, List.getElem?_cons_zero]; rfl) (by kernel_rfl) (by exact fun _ _ _ h => h) (by rfl) ?rt40 hF ?st40
              case rt40 => (intro W hW; clear hW; go_simp; try with_reducible rfl)
              try simp only [Act.put, List.setIfInBounds_toArray, List.set_cons_zero, List.set_cons_succ]
              refine rg_take (i := 41) (v := ?vt41) (by simp only [List.getElem?_toArray, List.getElem?_cons_succ, List.getElem?_cons_zero]; rfl) (by kernel_rfl) (by exact fun _ _ _ h => h) (by rfl) ?rt41 hF ?st41
              case rt41 => (intro W hW; clear hW; go_simp; try with_reducible rfl)
              try simp only [Act.put, List.setIfInBounds_toArray, List.set_cons_zero, List.set_cons_succ]
              refine rg_take (i := 42) (v := ?vt42) (by simp only [List.getElem?_toArray, List.getElem?_cons_succ, List.getElem?_cons_zero]; rfl) (by kernel_rfl) (by exact fun _ _ _ h => h) (by rfl) ?rt42 hF ?st42
              case rt42 => (intro W9 hW; have z : W9.cell? ⟨gs, os + i0, none⟩ = some (.int .i64 st) := HSC.out W9 hW; clear hW; go_simp; try with_reducible rfl)
              try simp only [Act.put, List.setIfInBounds_toArray, List.set_cons_zero, List.set_cons_succ]
              refine rg_take (i := 43) (v := ?vt43) (by simp only [List.getElem?_toArray, List.getElem?_cons_succ, List.getElem?_cons_zero]; rfl) (by kernel_rfl) (by exact fun _ _ _ h => h) (by rfl) ?rt43 hF ?st43
              case rt43 => (intro W hW; clear hW; go_simp; try with_reducible rfl)
              try simp only [Act.put, List.setIfInBounds_toArray, List.set_cons_zero, List.set_cons_succ]
              refine rg_take (i := 44) (v := ?vt44) (by simp only [List.getElem?_toArray, List.getElem?_cons_succ, List.getElem?_cons_zero]; rfl) (by kernel_rfl) (by exact fun _ _ _ h => h) (by rfl) ?rt44 hF ?st44
              case rt44 => (intro W hW; clear hW; go_simp; try with_reducible rfl)
              try simp only [Act.put, List.setIfInBounds_toArray, List.set_cons_zero, List.set_cons_succ]
              refine rg_take (i := 45) (v := ?vt45) (by simp only [List.getElem?_toArray, List.getElem?_cons_succ, List.getElem?_cons_zero]; rfl) (by kernel_rfl) (by exact fun _ _ _ h => h) (by rfl) ?rt45 hF ?st45
              case rt45 => (intro W hW; clear hW; go_simp; try with_reducible rfl)
              try simp only [Act.put, List.setIfInBounds_toArray, List.set_cons_zero, List.set_cons_succ]
              refine rg_take (i := 46) (v := ?vt46) (by simp only [List.getElem?_toArray, List.getElem?_cons_succ, List.getElem?_cons_zero]; rfl) (by kernel_rfl) (by exact fun _ _ _ h => h) (by rfl) ?rt46 hF ?st46
              case rt46 => (intro W hW; clear hW; go_simp; try with_reducible rfl)
              try simp only [Act.put, List.setIfInBounds_toArray, List.set_cons_zero, List.set_cons_succ]
              refine rg_take (i := 47) (v := ?vt47) (by simp only [List.getElem?_toArray, List.getElem?_cons_succ, List.getElem?_cons_zero]; rfl) (by kernel_rfl) (by exact fun _ _ _ h => h) (by rfl) ?rt47 hF ?st47
              case rt47 => (intro W9 hW; have z : W9.cell? ⟨yB, 9, none⟩ = some (.int .i64 tr) := ((HY3.out.no hW).cell 9).trans HY9f.out; clear hW; go_simp; try with_reducible rfl)
              try simp only [Act.put, List.setIfInBounds_toArray, List.set_cons_zero, List.set_cons_succ]
              refine rg_take (i := 48) (v := ?vt48) (by simp only [List.getElem?_toArray, List.getElem?_cons_succ, List.getElem?_cons_zero]; rfl) (by kernel_rfl) (by exact fun _ _ _ h => h) (by rfl) ?rt48 hF ?st48
              case rt48 => (intro W hW; clear hW; go_simp; try with_reducible rfl)
              try simp only [Act.put, List.setIfInBounds_toArray, List.set_cons_zero, List.set_cons_succ]
              refine rg_take (i := 49) (v := ?vt49) (by simp only [List.getElem?_toArray, List.getElem?_cons_succ, List.getElem?_cons_zero]; rfl) (by kernel_rfl) (by exact fun _ _ _ h => h) (by rfl) ?rt49 hF ?st49
              case rt49 => (intro W hW; clear hW; go_simp; try with_reducible rfl)
              try simp only [Act.put, List.setIfInBounds_toArray, List.set_cons_zero, List.set_cons_succ]
              refine rg_done (by kernel_rfl) ?_
              go_wp2
              go_meet
              exact ⟨rfl, kB⟩
          case rest =>
          obtain ⟨rfl, kx⟩ := hcut
          obtain ⟨wd, hwd⟩ : ∃ wd, wd = wc := ⟨_, rfl⟩
          rw [← hwd] at kx ⊢
          clear hwd
          have HK5 := Lib.hid kx
          clear kx hF n1 n2 n3 n5 hlo1 hlo2 hsq1 hsq2 hwr hs1 hs2 hiS hi00 hw0 hkz HSC HPR pl3
          as_aux_lemma =>
            have HTO2 := Lib.hid HXO.out.ok.1
            obtain ⟨f, hf⟩ : ∃ f : Int, f = (x.dest + 3) % 8 := ⟨_, rfl⟩
            obtain ⟨tq, hto⟩ : ∃ tq, tq = x.dest := ⟨_, rfl⟩
            rw [← hto] at hf HY1f
            have hto0 : 0 ≤ tq := by rw [hto]; exact HTO2.out.1
            have hto8 : tq < 8 := by rw [hto]; exact HTO2.out.2
            have HFF := Lib.hid (show 0 ≤ f ∧ f < 8 ∧ f ≠ x.dest by rw [← hto]; omega)
            have HAM := Lib.hid (ask_good (f := f) HGX.out HFF.out)
            have HAB := Lib.hid (ask_bad (f := x.dest) HGX.out (fun h => h.2.2 rfl))
            have pa := fun w (kk : Kp No w4 w) => pask_any b mb c2 f sq w (HO4.out.no kk) HC2.out (wf64 ⟨by have := HXN.out; omega, by have := HXN.out; have := HLA2.out; omega⟩)
            have pb := fun w (kk : Kp No w4 w) => pask_any b mb c2 x.dest sq w (HO4.out.no kk) HC2.out (wf64 ⟨by have := HXN.out; omega, by have := HXN.out; have := HLA2.out; omega⟩)
            unfold AskR at pa pb
            obtain ⟨M, hM⟩ : ∃ M, M = mcells (msgC x f boot lo) (.slice none 0 0) := ⟨_, rfl⟩
            have HTM := Lib.hid (show Sxt M by rw [hM]; exact Sxt.of _)
            have HMM := Lib.hid HTM.out.info; have HOM := Lib.hid HTM.out.one; have HLM := Lib.hid HTM.out.infoL
            obtain ⟨M2, hM2⟩ : ∃ M2, M2 = mcells ({} : Msg) (.slice none 0 0) := ⟨_, rfl⟩
            have HTM2 := Lib.hid (show Sxt M2 by rw [hM2]; exact Sxt.of _)
            have HMM2 := Lib.hid HTM2.out.info; have HOM2 := Lib.hid HTM2.out.one; have HLM2 := Lib.hid HTM2.out.infoL
            have pvv := fun w => valid10_any (msgC x f boot lo) (.slice none 0 0) w (SlI.nil _ _ _) (HXO.out.inx.rng (by have := HFF.out; omega) (by have := HC2.out.boot; have := HBT2.out; omega) (by have := HLO.out; have := HC2.out.low_le.2; have := HLA2.out; omega)) HXO.out.inx.short
            have hmv : decide (mayS vpP (msgC x f boot lo)) = true := by
              rw [decide_eq_true_iff, mayS_msgC]
              refine ⟨⟨HFF.out.1, HFF.out.2.1⟩, HFF.out.2.2, by rw [← HBT2.out]; exact HC2.out.boot, ?_, ⟨?_, ?_⟩, HXO.out.ok⟩
              · have := HXN.out; have := HLA2.out; have := HSQ.out; unfold cntI; omega
              · rw [HLO.out]; exact HC2.out.low_le.2.2
              · have := HXL.out; have := HSQ.out; rw [HLO.out]; omega
            rw [hmv, ← hM] at pvv
            rw [HAM.out.1, HAM.out.2, ← HLO.out, HBT2.out, ← hM] at pa
            rw [HAB.out.1, HAB.out.2, ← hM2] at pb
            have HM0f := Lib.hid (show M[0]? = some (.int .i64 1) by rw [hM]; rfl); have HM2f := Lib.hid (show M[2]? = some (.int .i64 tq) by rw [hM, hto]; rfl); have HM3f := Lib.hid (show M[3]? = some (.int .i64 boot) by rw [hM]; rfl); have HM4f := Lib.hid (show M[4]? = some (.int .i64 sq) by rw [hM, HSQ.out]; rfl)
            have HM5f := Lib.hid (show M[5]? = some (.int .i64 lo) by rw [hM]; rfl); have HM6f := Lib.hid (show M[6]? = some (.int .i64 x.verb) by rw [hM]; rfl); have HM7f := Lib.hid (show M[7]? = some (.string ⟨x.path.toArray⟩) by rw [hM]; rfl); have HM8f := Lib.hid (show M[8]? = some (.int .i64 x.mode) by rw [hM]; rfl)
            have HM9f := Lib.hid (show M[9]? = some (.int .i64 x.term) by rw [hM]; rfl); have HM10f := Lib.hid (show M[10]? = some (.int .i64 x.id) by rw [hM]; rfl); have HM11f := Lib.hid (show M[11]? = some (.bool x.fresh) by rw [hM]; rfl)
            rw [← hto] at pb
            have HPB := Lib.hid pb; have HPV := Lib.hid pvv
            clear hM hM2 hmv pb pvv hto
            have hf2 : (tq + 3) % 8 = f := hf.symm
            have hw3 : IntKind.i64.wrap (tq + 3) = tq + 3 := by rw [IntKind.wrap_i64]; omega
            have ht3 : (tq + 3).tmod 8 = f := by rw [hf, Int.tmod_eq_emod_of_nonneg (by omega)]
            have ht4 : 0 ≤ tq + 3 := by omega
            clear hf
            generalize x.verb = xv at *
            generalize x.path = xp at *
            generalize x.mode = xm at *
            generalize x.term = xt at *
            generalize x.id = xi at *
            generalize x.fresh = xf at *
            have HY5 := Lib.hid (HY3.out.no HK5.out)
            have HK45 := Lib.hid (HK43.out.trans HK5.out)
            have y0 : wd.cell? ⟨yB, 0, none⟩ = some (.int .i64 sq) := (HY5.out.cell 0).trans HY0f.out
            have y1 : wd.cell? ⟨yB, 1, none⟩ = some (.int .i64 tq) := (HY5.out.cell 1).trans HY1f.out
            have plx := fun w (kk : Kp No w4 w) => (low_any b mb c2 w (HO4.out.no kk) HC2.out).mono fun e w' ⟨h1, h3⟩ => (⟨by rw [h1, HLO.out], h3⟩ : e = Ending.returned (.int .i64 lo) ∧ Kp No w w')
            go_wp2_with fail
            refine (pa wd HK45.out).mono ?_
            rintro e w6 ⟨rfl, k6⟩
            clear y0 y1 pa hf2 hw3 ht3 ht4 hto0 hto8
            have HTHx := Lib.hid (show (w6.alloc (.cells m0.toArray 50)).there w6.heap.size 0 M.toArray.size from (Bk.new w6 _ _).thereM rfl HTM.out)
            have HM7 := Lib.hid (show Bk ((w6.alloc (.cells m0.toArray 50)).setCells w6.heap.size 0 M) w6.heap.size 50 M from (Bk.new w6 _ m0).put HTM.out.len)
            have k7 := Lib.hid (show Kp No w6 ((w6.alloc (.cells m0.toArray 50)).setCells w6.heap.size 0 M) from ((Kp.refl No w6).alloc _).sets M 0 (.inr (Nat.le_refl _)))
            have e0 : m0.toArray = #[.int .i64 0, .int .i64 0, .int .i64 0, .int .i64 0, .int .i64 0, .int .i64 0, .int .i64 0, .string ⟨#[]⟩, .int .i64 0, .int .i64 0, .int .i64 0, .bool false, .int .i64 0, .slice none 0 0, .int .i64 0, .int .i64 0] := rfl
            rw [e0] at HTHx HM7 k7
            clear e0
            go_upto_region 37 with (with_reducible refine wpList_store_mid rfl _ _ _ rfl w6.heap.size 0 M.toArray rfl rfl HTHx.out HMM.out HOM.out ?_)
            clear HTHx
            generalize World.setCells _ w6.heap.size 0 M = w7 at *
            have HK57 := Lib.hid (k6.trans k7.out)
            clear k6 k7
            as_aux_lemma =>
             generalize w6.heap.size = mQ at *
             have y0 : w7.cell? ⟨yB, 0, none⟩ = some (.int .i64 sq) := ((HY5.out.no HK57.out).cell 0).trans HY0f.out
             have y1 : w7.cell? ⟨yB, 1, none⟩ = some (.int .i64 tq) := ((HY5.out.no HK57.out).cell 1).trans HY1f.out
             go_wp2_with fail
             refine (HPB.out w7 (HK45.out.trans HK57.out)).mono ?_
             rintro e w8 ⟨rfl, k8⟩
             clear y0 y1 HPB
             as_aux_lemma =>
              have HTHx := Lib.hid (show (w8.alloc (.cells m0.toArray 50)).there w8.heap.size 0 M2.toArray.size from (Bk.new w8 _ _).thereM rfl HTM2.out)
              have HN9 := Lib.hid (show Bk ((w8.alloc (.cells m0.toArray 50)).setCells w8.heap.size 0 M2) w8.heap.size 50 M2 from (Bk.new w8 _ m0).put HTM2.out.len)
              have k9 := Lib.hid (show Kp No w8 ((w8.alloc (.cells m0.toArray 50)).setCells w8.heap.size 0 M2) from ((Kp.refl No w8).alloc _).sets M2 0 (.inr (Nat.le_refl _)))
              have e0 : m0.toArray = #[.int .i64 0, .int .i64 0, .int .i64 0, .int .i64 0, .int .i64 0, .int .i64 0, .int .i64 0, .string ⟨#[]⟩, .int .i64 0, .int .i64 0, .int .i64 0, .bool false, .int .i64 0, .slice none 0 0, .int .i64 0, .int .i64 0] := rfl
              rw [e0] at HTHx HN9 k9
              clear e0
              go_upto_region 38 with (with_reducible refine wpList_store_mid rfl _ _ _ rfl w8.heap.size 0 M2.toArray rfl rfl HTHx.out HMM2.out HOM2.out ?_)
              clear HTHx
              generalize World.setCells _ w8.heap.size 0 M2 = w9 at *
              have HK79 := Lib.hid (k8.trans k9.out)
              clear k8 k9
              as_aux_lemma =>
               have HIM := Lib.hid HTM.out.infoL
               have hF := (Kp.refl No w9).drew
               refine rg_begin (fun W2 => Kp No w9 W2) 84 (by kernel_rfl) ?_
               refine rg_take (i := 0) (v := ?vy0) (by simp only [List.getElem?_toArray]; rfl) (by kernel_rfl) (by exact fun _ _ _ h => h) (by rfl) ?ry0 hF ?sy0
               case ry0 => (intro W hW; clear hW; go_simp; try with_reducible rfl)
               try simp only [Act.put, List.setIfInBounds_toArray, List.set_cons_zero, List.set_cons_succ]
               refine rg_take (i := 1) (v := ?vy1) (by simp only [List.getElem?_toArray]; rfl) (by kernel_rfl) (by exact fun _ _ _ h => h) (by rfl) ?ry1 hF ?sy1
               case ry1 => (intro W hW; clear hW; go_simp; try with_reducible rfl)
               try simp only [Act.put, List.setIfInBounds_toArray, List.set_cons_zero, List.set_cons_succ]
               refine rg_take (i := 2) (v := ?vy2) (by simp only [List.getElem?_toArray]; rfl) (by kernel_rfl) (by exact fun _ _ _ h => h) (by rfl) ?ry2 hF ?sy2
               case ry2 => (intro W hW; clear hW; go_simp; try with_reducible rfl)
               try simp only [Act.put, List.setIfInBounds_toArray, List.set_cons_zero, List.set_cons_succ]
               refine rg_take (i := 3) (v := ?vy3) (by simp only [List.getElem?_toArray]; rfl) (by kernel_rfl) (by exact fun _ _ _ h => h) (by rfl) ?ry3 hF ?sy3
               case ry3 => (intro W hW; clear hW; go_simp; try with_reducible rfl)
               try simp only [Act.put, List.setIfInBounds_toArray, List.set_cons_zero, List.set_cons_succ]
               refine rg_take (i := 4) (v := ?vy4) (by simp only [List.getElem?_toArray]; rfl) (by kernel_rfl) (by exact fun _ _ _ h => h) (by rfl) ?ry4 hF ?sy4
               case ry4 => (intro W hW; clear hW; go_simp; try with_reducible rfl)
               try simp only [Act.put, List.setIfInBounds_toArray, List.set_cons_zero, List.set_cons_succ]
               refine rg_take (i := 5) (v := ?vy5) (by simp only [List.getElem?_toArray]; rfl) (by kernel_rfl) (by exact fun _ _ _ h => h) (by rfl) ?ry5 hF ?sy5
               case ry5 => (intro W hW; clear hW; go_simp; try with_reducible rfl)
               try simp only [Act.put, List.setIfInBounds_toArray, List.set_cons_zero, List.set_cons_succ]
               refine rg_take (i := 6) (v := ?vy6) (by simp only [List.getElem?_toArray]; rfl) (by kernel_rfl) (by exact fun _ _ _ h => h) (by rfl) ?ry6 hF ?sy6
               case ry6 => (intro W9 hW; refine exec_load_mid W9 50 (.tmp 20) ?_ mQ 0 ?_ M _ ((HM7.out.no (HK79.out.trans hW)).all_) Tryz.underlying50 ?_ HIM.out; exact rfl; exact rfl; exact rfl)
               try simp only [Act.put, List.setIfInBounds_toArray, List.set_cons_zero, List.set_cons_succ]
               refine rg_one (i := 7) (oi := ?oy7) ?ay7 ?by7 ?cy7 ?dy7
               case ay7 => (simp only [List.getElem?_toArray]; rfl)
               case by7 => kernel_rfl
               case cy7 => rfl
               intro K hK
               (go_simp; refine (HPV.out _).mono ?_; rintro e wV ⟨rfl, kV0⟩; have kV := (Kp.refl No w9).drew.trans kV0)
               refine rg_use hK (kV) (fun hF => ?_)
               clear hK K
               try simp only [Act.put, List.setIfInBounds_toArray, List.set_cons_zero, List.set_cons_succ]
               as_aux_lemma =>
                refine rg_take (i := 8) (v := ?vy8) (by simp only [List.getElem?_toArray]; rfl) (by kernel_rfl) (by exact fun _ _ _ h => h) (by rfl) ?ry8 hF ?sy8
                case ry8 => (intro W hW; clear hW; go_simp; try with_reducible rfl)
                try simp only [Act.put, List.setIfInBounds_toArray, List.set_cons_zero, List.set_cons_succ]
                refine rg_take (i := 9) (v := ?vy9) (by simp only [List.getElem?_toArray]; rfl) (by kernel_rfl) (by exact fun _ _ _ h => h) (by rfl) ?ry9 hF ?sy9
                case ry9 => (intro W hW; clear hW; go_simp; try with_reducible rfl)
                try simp only [Act.put, List.setIfInBounds_toArray, List.set_cons_zero, List.set_cons_succ]
                refine rg_take (i := 10) (v := ?vy10) (by simp only [List.getElem?_toArray]; rfl) (by kernel_rfl) (by exact fun _ _ _ h => h) (by rfl) ?ry10 hF ?sy10
                case ry10 => (intro W hW; clear hW; go_simp; try with_reducible rfl)
                try simp only [Act.put, List.setIfInBounds_toArray, List.set_cons_zero, List.set_cons_succ]
                refine rg_take (i := 11) (v := ?vy11) (by simp only [List.getElem?_toArray]; rfl) (by kernel_rfl) (by exact fun _ _ _ h => h) (by rfl) ?ry11 hF ?sy11
                case ry11 => (intro W hW; clear hW; go_simp; try with_reducible rfl)
                try simp only [Act.put, List.setIfInBounds_toArray, List.set_cons_zero, List.set_cons_succ]
                refine rg_take (i := 12) (v := ?vy12) (by simp only [List.getElem?_toArray]; rfl) (by kernel_rfl) (by exact fun _ _ _ h => h) (by rfl) ?ry12 hF ?sy12
                case ry12 => (intro W9 hW; have z : W9.cell? ⟨mQ, 0, none⟩ = some (.int .i64 1) := ((HM7.out.no (HK79.out.trans hW)).cell 0).trans HM0f.out; clear hW; go_simp; try with_reducible rfl)
                try simp only [Act.put, List.setIfInBounds_toArray, List.set_cons_zero, List.set_cons_succ]
                refine rg_take (i := 13) (v := ?vy13) (by simp only [List.getElem?_toArray]; rfl) (by kernel_rfl) (by exact fun _ _ _ h => h) (by rfl) ?ry13 hF ?sy13
                case ry13 => (intro W hW; clear hW; go_simp; try with_reducible rfl)
                try simp only [Act.put, List.setIfInBounds_toArray, List.set_cons_zero, List.set_cons_succ]
                refine rg_take (i := 14) (v := ?vy14) (by simp only [List.getElem?_toArray]; rfl) (by kernel_rfl) (by exact fun _ _ _ h => h) (by rfl) ?ry14 hF ?sy14
                case ry14 => (intro W hW; clear hW; go_simp; try with_reducible rfl)
                try simp only [Act.put, List.setIfInBounds_toArray, List.set_cons_zero, List.set_cons_succ]
                refine rg_take (i := 15) (v := ?vy15) (by simp only [List.getElem?_toArray]; rfl) (by kernel_rfl) (by exact fun _ _ _ h => h) (by rfl) ?ry15 hF ?sy15
                case ry15 => (intro W hW; clear hW; go_simp; try with_reducible rfl)
                try simp only [Act.put, List.setIfInBounds_toArray, List.set_cons_zero, List.set_cons_succ]
                refine rg_take (i := 16) (v := ?vy16) (by simp only [List.getElem?_toArray]; rfl) (by kernel_rfl) (by exact fun _ _ _ h => h) (by rfl) ?ry16 hF ?sy16
                case ry16 => (intro W hW; clear hW; go_simp; try with_reducible rfl)
                try simp only [Act.put, List.setIfInBounds_toArray, List.set_cons_zero, List.set_cons_succ]
                refine rg_take (i := 17) (v := ?vy17) (by simp only [List.getElem?_toArray]; rfl) (by kernel_rfl) (by exact fun _ _ _ h => h) (by rfl) ?ry17 hF ?sy17
                case ry17 => (intro W9 hW; have z : W9.cell? ⟨mQ, 2, none⟩ = some (.int .i64 tq) := ((HM7.out.no (HK79.out.trans hW)).cell 2).trans HM2f.out; clear hW; go_simp; try with_reducible rfl)
                try simp only [Act.put, List.setIfInBounds_toArray, List.set_cons_zero, List.set_cons_succ]
                as_aux_lemma =>
                 refine rg_take (i := 18) (v := ?vy18) (by simp only [List.getElem?_toArray]; rfl) (by kernel_rfl) (by exact fun _ _ _ h => h) (by rfl) ?ry18 hF ?sy18
                 case ry18 => (intro W hW; clear hW; go_simp; try with_reducible rfl)
                 try simp only [Act.put, List.setIfInBounds_toArray, List.set_cons_zero, List.set_cons_succ]
                 refine rg_take (i := 19) (v := ?vy19) (by simp only [List.getElem?_toArray]; rfl) (by kernel_rfl) (by exact fun _ _ _ h => h) (by rfl) ?ry19 hF ?sy19
                 case ry19 => (intro W9 hW; have z : W9.cell? ⟨yB, 1, none⟩ = some (.int .i64 tq) := ((HY5.out.no (HK57.out.trans (HK79.out.trans hW))).cell 1).trans HY1f.out; clear hW; go_simp; try with_reducible rfl)
                 try simp only [Act.put, List.setIfInBounds_toArray, List.set_cons_zero, List.set_cons_succ]
                 refine rg_take (i := 20) (v := ?vy20) (by simp only [List.getElem?_toArray]; rfl) (by kernel_rfl) (by exact fun _ _ _ h => h) (by rfl) ?ry20 hF ?sy20
                 case ry20 => (intro W hW; clear hW; go_simp; try with_reducible rfl)
                 try simp only [Act.put, List.setIfInBounds_toArray, List.set_cons_zero, List.set_cons_succ]
                 refine rg_take (i := 21) (v := ?vy21) (by simp only [List.getElem?_toArray]; rfl) (by kernel_rfl) (by exact fun _ _ _ h => h) (by rfl) ?ry21 hF ?sy21
                 case ry21 => (intro W hW; clear hW; go_simp; try with_reducible rfl)
                 try simp only [Act.put, List.setIfInBounds_toArray, List.set_cons_zero, List.set_cons_succ]
                 refine rg_take (i := 22) (v := ?vy22) (by simp only [List.getElem?_toArray]; rfl) (by kernel_rfl) (by exact fun _ _ _ h => h) (by rfl) ?ry22 hF ?sy22
                 case ry22 => (intro W hW; clear hW; go_simp; try with_reducible rfl)
                 try simp only [Act.put, List.setIfInBounds_toArray, List.set_cons_zero, List.set_cons_succ]
                 refine rg_take (i := 23) (v := ?vy23) (by simp only [List.getElem?_toArray]; rfl) (by kernel_rfl) (by exact fun _ _ _ h => h) (by rfl) ?ry23 hF ?sy23
                 case ry23 => (intro W hW; clear hW; go_simp; try with_reducible rfl)
                 try simp only [Act.put, List.setIfInBounds_toArray, List.set_cons_zero, List.set_cons_succ]
                 refine rg_take (i := 24) (v := ?vy24) (by simp only [List.getElem?_toArray]; rfl) (by kernel_rfl) (by exact fun _ _ _ h => h) (by rfl) ?ry24 hF ?sy24
                 case ry24 => (intro W9 hW; have z : W9.cell? ⟨mQ, 3, none⟩ = some (.int .i64 boot) := ((HM7.out.no (HK79.out.trans hW)).cell 3).trans HM3f.out; clear hW; go_simp; try with_reducible rfl)
                 try simp only [Act.put, List.setIfInBounds_toArray, List.set_cons_zero, List.set_cons_succ]
                 refine rg_take (i := 25) (v := ?vy25) (by simp only [List.getElem?_toArray]; rfl) (by kernel_rfl) (by exact fun _ _ _ h => h) (by rfl) ?ry25 hF ?sy25
                 case ry25 => (intro W hW; clear hW; go_simp; try with_reducible rfl)
                 try simp only [Act.put, List.setIfInBounds_toArray, List.set_cons_zero, List.set_cons_succ]
                 as_aux_lemma =>
                  refine rg_take (i := 26) (v := ?vy26) (by simp only [List.getElem?_toArray]; rfl) (by kernel_rfl) (by exact fun _ _ _ h => h) (by rfl) ?ry26 hF ?sy26
                  case ry26 => (intro W hW; clear hW; go_simp; try with_reducible rfl)
                  try simp only [Act.put, List.setIfInBounds_toArray, List.set_cons_zero, List.set_cons_succ]
                  refine rg_take (i := 27) (v := ?vy27) (by simp only [List.getElem?_toArray]; rfl) (by kernel_rfl) (by exact fun _ _ _ h => h) (by rfl) ?ry27 hF ?sy27
                  case ry27 => (intro W hW; clear hW; go_simp; try with_reducible rfl)
                  try simp only [Act.put, List.setIfInBounds_toArray, List.set_cons_zero, List.set_cons_succ]
                  refine rg_take (i := 28) (v := ?vy28) (by simp only [List.getElem?_toArray]; rfl) (by kernel_rfl) (by exact fun _ _ _ h => h) (by rfl) ?ry28 hF ?sy28
                  case ry28 => (intro W hW; clear hW; go_simp; try with_reducible rfl)
                  try simp only [Act.put, List.setIfInBounds_toArray, List.set_cons_zero, List.set_cons_succ]
                  refine rg_take (i := 29) (v := ?vy29) (by simp only [List.getElem?_toArray]; rfl) (by kernel_rfl) (by exact fun _ _ _ h => h) (by rfl) ?ry29 hF ?sy29
                  case ry29 => (intro W hW; clear hW; go_simp; try with_reducible rfl)
                  try simp only [Act.put, List.setIfInBounds_toArray, List.set_cons_zero, List.set_cons_succ]
                  refine rg_take (i := 30) (v := ?vy30) (by simp only [List.getElem?_toArray]; rfl) (by kernel_rfl) (by exact fun _ _ _ h => h) (by rfl) ?ry30 hF ?sy30
                  case ry30 => (intro W9 hW; have z : W9.cell? ⟨mQ, 4, none⟩ = some (.int .i64 sq) := ((HM7.out.no (HK79.out.trans hW)).cell 4).trans HM4f.out; clear hW; go_simp; try with_reducible rfl)
                  try simp only [Act.put, List.setIfInBounds_toArray, List.set_cons_zero, List.set_cons_succ]
                  refine rg_take (i := 31) (v := ?vy31) (by simp only [List.getElem?_toArray]; rfl) (by kernel_rfl) (by exact fun _ _ _ h => h) (by rfl) ?ry31 hF ?sy31
                  case ry31 => (intro W hW; clear hW; go_simp; try with_reducible rfl)
                  try simp only [Act.put, List.setIfInBounds_toArray, List.set_cons_zero, List.set_cons_succ]
                  refine rg_take (i := 32) (v := ?vy32) (by simp only [List.getElem?_toArray]; rfl) (by kernel_rfl) (by exact fun _ _ _ h => h) (by rfl) ?ry32 hF ?sy32
                  case ry32 => (intro W9 hW; have z : W9.cell? ⟨yB, 0, none⟩ = some (.int .i64 sq) := ((HY5.out.no (HK57.out.trans (HK79.out.trans hW))).cell 0).trans HY0f.out; clear hW; go_simp; try with_reducible rfl)
                  try simp only [Act.put, List.setIfInBounds_toArray, List.set_cons_zero, List.set_cons_succ]
                  refine rg_take (i := 33) (v := ?vy33) (by simp only [List.getElem?_toArray]; rfl) (by kernel_rfl) (by exact fun _ _ _ h => h) (by rfl) ?ry33 hF ?sy33
                  case ry33 => (intro W hW; clear hW; go_simp; try with_reducible rfl)
                  try simp only [Act.put, List.setIfInBounds_toArray, List.set_cons_zero, List.set_cons_succ]
                  refine rg_take (i := 34) (v := ?vy34) (by simp only [List.getElem?_toArray]; rfl) (by kernel_rfl) (by exact fun _ _ _ h => h) (by rfl) ?ry34 hF ?sy34
                  case ry34 => (intro W hW; clear hW; go_simp; try with_reducible rfl)
                  try simp only [Act.put, List.setIfInBounds_toArray, List.set_cons_zero, List.set_cons_succ]
                  refine rg_take (i := 35) (v := ?vy35) (by simp only [List.getElem?_toArray]; rfl) (by kernel_rfl) (by exact fun _ _ _ h => h) (by rfl) ?ry35 hF ?sy35
                  case ry35 => (intro W hW; clear hW; go_simp; try with_reducible rfl)
                  try simp only [Act.put, List.setIfInBounds_toArray, List.set_cons_zero, List.set_cons_succ]
                  as_aux_lemma =>
                   refine rg_take (i := 36) (v := ?vy36) (by simp only [List.getElem?_toArray]; rfl) (by kernel_rfl) (by exact fun _ _ _ h => h) (by rfl) ?ry36 hF ?sy36
                   case ry36 => (intro W hW; clear hW; go_simp; try with_reducible rfl)
                   try simp only [Act.put, List.setIfInBounds_toArray, List.set_cons_zero, List.set_cons_succ]
                   refine rg_take (i := 37) (v := ?vy37) (by simp only [List.getElem?_toArray]; rfl) (by kernel_rfl) (by exact fun _ _ _ h => h) (by rfl) ?ry37 hF ?sy37
                   case ry37 => (intro W9 hW; have z : W9.cell? ⟨mQ, 5, none⟩ = some (.int .i64 lo) := ((HM7.out.no (HK79.out.trans hW)).cell 5).trans HM5f.out; clear hW; go_simp; try with_reducible rfl)
                   try simp only [Act.put, List.setIfInBounds_toArray, List.set_cons_zero, List.set_cons_succ]
                   refine rg_take (i := 38) (v := ?vy38) (by simp only [List.getElem?_toArray]; rfl) (by kernel_rfl) (by exact fun _ _ _ h => h) (by rfl) ?ry38 hF ?sy38
                   case ry38 => (intro W hW; clear hW; go_simp; try with_reducible rfl)
                   try simp only [Act.put, List.setIfInBounds_toArray, List.set_cons_zero, List.set_cons_succ]
                   refine rg_one (i := 39) (oi := ?oy39) ?ay39 ?by39 ?cy39 ?dy39
                   case ay39 => (simp only [List.getElem?_toArray]; rfl)
                   case by39 => kernel_rfl
                   case cy39 => rfl
                   intro K hK
                   (go_simp; refine (plx wV (HK45.out.trans (HK57.out.trans (HK79.out.trans kV)))).mono ?_; rintro e wL ⟨rfl, kL0⟩; have kL := kV.trans kL0)
                   refine rg_use hK (kL) (fun hF => ?_)
                   clear hK K
                   try simp only [Act.put, List.setIfInBounds_toArray, List.set_cons_zero, List.set_cons_succ]
                   refine rg_take (i := 40) (v := ?vy40) (by simp only [List.getElem?_toArray]; rfl) (by kernel_rfl) (by exact fun _ _ _ h => h) (by rfl) ?ry40 hF ?sy40
                   case ry40 => (intro W hW; clear hW; go_simp; try with_reducible rfl)
                   try simp only [Act.put, List.setIfInBounds_toArray, List.set_cons_zero, List.set_cons_succ]
                   refine rg_take (i := 41) (v := ?vy41) (by simp only [List.getElem?_toArray]; rfl) (by kernel_rfl) (by exact fun _ _ _ h => h) (by rfl) ?ry41 hF ?sy41
                   case ry41 => (intro W hW; clear hW; go_simp; try with_reducible rfl)
                   try simp only [Act.put, List.setIfInBounds_toArray, List.set_cons_zero, List.set_cons_succ]
                   refine rg_take (i := 42) (v := ?vy42) (by simp only [List.getElem?_toArray]; rfl) (by kernel_rfl) (by exact fun _ _ _ h => h) (by rfl) ?ry42 hF ?sy42
                   case ry42 => (intro W hW; clear hW; go_simp; try with_reducible rfl)
                   try simp only [Act.put, List.setIfInBounds_toArray, List.set_cons_zero, List.set_cons_succ]
                   refine rg_take (i := 43) (v := ?vy43) (by simp only [List.getElem?_toArray]; rfl) (by kernel_rfl) (by exact fun _ _ _ h => h) (by rfl) ?ry43 hF ?sy43
                   case ry43 => (intro W hW; clear hW; go_simp; try with_reducible rfl)
                   try simp only [Act.put, List.setIfInBounds_toArray, List.set_cons_zero, List.set_cons_succ]
                   refine rg_take (i := 44) (v := ?vy44) (by simp only [List.getElem?_toArray]; rfl) (by kernel_rfl) (by exact fun _ _ _ h => h) (by rfl) ?ry44 hF ?sy44
                   case ry44 => (intro W9 hW; have z : W9.cell? ⟨mQ, 6, none⟩ = some (.int .i64 xv) := ((HM7.out.no (HK79.out.trans hW)).cell 6).trans HM6f.out; clear hW; go_simp; try with_reducible rfl)
                   try simp only [Act.put, List.setIfInBounds_toArray, List.set_cons_zero, List.set_cons_succ]
                   refine rg_take (i := 45) (v := ?vy45) (by simp only [List.getElem?_toArray]; rfl) (by kernel_rfl) (by exact fun _ _ _ h => h) (by rfl) ?ry45 hF ?sy45
                   case ry45 => (intro W hW; clear hW; go_simp; try with_reducible rfl)
                   try simp only [Act.put, List.setIfInBounds_toArray, List.set_cons_zero, List.set_cons_succ]
                   as_aux_lemma =>
                    refine rg_take (i := 46) (v := ?vy46) (by simp only [List.getElem?_toArray]; rfl) (by kernel_rfl) (by exact fun _ _ _ h => h) (by rfl) ?ry46 hF ?sy46
                    case ry46 => (intro W9 hW; have z : W9.cell? ⟨yB, 2, none⟩ = some (.int .i64 xv) := ((HY5.out.no (HK57.out.trans (HK79.out.trans hW))).cell 2).trans HY2f.out; clear hW; go_simp; try with_reducible rfl)
                    try simp only [Act.put, List.setIfInBounds_toArray, List.set_cons_zero, List.set_cons_succ]
                    refine rg_take (i := 47) (v := ?vy47) (by simp only [List.getElem?_toArray]; rfl) (by kernel_rfl) (by exact fun _ _ _ h => h) (by rfl) ?ry47 hF ?sy47
                    case ry47 => (intro W hW; clear hW; go_simp; try with_reducible rfl)
                    try simp only [Act.put, List.setIfInBounds_toArray, List.set_cons_zero, List.set_cons_succ]
                    refine rg_take (i := 48) (v := ?vy48) (by simp only [List.getElem?_toArray]; rfl) (by kernel_rfl) (by exact fun _ _ _ h => h) (by rfl) ?ry48 hF ?sy48
                    case ry48 => (intro W hW; clear hW; go_simp; try with_reducible rfl)
                    try simp only [Act.put, List.setIfInBounds_toArray, List.set_cons_zero, List.set_cons_succ]
                    refine rg_take (i := 49) (v := ?vy49) (by simp only [List.getElem?_toArray]; rfl) (by kernel_rfl) (by exact fun _ _ _ h => h) (by rfl) ?ry49 hF ?sy49
                    case ry49 => (intro W hW; clear hW; go_simp; try with_reducible rfl)
                    try simp only [Act.put, List.setIfInBounds_toArray, List.set_cons_zero, List.set_cons_succ]
                    refine rg_take (i := 50) (v := ?vy50) (by simp only [List.getElem?_toArray]; rfl) (by kernel_rfl) (by exact fun _ _ _ h => h) (by rfl) ?ry50 hF ?sy50
                    case ry50 => (intro W hW; clear hW; go_simp; try with_reducible rfl)
                    try simp only [Act.put, List.setIfInBounds_toArray, List.set_cons_zero, List.set_cons_succ]
                    refine rg_take (i := 51) (v := ?vy51) (by simp only [List.getElem?_toArray]; rfl) (by kernel_rfl) (by exact fun _ _ _ h => h) (by rfl) ?ry51 hF ?sy51
                    case ry51 => (intro W9 hW; have z : W9.cell? ⟨mQ, 7, none⟩ = some (.string ⟨xp.toArray⟩) := ((HM7.out.no (HK79.out.trans hW)).cell 7).trans HM7f.out; clear hW; go_simp; try with_reducible rfl)
                    try simp only [Act.put, List.setIfInBounds_toArray, List.set_cons_zero, List.set_cons_succ]
                    refine rg_take (i := 52) (v := ?vy52) (by simp only [List.getElem?_toArray]; rfl) (by kernel_rfl) (by exact fun _ _ _ h => h) (by rfl) ?ry52 hF ?sy52
                    case ry52 => (intro W hW; clear hW; go_simp; try with_reducible rfl)
                    try simp only [Act.put, List.setIfInBounds_toArray, List.set_cons_zero, List.set_cons_succ]
                    refine rg_take (i := 53) (v := ?vy53) (by simp only [List.getElem?_toArray]; rfl) (by kernel_rfl) (by exact fun _ _ _ h => h) (by rfl) ?ry53 hF ?sy53
                    case ry53 => (intro W9 hW; have z : W9.cell? ⟨yB, 3, none⟩ = some (.string ⟨xp.toArray⟩) := ((HY5.out.no (HK57.out.trans (HK79.out.trans hW))).cell 3).trans HY3f.out; clear hW; go_simp; try with_reducible rfl)
                    try simp only [Act.put, List.setIfInBounds_toArray, List.set_cons_zero, List.set_cons_succ]
                    refine rg_take (i := 54) (v := ?vy54) (by simp only [List.getElem?_toArray]; rfl) (by kernel_rfl) (by exact fun _ _ _ h => h) (by rfl) ?ry54 hF ?sy54
                    case ry54 => (intro W hW; clear hW; go_simp; try with_reducible rfl)
                    try simp only [Act.put, List.setIfInBounds_toArray, List.set_cons_zero, List.set_cons_succ]
                    as_aux_lemma =>
                     refine rg_take (i := 55) (v := ?vy55) (by simp only [List.getElem?_toArray]; rfl) (by kernel_rfl) (by exact fun _ _ _ h => h) (by rfl) ?ry55 hF ?sy55
                     case ry55 => (intro W hW; clear hW; go_simp; try with_reducible rfl)
                     try simp only [Act.put, List.setIfInBounds_toArray, List.set_cons_zero, List.set_cons_succ]
                     refine rg_take (i := 56) (v := ?vy56) (by simp only [List.getElem?_toArray]; rfl) (by kernel_rfl) (by exact fun _ _ _ h => h) (by rfl) ?ry56 hF ?sy56
                     case ry56 => (intro W hW; clear hW; go_simp; try with_reducible rfl)
                     try simp only [Act.put, List.setIfInBounds_toArray, List.set_cons_zero, List.set_cons_succ]
                     refine rg_take (i := 57) (v := ?vy57) (by simp only [List.getElem?_toArray]; rfl) (by kernel_rfl) (by exact fun _ _ _ h => h) (by rfl) ?ry57 hF ?sy57
                     case ry57 => (intro W hW; clear hW; go_simp; try with_reducible rfl)
                     try simp only [Act.put, List.setIfInBounds_toArray, List.set_cons_zero, List.set_cons_succ]
                     refine rg_take (i := 58) (v := ?vy58) (by simp only [List.getElem?_toArray]; rfl) (by kernel_rfl) (by exact fun _ _ _ h => h) (by rfl) ?ry58 hF ?sy58
                     case ry58 => (intro W9 hW; have z : W9.cell? ⟨mQ, 8, none⟩ = some (.int .i64 xm) := ((HM7.out.no (HK79.out.trans hW)).cell 8).trans HM8f.out; clear hW; go_simp; try with_reducible rfl)
                     try simp only [Act.put, List.setIfInBounds_toArray, List.set_cons_zero, List.set_cons_succ]
                     refine rg_take (i := 59) (v := ?vy59) (by simp only [List.getElem?_toArray]; rfl) (by kernel_rfl) (by exact fun _ _ _ h => h) (by rfl) ?ry59 hF ?sy59
                     case ry59 => (intro W hW; clear hW; go_simp; try with_reducible rfl)
                     try simp only [Act.put, List.setIfInBounds_toArray, List.set_cons_zero, List.set_cons_succ]
                     refine rg_take (i := 60) (v := ?vy60) (by simp only [List.getElem?_toArray]; rfl) (by kernel_rfl) (by exact fun _ _ _ h => h) (by rfl) ?ry60 hF ?sy60
                     case ry60 => (intro W9 hW; have z : W9.cell? ⟨yB, 4, none⟩ = some (.int .i64 xm) := ((HY5.out.no (HK57.out.trans (HK79.out.trans hW))).cell 4).trans HY4f.out; clear hW; go_simp; try with_reducible rfl)
                     try simp only [Act.put, List.setIfInBounds_toArray, List.set_cons_zero, List.set_cons_succ]
                     refine rg_take (i := 61) (v := ?vy61) (by simp only [List.getElem?_toArray]; rfl) (by kernel_rfl) (by exact fun _ _ _ h => h) (by rfl) ?ry61 hF ?sy61
                     case ry61 => (intro W hW; clear hW; go_simp; try with_reducible rfl)
                     try simp only [Act.put, List.setIfInBounds_toArray, List.set_cons_zero, List.set_cons_succ]
                     refine rg_take (i := 62) (v := ?vy62) (by simp only [List.getElem?_toArray]; rfl) (by kernel_rfl) (by exact fun _ _ _ h => h) (by rfl) ?ry62 hF ?sy62
                     case ry62 => (intro W hW; clear hW; go_simp; try with_reducible rfl)
                     try simp only [Act.put, List.setIfInBounds_toArray, List.set_cons_zero, List.set_cons_succ]
                     refine rg_take (i := 63) (v := ?vy63) (by simp only [List.getElem?_toArray]; rfl) (by kernel_rfl) (by exact fun _ _ _ h => h) (by rfl) ?ry63 hF ?sy63
                     case ry63 => (intro W hW; clear hW; go_simp; try with_reducible rfl)
                     try simp only [Act.put, List.setIfInBounds_toArray, List.set_cons_zero, List.set_cons_succ]
                     as_aux_lemma =>
                      refine rg_take (i := 64) (v := ?vy64) (by simp only [List.getElem?_toArray]; rfl) (by kernel_rfl) (by exact fun _ _ _ h => h) (by rfl) ?ry64 hF ?sy64
                      case ry64 => (intro W hW; clear hW; go_simp; try with_reducible rfl)
                      try simp only [Act.put, List.setIfInBounds_toArray, List.set_cons_zero, List.set_cons_succ]
                      refine rg_take (i := 65) (v := ?vy65) (by simp only [List.getElem?_toArray]; rfl) (by kernel_rfl) (by exact fun _ _ _ h => h) (by rfl) ?ry65 hF ?sy65
                      case ry65 => (intro W9 hW; have z : W9.cell? ⟨mQ, 9, none⟩ = some (.int .i64 xt) := ((HM7.out.no (HK79.out.trans hW)).cell 9).trans HM9f.out; clear hW; go_simp; try with_reducible rfl)
                      try simp only [Act.put, List.setIfInBounds_toArray, List.set_cons_zero, List.set_cons_succ]
                      refine rg_take (i := 66) (v := ?vy66) (by simp only [List.getElem?_toArray]; rfl) (by kernel_rfl) (by exact fun _ _ _ h => h) (by rfl) ?ry66 hF ?sy66
                      case ry66 => (intro W hW; clear hW; go_simp; try with_reducible rfl)
                      try simp only [Act.put, List.setIfInBounds_toArray, List.set_cons_zero, List.set_cons_succ]
                      refine rg_take (i := 67) (v := ?vy67) (by simp only [List.getElem?_toArray]; rfl) (by kernel_rfl) (by exact fun _ _ _ h => h) (by rfl) ?ry67 hF ?sy67
                      case ry67 => (intro W9 hW; have z : W9.cell? ⟨yB, 5, none⟩ = some (.int .i64 xt) := ((HY5.out.no (HK57.out.trans (HK79.out.trans hW))).cell 5).trans HY5f.out; clear hW; go_simp; try with_reducible rfl)
                      try simp only [Act.put, List.setIfInBounds_toArray, List.set_cons_zero, List.set_cons_succ]
                      refine rg_take (i := 68) (v := ?vy68) (by simp only [List.getElem?_toArray]; rfl) (by kernel_rfl) (by exact fun _ _ _ h => h) (by rfl) ?ry68 hF ?sy68
                      case ry68 => (intro W hW; clear hW; go_simp; try with_reducible rfl)
                      try simp only [Act.put, List.setIfInBounds_toArray, List.set_cons_zero, List.set_cons_succ]
                      refine rg_take (i := 69) (v := ?vy69) (by simp only [List.getElem?_toArray]; rfl) (by kernel_rfl) (by exact fun _ _ _ h => h) (by rfl) ?ry69 hF ?sy69
                      case ry69 => (intro W hW; clear hW; go_simp; try with_reducible rfl)
                      try simp only [Act.put, List.setIfInBounds_toArray, List.set_cons_zero, List.set_cons_succ]
                      refine rg_take (i := 70) (v := ?vy70) (by simp only [List.getElem?_toArray]; rfl) (by kernel_rfl) (by exact fun _ _ _ h => h) (by rfl) ?ry70 hF ?sy70
                      case ry70 => (intro W hW; clear hW; go_simp; try with_reducible rfl)
                      try simp only [Act.put, List.setIfInBounds_toArray, List.set_cons_zero, List.set_cons_succ]
                      refine rg_take (i := 71) (v := ?vy71) (by simp only [List.getElem?_toArray]; rfl) (by kernel_rfl) (by exact fun _ _ _ h => h) (by rfl) ?ry71 hF ?sy71
                      case ry71 => (intro W hW; clear hW; go_simp; try with_reducible rfl)
                      try simp only [Act.put, List.setIfInBounds_toArray, List.set_cons_zero, List.set_cons_succ]
                      refine rg_take (i := 72) (v := ?vy72) (by simp only [List.getElem?_toArray]; rfl) (by kernel_rfl) (by exact fun _ _ _ h => h) (by rfl) ?ry72 hF ?sy72
                      case ry72 => (intro W9 hW; have z : W9.cell? ⟨mQ, 10, none⟩ = some (.int .i64 xi) := ((HM7.out.no (HK79.out.trans hW)).cell 10).trans HM10f.out; clear hW; go_simp; try with_reducible rfl)
                      try simp only [Act.put, List.setIfInBounds_toArray, List.set_cons_zero, List.set_cons_succ]
                      refine rg_take (i := 73) (v := ?vy73) (by simp only [List.getElem?_toArray]; rfl) (by kernel_rfl) (by exact fun _ _ _ h => h) (by rfl) ?ry73 hF ?sy73
                      case ry73 => (intro W hW; clear hW; go_simp; try with_reducible rfl)
                      try simp only [Act.put, List.setIfInBounds_toArray, List.set_cons_zero, List.set_cons_succ]
                      as_aux_lemma =>
                       refine rg_take (i := 74) (v := ?vy74) (by simp only [List.getElem?_toArray]; rfl) (by kernel_rfl) (by exact fun _ _ _ h => h) (by rfl) ?ry74 hF ?sy74
                       case ry74 => (intro W9 hW; have z : W9.cell? ⟨yB, 6, none⟩ = some (.int .i64 xi) := ((HY5.out.no (HK57.out.trans (HK79.out.trans hW))).cell 6).trans HY6f.out; clear hW; go_simp; try with_reducible rfl)
                       try simp only [Act.put, List.setIfInBounds_toArray, List.set_cons_zero, List.set_cons_succ]
                       refine rg_take (i := 75) (v := ?vy75) (by simp only [List.getElem?_toArray]; rfl) (by kernel_rfl) (by exact fun _ _ _ h => h) (by rfl) ?ry75 hF ?sy75
                       case ry75 => (intro W hW; clear hW; go_simp; try with_reducible rfl)
                       try simp only [Act.put, List.setIfInBounds_toArray, List.set_cons_zero, List.set_cons_succ]
                       refine rg_take (i := 76) (v := ?vy76) (by simp only [List.getElem?_toArray]; rfl) (by kernel_rfl) (by exact fun _ _ _ h => h) (by rfl) ?ry76 hF ?sy76
                       case ry76 => (intro W hW; clear hW; go_simp; try with_reducible rfl)
                       try simp only [Act.put, List.setIfInBounds_toArray, List.set_cons_zero, List.set_cons_succ]
                       refine rg_take (i := 77) (v := ?vy77) (by simp only [List.getElem?_toArray]; rfl) (by kernel_rfl) (by exact fun _ _ _ h => h) (by rfl) ?ry77 hF ?sy77
                       case ry77 => (intro W hW; clear hW; go_simp; try with_reducible rfl)
                       try simp only [Act.put, List.setIfInBounds_toArray, List.set_cons_zero, List.set_cons_succ]
                       refine rg_take (i := 78) (v := ?vy78) (by simp only [List.getElem?_toArray]; rfl) (by kernel_rfl) (by exact fun _ _ _ h => h) (by rfl) ?ry78 hF ?sy78
                       case ry78 => (intro W hW; clear hW; go_simp; try with_reducible rfl)
                       try simp only [Act.put, List.setIfInBounds_toArray, List.set_cons_zero, List.set_cons_succ]
                       refine rg_take (i := 79) (v := ?vy79) (by simp only [List.getElem?_toArray]; rfl) (by kernel_rfl) (by exact fun _ _ _ h => h) (by rfl) ?ry79 hF ?sy79
                       case ry79 => (intro W9 hW; have z : W9.cell? ⟨mQ, 11, none⟩ = some (.bool xf) := ((HM7.out.no (HK79.out.trans hW)).cell 11).trans HM11f.out; clear hW; go_simp; try with_reducible rfl)
                       try simp only [Act.put, List.setIfInBounds_toArray, List.set_cons_zero, List.set_cons_succ]
                       refine rg_take (i := 80) (v := ?vy80) (by simp only [List.getElem?_toArray]; rfl) (by kernel_rfl) (by exact fun _ _ _ h => h) (by rfl) ?ry80 hF ?sy80
                       case ry80 => (intro W hW; clear hW; go_simp; try with_reducible rfl)
                       try simp only [Act.put, List.setIfInBounds_toArray, List.set_cons_zero, List.set_cons_succ]
                       refine rg_take (i := 81) (v := ?vy81) (by simp only [List.getElem?_toArray]; rfl) (by kernel_rfl) (by exact fun _ _ _ h => h) (by rfl) ?ry81 hF ?sy81
                       case ry81 => (intro W9 hW; have z : W9.cell? ⟨yB, 7, none⟩ = some (.bool xf) := ((HY5.out.no (HK57.out.trans (HK79.out.trans hW))).cell 7).trans HY7f.out; clear hW; go_simp; try with_reducible rfl)
                       try simp only [Act.put, List.setIfInBounds_toArray, List.set_cons_zero, List.set_cons_succ]
                       refine rg_take (i := 82) (v := ?vy82) (by simp only [List.getElem?_toArray]; rfl) (by kernel_rfl) (by exact fun _ _ _ h => h) (by rfl) ?ry82 hF ?sy82
                       case ry82 => (intro W hW; clear hW; go_simp; try with_reducible rfl)
                       try simp only [Act.put, List.setIfInBounds_toArray, List.set_cons_zero, List.set_cons_succ]
                       refine rg_take (i := 83) (v := ?vy83) (by simp only [List.getElem?_toArray]; rfl) (by kernel_rfl) (by exact fun _ _ _ h => h) (by rfl) ?ry83 hF ?sy83
                       case ry83 => (intro W hW; clear hW; go_simp; try with_reducible rfl)
                       try simp only [Act.put, List.setIfInBounds_toArray, List.set_cons_zero, List.set_cons_succ]
                       refine rg_done (by kernel_rfl) ?_
                       have HK5L := Lib.hid (HK57.out.trans (HK79.out.trans kL))
                       clear kV kV0 kL kL0 hF plx HPV
                       go_wp2
                       go_roundw
                       case rel => exact ⟨k + 1, by omega, by go_num, HK45.out.trans HK5L.out⟩
                       case measure => simp [intOf]; omega

/-! ### The row's step -/
set_option maxRecDepth 100000 in
theorem lifted (os : Os) (started : os.Started) (H : Type) (enc : TypeId × Value → H) :
    ReturnsInHanded {} Tryz.checked os 5 .any (Rows.callsOnceSpec.pre6 enc Tryz.prog Tryz.f5 Rows.callsOnceRow.domain false) (Rows.callsOnceSpec.post enc Tryz.prog Tryz.f5 false true false false) := by
  refine returnsInHanded_of_change_sized (C := Tryz.checked) own started (by kernel_rfl) Tryz.func5
    (ChangeSpec.witness6 (enc := enc) (C := Tryz.checked) false ⟨#[], #[.int .i64 0, .slice none 0 0], []⟩ 8 (by kernel_rfl) (by kernel_rfl) (by kernel_rfl) (by kernel_rfl)) ?_
  intro W base args ds gs before hval0 hW hcnd hsz0 _
  have hval : ∀ (j : Nat) t v, Tryz.f5.params[j]? = some t → args[j]? = some v → Value.okWide Tryz.prog W .any base t v := hval0
  have hW' := hW
  obtain ⟨p, q, hA0, hV, rfl, hfz, hnd⟩ := hW
  have hA : DataW.TrodAll enc Tryz.prog W 0 (fun _ => true) true Tryz.f5.params.toList args.toList ds p := hA0
  rw [Tryz.params5] at hA hval
  obtain ⟨v0, vs0, d0, ds0, p0, q0, hargs, rfl, rfl, h0, r0⟩ := trodAll_cons hA
  obtain ⟨v1, vs1, d1, ds1, p1, q1, rfl, rfl, rfl, h1, r1⟩ := trodAll_cons r0
  obtain ⟨rfl, rfl, rfl⟩ := trodAll_nil r1
  obtain rfl : args = #[v0, v1] := by cases args; simp_all
  obtain ⟨rfl, rfl⟩ := trodVars_none hV
  have hsz : ∀ (j : Nat) (t : TypeId) (d : DataW H), ([3, 36] : List TypeId)[j]? = some t → [d0, d1][j]? = some d → ∀ n ∈ d.weights Tryz.prog t, n ≤ reachBytes := by
    intro j t d ht hd n hn
    have hsz1 : (DataW.weightsEach Tryz.prog ([3, 36] : List TypeId) [d0, d1]).all (· ≤ reachBytes) = true := hsz0
    have := List.all_eq_true.1 hsz1 n (DataW.weights_mem_each ht hd n hn)
    simpa using this
  have k0 := h0
  have lt0 : ∀ x ∈ p0, x.block < W.heap.size := by obtain ⟨m, hm⟩ := k0; exact DataW.trod_lt m _ _ _ hm
  obtain ⟨n0, rfl, rfl, rfl, x0⟩ := open_int Tryz.underlying3 (hval 0 3 v0 rfl rfl) h0
  have k1 := h1
  have lt1 : ∀ x ∈ p1, x.block < W.heap.size := by obtain ⟨m, hm⟩ := k1; exact DataW.trod_lt m _ _ _ hm
  obtain ⟨l1, hl1, hs1, hp1⟩ := open_opsA (hval 1 36 v1 rfl rfl) h1 (hsz 1 36 _ rfl rfl)
  refine (walk n0 v1 l1 W  hl1 hs1 hp1).mono fun e W' ⟨he, bel⟩ => ?_
  subst he
  exact ⟨_, rfl, _, _, _, [], _, [], hW', trodAll_mk1 (shut_bool Tryz.underlying4 _), (trodAll_cons_mk (Below.trod laidOut (by kernel_rfl) (of_decide_eq_true (by kernel_rfl)) k0 bel lt0) (trodAll_cons_mk (Below.trod laidOut (by kernel_rfl) (of_decide_eq_true (by kernel_rfl)) k1 bel lt1) trodAll_mk0)), rfl, bel.frame _, fun h => by cases h⟩

theorem over : Rows.callsOnceRow.holds Tryz.pinned (OpenSpec.ofChange Rows.callsOnceSpec) :=
  OpenClaim.holds_of_wide 5 Tryz.f5 rfl rfl rfl rfl rfl rfl rfl ⟨rfl, rfl, rfl, rfl, rfl⟩ rfl rfl rfl rfl rfl (by kernel_rfl) Tryz.func5 (by kernel_rfl)
    (of_decide_eq_true (by kernel_rfl)) (by unfold Func.isWrapper; first | (rw [if_pos (by decide +kernel)]; kernel_rfl) | (rw [if_neg (by decide +kernel)]; exact ⟨rfl, rfl⟩))
    (fun os started H enc _ => lifted os started H enc)

theorem proved : Rows.CallsOnceSaid := over
#print axioms proved
end Go.Proofs.YtkiaclldjofdoaaGreat.callsOnce
