/- CallsPlays: every call answers what the document says, whatever was called ahead of it, for every boot and script. No condition. -/
import Derived.Test.YtkiaclldjofdoaaGreatH10
import Derived.Test.YtkiaclldjofdoaaGreatH08
import Derived.Test.YtkiaclldjofdoaaGreatB26
import Derived.Deep.CutBlock
import Derived.Deep.CutRange
import Derived.Deep.DeepCutAuto
import Derived.ProofKit
import Derived.OpenShut
import Derived.ShutString
import Derived.ChangeOld
import Derived.SizedLaws
import Derived.Below
namespace Go.Proofs.YtkiaclldjofdoaaGreat.callsPlays
open Go Go.Maps Go.PlainAid Go.ChangeShapes Go.WideShapes Go.ChangeAt Go.RowKit
open Go.ChangeMaps (open_string shut_string)

theorem own : ownKnob Tryz.prog.godebug = none := by kernel_rfl
theorem laidOut : laidOutB Tryz.prog = true := by kernel_rfl
set_option maxRecDepth 100000 in
set_option maxHeartbeats 8000000 in
theorem walk (boot : Int) (v : Value) (l : List Opr) (W : World) (hv : ArgO W v l) (hl : l.length ≤ maxLen) (hp : ∀ p ∈ l, InO p) : Calls Tryz.prog 4 #[.int .i64 boot, v] W fun e w' => e = .returned (.bool true) ∧ Below W.heap.size W w' := by
  obtain ⟨A, cp, rfl, _⟩ : ∃ A c, v = .slice A l.length c ∧ l.length ≤ c := by obtain ⟨A, c, e, hc, _⟩ := hv; exact ⟨A, c, e, hc⟩
  have HVV := Lib.hid hv; have HP := Lib.hid hp
  have hl2 : l.length ≤ 9223372036854775807 := by unfold maxLen at hl; omega
  clear hv hp hl
  go_enter Tryz.func4, Tryz.ntmps4
  go_wp2_with fail
  refine (awake14_any W).mono ?_
  rintro e wa ⟨rfl, ka⟩
  have HKa := Lib.hid ka
  clear ka
  by_cases hb : boot < 1 ∨ 1099511627776 < boot
  · go_wp2_with fail
    refine (new_bad boot wa hb).mono ?_
    rintro e w1 ⟨rfl, rfl⟩
    go_wp2_with fail
    refine (rnew_bad boot wa hb).mono ?_
    rintro e w2 ⟨rfl, k2⟩
    have HK2 := Lib.hid (HKa.out.trans k2)
    have hk3 := (HK2.out.alloc (.cells #[.int .i64 0, .int .i64 0, .slice none 0 0] 39))
    have HK3 := Lib.hid hk3
    clear hb k2 hk3
    unfold rC
    go_wp2
    go_ret
    exact ⟨rfl, HK3.out.below (Nat.le_refl _) (fun _ _ m => m)⟩
  have hb1 : 1 ≤ boot := by omega
  have hb2 : boot ≤ 1099511627776 := by omega
  go_wp2_with fail
  refine (new_good boot wa hb1 hb2).mono ?_
  rintro e w1 ⟨b, mb, rfl, o1, hbb, hmb, k1⟩
  have HO1 := Lib.hid o1; have HK1 := Lib.hid (HKa.out.trans k1)
  have hbW : W.heap.size ≤ b := Nat.le_trans HKa.out.size hbb
  have hmW : W.heap.size ≤ mb := Nat.le_trans HKa.out.size hmb
  clear o1 k1 hbb hmb
  go_wp2_with fail
  refine (rnew_good boot w1 hb1 hb2).mono ?_
  rintro e w2 ⟨rfl, k2⟩
  have HO2 := Lib.hid (HO1.out.no k2); have HK2 := Lib.hid (HK1.out.trans k2)
  have HOK := Lib.hid (CsOk.new ⟨hb1, hb2⟩)
  clear k2 hb hb1 hb2
  unfold rC
  obtain ⟨w3, hw3⟩ : ∃ w3, w3 = w2.alloc (.cells #[.int .i64 boot, .int .i64 1, .slice none 0 0] 39) := ⟨_, rfl⟩
  have HO3 := Lib.hid (HO2.out.no (show Kp No w2 w3 by rw [hw3]; exact (Kp.refl No w2).alloc _))
  have HK3 := Lib.hid (show Kp No W w3 by rw [hw3]; exact HK2.out.alloc _)
  have HM3 := Lib.hid (show Bk w3 w2.heap.size 39 (rC boot 1 (.slice none 0 0)) by rw [hw3]; exact Bk.new' rfl rfl)
  have HmB := Lib.hid HK2.out.size
  have HW3 := Lib.hid hw3
  clear hw3
  go_upto_region 5 with (fail)
  rw [← HW3.out]
  clear HW3
  generalize w2.heap.size = mB at *
  go_upto_region 9 with (fail)
  go_wp2
  go_loopw [61] (fun i wr => ∃ j : Nat, j ≤ l.length ∧ i = .int .i64 j ∧ Beside W b mb mB boot wr) (fun i _ => l.length - (intOf i).toNat)
  case atStart => exact ⟨0, Nat.zero_le _, rfl, newC boot, _, HO3.out, HOK.out, rfl, HM3.out, ArgC.nil _ _ _, HK3.out⟩
  case round =>
    obtain ⟨j, hj, rfl, c, sv, ho, hc, hbt, hm, ha, hk⟩ := hrel
    have HO := Lib.hid ho; have HC := Lib.hid hc; have HBT := Lib.hid hbt; have HM := Lib.hid hm; have HA := Lib.hid ha; have HK := Lib.hid hk
    clear ho hc hbt hm ha hk HO3 HK3 HM3 HOK HO2 HK2 HO1 HK1
    by_cases hlt : j < l.length
    case neg =>
      have hk1 : ¬ (j : Int) < (l.length : Int) := by omega
      clear hlt
      go_wp2
      go_ret
      exact ⟨rfl, HK.out.below (Nat.le_refl _) (fun _ _ m => m)⟩
    have hk0 : (0 : Int) ≤ (j : Int) := by omega
    have hk1 : (j : Int) < (l.length : Int) := by omega
    obtain ⟨g, o, hA, hgl, hr⟩ := (HVV.out.no HK.out).at_ hlt
    subst hA
    obtain ⟨Av, cv, hsv, _⟩ := HA.out.len
    subst hsv
    obtain ⟨op, hop⟩ : ∃ op, op = l[j] := ⟨_, rfl⟩
    have HIN := Lib.hid (HP.out op (by rw [hop]; exact List.getElem_mem hlt))
    rw [← hop] at hr
    have HR := Lib.hid hr
    clear hlt hr hop
    obtain ⟨O, hO⟩ : ∃ O, O = oC op := ⟨_, rfl⟩
    have HTO := Lib.hid (show Thn O by rw [hO]; exact Thn.of _)
    have HOO := Lib.hid hO
    rw [← hO] at HR
    clear hO
    have HLO := Lib.hid HTO.out.infoL; have HMO := Lib.hid HTO.out.info; have HOO1 := Lib.hid HTO.out.one
    have HTH := Lib.hid (show (wr.alloc (.cells #[.int .i64 0, .int .i64 0, .int .i64 0, .int .i64 0, .int .i64 0, .int .i64 0, .string ⟨#[]⟩, .int .i64 0, .int .i64 0, .int .i64 0, .bool false, .int .i64 0, .int .i64 0] 43)).there wr.heap.size 0 O.toArray.size from (Bk.new wr 43 (oC {})).thereO rfl HTO.out)
    have HX1 := Lib.hid (show Bk ((wr.alloc (.cells #[.int .i64 0, .int .i64 0, .int .i64 0, .int .i64 0, .int .i64 0, .int .i64 0, .string ⟨#[]⟩, .int .i64 0, .int .i64 0, .int .i64 0, .bool false, .int .i64 0, .int .i64 0] 43)).setCells wr.heap.size 0 O) wr.heap.size 43 O from (Bk.new wr 43 (oC {})).put HTO.out.len)
    have HK1 := Lib.hid (show Kp No wr ((wr.alloc (.cells #[.int .i64 0, .int .i64 0, .int .i64 0, .int .i64 0, .int .i64 0, .int .i64 0, .string ⟨#[]⟩, .int .i64 0, .int .i64 0, .int .i64 0, .bool false, .int .i64 0, .int .i64 0] 43)).setCells wr.heap.size 0 O) from ((Kp.refl No wr).alloc _).sets O 0 (.inr (Nat.le_refl _)))
    go_upto_region 12 with (first
      | (with_reducible refine wpList_load_mid rfl _ _ rfl g (o + j * 13) rfl O _ HR.out Tryz.underlying43 rfl HLO.out ?_)
      | (with_reducible refine wpList_store_mid rfl _ _ _ rfl wr.heap.size 0 O.toArray rfl rfl HTH.out HMO.out HOO1.out ?_))
    generalize World.setCells _ wr.heap.size 0 O = w1 at *
    have HO1 := Lib.hid (HO.out.no HK1.out); have HM1 := Lib.hid (HM.out.no HK1.out); have HV1 := Lib.hid (HA.out.no HK1.out); have HKW := Lib.hid (HK.out.trans HK1.out)
    have HNX := Lib.hid (show ¬ One mB wr.heap.size from fun e => by have e : wr.heap.size = mB := e; have := HM.out.lt; omega)
    have HNB := Lib.hid (show ¬ One mB b ∧ ¬ One mB mb from ⟨fun e => HO.out.off HM.out (by decide) (.inl (Eq.symm e)), fun e => HO.out.off HM.out (by decide) (.inr (Eq.symm e))⟩)
    generalize wr.heap.size = xB at *
    clear HO HM HA HTH HK1 HMO HOO1 HR HK hgl
    obtain ⟨E, hE⟩ : ∃ E, E = rC c.boot c.next (.slice Av c.opn.length cv) := ⟨_, rfl⟩
    have HTE := Lib.hid (show Thr E by rw [hE]; exact Thr.of _ _ _ _ _)
    have HME := Lib.hid HTE.out.info; have HOE := Lib.hid HTE.out.one; have HLE := Lib.hid HTE.out.infoL
    have HEE := Lib.hid hE
    rw [← hE] at HM1
    clear hE
    obtain ⟨kind, hkd⟩ : ∃ kind, kind = op.kind := ⟨_, rfl⟩
    obtain ⟨n, hn⟩ : ∃ n, n = op.n := ⟨_, rfl⟩
    obtain ⟨fr, hfr⟩ : ∃ fr, fr = op.from_ := ⟨_, rfl⟩
    obtain ⟨X, hX⟩ : ∃ X, X = cC op.x := ⟨_, rfl⟩
    have HN0 := Lib.hid (show O[0]? = some (.int .i64 kind) by rw [HOO.out, hkd]; rfl)
    have HN1 := Lib.hid (show O[1]? = some (.int .i64 n) by rw [HOO.out, hn]; rfl)
    have HN2 := Lib.hid (show O[2]? = some (.int .i64 fr) by rw [HOO.out, hfr]; rfl)
    have HWN := Lib.hid (show (Lit.int .i64 n).wf = true by rw [hn]; exact HIN.out.n)
    have HWF := Lib.hid (show (Lit.int .i64 fr).wf = true by rw [hfr]; exact HIN.out.from_)
    have HXX := Lib.hid hX; have HNN := Lib.hid hn
    have x0 : w1.cell? ⟨xB, 0, none⟩ = some (.int .i64 kind) := (HX1.out.cell 0).trans HN0.out
    have x1 : w1.cell? ⟨xB, 1, none⟩ = some (.int .i64 n) := (HX1.out.cell 1).trans HN1.out
    have x2 : w1.cell? ⟨xB, 2, none⟩ = some (.int .i64 fr) := (HX1.out.cell 2).trans HN2.out
    clear hkd hn hfr hX
    go_upto_block 2 with (fail)
    go_cut [11] (fun s wx => s = .bool true ∧ Beside W b mb mB boot wx)
    case first =>
      by_cases h1 : kind = 1
      · as_aux_lemma =>
          have d1 : (kind == 1) = true := by rw [beq_iff_eq]; exact h1
          clear h1
          have pg := fun w (k : Kp No w1 w) => get_any b mb c n w (HO1.out.no k) HWN.out
          have pr := fun w (k : Kp No w1 w) => rget_any c.boot c.next (.slice Av c.opn.length cv) c.opn n w (HV1.out.no k) (Nat.le_trans HC.out.len (by decide))
          obtain ⟨C, hC⟩ : ∃ C, C = cC (atC c.opn n) := ⟨_, rfl⟩
          have HTC := Lib.hid (show Ten C by rw [hC]; exact Ten.of _)
          have HMC := Lib.hid HTC.out.info; have HOC := Lib.hid HTC.out.one; have HLC := Lib.hid HTC.out.infoL
          have hvc : vC (atC c.opn n) = .agg C.toArray := by rw [hC]; rfl
          have heq := fun w => call_eq (atC c.opn n) (atC c.opn n) w
          rw [← hC, decide_eq_true rfl] at heq
          rw [hvc] at pg pr
          rw [← HEE.out] at pr
          clear hC hvc
          generalize (getC c.opn n).isSome = ok at pg pr
          have HPR := Lib.hid pr; have HEQ := Lib.hid heq
          clear pr heq
          go_wp2_with fail
          refine (pg w1 (Kp.refl _ _)).mono ?_
          rintro e w2 ⟨rfl, k2⟩
          clear pg
          have HTHx := Lib.hid (show (w2.alloc (.cells (cC {}).toArray 32)).there w2.heap.size 0 C.toArray.size from (Bk.new w2 _ _).thereC rfl HTC.out)
          have HB3 := Lib.hid (show Bk ((w2.alloc (.cells (cC {}).toArray 32)).setCells w2.heap.size 0 C) w2.heap.size 32 C from (Bk.new w2 _ (cC {})).put HTC.out.len)
          have k3 := Lib.hid (show Kp No w2 ((w2.alloc (.cells (cC {}).toArray 32)).setCells w2.heap.size 0 C) from ((Kp.refl No w2).alloc _).sets C 0 (.inr (Nat.le_refl _)))
          have e0 : (cC {}).toArray = #[.int .i64 0, .int .i64 0, .int .i64 0, .string ⟨#[]⟩, .int .i64 0, .int .i64 0, .int .i64 0, .bool false, .int .i64 0, .int .i64 0] := rfl
          rw [e0] at HTHx HB3 k3
          clear e0
          go_upto_region 20 with (with_reducible refine wpList_store_mid rfl _ _ _ rfl w2.heap.size 0 C.toArray rfl rfl HTHx.out HMC.out HOC.out ?_)
          clear HTHx
          generalize World.setCells _ w2.heap.size 0 C = w3 at *
          have HK3 := Lib.hid (k2.trans k3.out)
          clear k2 k3
          have x1 : w3.cell? ⟨xB, 1, none⟩ = some (.int .i64 n) := ((HX1.out.no HK3.out).cell 1).trans HN1.out
          have HR3 := Lib.hid (HM1.out.no HK3.out).all_
          go_wp2_with (with_reducible refine wpList_load_mid rfl _ _ rfl mB 0 rfl E _ HR3.out Tryz.underlying39 rfl HLE.out ?_)
          refine (HPR.out w3 HK3.out).mono ?_
          rintro e w4 ⟨rfl, k4⟩
          have HB4 := Lib.hid (HB3.out.no k4)
          have HK4 := Lib.hid (HK3.out.trans k4)
          clear k4 x1 HPR
          have HTHx := Lib.hid (show (w4.alloc (.cells (cC {}).toArray 32)).there w4.heap.size 0 C.toArray.size from (Bk.new w4 _ _).thereC rfl HTC.out)
          have HB5 := Lib.hid (show Bk ((w4.alloc (.cells (cC {}).toArray 32)).setCells w4.heap.size 0 C) w4.heap.size 32 C from (Bk.new w4 _ (cC {})).put HTC.out.len)
          have k5 := Lib.hid (show Kp No w4 ((w4.alloc (.cells (cC {}).toArray 32)).setCells w4.heap.size 0 C) from ((Kp.refl No w4).alloc _).sets C 0 (.inr (Nat.le_refl _)))
          have e0 : (cC {}).toArray = #[.int .i64 0, .int .i64 0, .int .i64 0, .string ⟨#[]⟩, .int .i64 0, .int .i64 0, .int .i64 0, .bool false, .int .i64 0, .int .i64 0] := rfl
          rw [e0] at HTHx HB5 k5
          clear e0
          go_upto_region 21 with (with_reducible refine wpList_store_mid rfl _ _ _ rfl w4.heap.size 0 C.toArray rfl rfl HTHx.out HMC.out HOC.out ?_)
          clear HTHx
          generalize World.setCells _ w4.heap.size 0 C = w5 at *
          have HA5 := Lib.hid (HB4.out.no k5.out).all_
          have HD5 := Lib.hid HB5.out.all_
          have HK5 := Lib.hid (HK4.out.trans k5.out)
          clear k5
          have heq := HEQ.out
          cases ok
          all_goals
            go_wp2_with (first
              | (with_reducible refine wpList_load_mid rfl _ _ rfl w2.heap.size 0 rfl C _ HA5.out Tryz.underlying32 rfl HLC.out ?_)
              | (with_reducible refine wpList_load_mid rfl _ _ rfl w4.heap.size 0 rfl C _ HD5.out Tryz.underlying32 rfl HLC.out ?_))
            go_meet
            exact ⟨rfl, c, .slice Av c.opn.length cv, HO1.out.no HK5.out, HC.out, HBT.out, (by rw [← HEE.out]; exact HM1.out.no HK5.out), HV1.out.no HK5.out, HKW.out.trans HK5.out⟩
      have d1 : (kind == 1) = false := by rw [beq_eq_false_iff_ne]; exact h1
      clear h1
      by_cases h2 : kind = 2
      · as_aux_lemma =>
          have d2 : (kind == 2) = true := by rw [beq_iff_eq]; exact h2
          clear h2
          have pr := ragain_any c.boot c.next (.slice Av c.opn.length cv) c.opn n w1 HV1.out (Nat.le_trans HC.out.len (by decide))
          have pg := fun w (o : OwnCs w b mb c) => again_any b mb c n w o HC.out HWN.out
          obtain ⟨C, hC⟩ : ∃ C, C = cC (againV c.opn n) := ⟨_, rfl⟩
          have HTC := Lib.hid (show Ten C by rw [hC]; exact Ten.of _)
          have HMC := Lib.hid HTC.out.info; have HOC := Lib.hid HTC.out.one; have HLC := Lib.hid HTC.out.infoL
          have hvc : vC (againV c.opn n) = .agg C.toArray := by rw [hC]; rfl
          have heq := fun w => call_eq (againV c.opn n) (againV c.opn n) w
          rw [← hC, decide_eq_true rfl] at heq
          unfold RefR at pr
          rw [hvc] at pg pr
          rw [← HEE.out] at pr
          clear hC hvc
          generalize (getC c.opn n).isSome = ok at pg pr
          have HPG := Lib.hid pg; have HEQ := Lib.hid heq
          clear pg heq
          have HR1 := Lib.hid HM1.out.all_
          go_wp2_with (with_reducible refine wpList_load_mid rfl _ _ rfl mB 0 rfl E _ HR1.out Tryz.underlying39 rfl HLE.out ?_)
          refine pr.mono ?_
          rintro e w2 ⟨sv2, rfl, a2, k2⟩
          obtain ⟨A2, c2, rfl, _⟩ := a2.len
          obtain ⟨E2, hE2⟩ : ∃ E2, E2 = rC c.boot c.next (.slice A2 (agL c.opn n).length c2) := ⟨_, rfl⟩
          have HTE2 := Lib.hid (show Thr E2 by rw [hE2]; exact Thr.of _ _ _ _ _)
          have HME2 := Lib.hid HTE2.out.info; have HOE2 := Lib.hid HTE2.out.one; have HLE2 := Lib.hid HTE2.out.infoL
          have HEE2 := Lib.hid hE2
          rw [← hE2]
          clear hE2 pr
          have HA2 := Lib.hid a2; have HK2 := Lib.hid k2
          clear a2 k2
          have ea : (w2.alloc (.cells #[.int .i64 0, .int .i64 0, .slice none 0 0] 39)).heap.size = w2.heap.size + 1 := by simp
          have ba : Bk ((w2.alloc (.cells #[.int .i64 0, .int .i64 0, .slice none 0 0] 39)).alloc (.cells #[.int .i64 0, .int .i64 0, .int .i64 0, .string ⟨#[]⟩, .int .i64 0, .int .i64 0, .int .i64 0, .bool false, .int .i64 0, .int .i64 0] 32)) w2.heap.size 39 [.int .i64 0, .int .i64 0, .slice none 0 0] := (Bk.new' rfl rfl).alloc _
          have bb : Bk ((w2.alloc (.cells #[.int .i64 0, .int .i64 0, .slice none 0 0] 39)).alloc (.cells #[.int .i64 0, .int .i64 0, .int .i64 0, .string ⟨#[]⟩, .int .i64 0, .int .i64 0, .int .i64 0, .bool false, .int .i64 0, .int .i64 0] 32)) (w2.heap.size + 1) 32 (cC {}) := Bk.new' ea.symm rfl
          have HTa := Lib.hid (ba.there3 rfl HTE2.out)
          have bc := bb.setsFar (g' := w2.heap.size) (by omega) E2 0
          have HTb := Lib.hid (bc.thereC rfl HTC.out)
          have HE3 := Lib.hid ((ba.put (C := E2) (by rw [HTE2.out.len]; rfl)).setsFar (g' := w2.heap.size + 1) (by omega) C 0)
          have HB3 := Lib.hid (bc.put (C := C) (by rw [HTC.out.len]; rfl))
          have k3 := Lib.hid (show Kp No w2 ((((w2.alloc (.cells #[.int .i64 0, .int .i64 0, .slice none 0 0] 39)).alloc (.cells #[.int .i64 0, .int .i64 0, .int .i64 0, .string ⟨#[]⟩, .int .i64 0, .int .i64 0, .int .i64 0, .bool false, .int .i64 0, .int .i64 0] 32)).setCells w2.heap.size 0 E2).setCells (w2.heap.size + 1) 0 C) from ((((Kp.refl No w2).alloc _).alloc _).sets E2 0 (.inr (Nat.le_refl _))).sets C 0 (.inr (by omega)))
          clear ea ba bb bc
          go_upto_region 24 with (first
            | (with_reducible refine wpList_store_mid rfl _ _ _ rfl w2.heap.size 0 E2.toArray rfl rfl HTa.out HME2.out HOE2.out ?_)
            | (with_reducible refine wpList_store_mid rfl _ _ _ rfl (w2.heap.size + 1) 0 C.toArray rfl rfl HTb.out HMC.out HOC.out ?_))
          clear HTa HTb
          generalize World.setCells _ (w2.heap.size + 1) 0 C = w3 at *
          have HK3 := Lib.hid (HK2.out.trans k3.out)
          have HA3 := Lib.hid (HA2.out.no k3.out)
          clear k3
          have HR3 := Lib.hid HE3.out.all_
          have HTs := Lib.hid ((HM1.out.no HK3.out).there3 (by rw [HTE.out.len]) HTE2.out)
          go_upto_region 25 with (first
            | (with_reducible refine wpList_load_mid rfl _ _ rfl w2.heap.size 0 rfl E2 _ HR3.out Tryz.underlying39 rfl HLE2.out ?_)
            | (with_reducible refine wpList_store_mid rfl _ _ _ rfl mB 0 E2.toArray rfl rfl HTs.out HME2.out HOE2.out ?_))
          have k4 : Kp (One mB) w3 (w3.setCells mB 0 E2) := (Kp.refl (One mB) w3).sets E2 0 (.inl rfl)
          have HM4 := Lib.hid ((HM1.out.no HK3.out).put (C := E2) (by rw [HTE2.out.len, HTE.out.len]))
          have HB4 := Lib.hid (HB3.out.kp k4 (fun e : _ = _ => by have := HM1.out.lt; have := HK2.out.size; omega))
          have HO4 := Lib.hid ((HO1.out.no HK3.out).kp k4 HNB.out.1 HNB.out.2)
          have HX4 := Lib.hid ((HX1.out.no HK3.out).kp k4 HNX.out)
          have HA4 := Lib.hid (HA3.out.far (HM1.out.no HK3.out) (by rw [HTE.out.len]; decide) k4)
          have HKW4 := Lib.hid ((HKW.out.trans HK3.out).then_ (M := No) k4 fun i hi e => by have e : i = mB := e; have := HmB.out; omega)
          clear k4 HTs
          generalize World.setCells w3 mB 0 E2 = w4 at *
          have x1 : w4.cell? ⟨xB, 1, none⟩ = some (.int .i64 n) := (HX4.out.cell 1).trans HN1.out
          go_wp2_with fail
          refine (HPG.out w4 HO4.out).mono ?_
          rintro e w5 ⟨rfl, o5, k5⟩
          have HB5 := Lib.hid (HB4.out.kp k5 (HO4.out.off1 HB4.out (by decide)))
          have HM5 := Lib.hid (HM4.out.kp k5 (HO4.out.off1 HM4.out (by decide)))
          have HA5 := Lib.hid (HA4.out.one HO4.out k5)
          have HO5 := Lib.hid o5
          have HKW5 := Lib.hid (kp_one HKW4.out k5 hmW)
          clear HPG x1 o5 k5
          have HTHx := Lib.hid (show (w5.alloc (.cells (cC {}).toArray 32)).there w5.heap.size 0 C.toArray.size from (Bk.new w5 _ _).thereC rfl HTC.out)
          have HD6 := Lib.hid (show Bk ((w5.alloc (.cells (cC {}).toArray 32)).setCells w5.heap.size 0 C) w5.heap.size 32 C from (Bk.new w5 _ (cC {})).put HTC.out.len)
          have k6 := Lib.hid (show Kp No w5 ((w5.alloc (.cells (cC {}).toArray 32)).setCells w5.heap.size 0 C) from ((Kp.refl No w5).alloc _).sets C 0 (.inr (Nat.le_refl _)))
          have e0 : (cC {}).toArray = #[.int .i64 0, .int .i64 0, .int .i64 0, .string ⟨#[]⟩, .int .i64 0, .int .i64 0, .int .i64 0, .bool false, .int .i64 0, .int .i64 0] := rfl
          rw [e0] at HTHx HD6 k6
          clear e0
          go_upto_region 26 with (with_reducible refine wpList_store_mid rfl _ _ _ rfl w5.heap.size 0 C.toArray rfl rfl HTHx.out HMC.out HOC.out ?_)
          clear HTHx
          generalize World.setCells _ w5.heap.size 0 C = w6 at *
          have HBx := Lib.hid (HB5.out.no k6.out).all_
          have HDx := Lib.hid HD6.out.all_
          have HKW6 := Lib.hid (HKW5.out.trans k6.out)
          have HFIN := Lib.hid (show Beside W b mb mB boot w6 from by
            obtain ⟨ho, hb, hn⟩ := again_opn c n
            have hok := againC_ok HC.out n
            refine ⟨againC c n, .slice A2 (agL c.opn n).length c2, HO5.out.no k6.out, hok, hb.trans HBT.out, ?_, ?_, HKW6.out⟩
            · rw [hb, hn, ← HEE2.out]; exact HM5.out.no k6.out
            · rw [ho]; exact HA5.out.no k6.out)
          clear k6
          have heq := HEQ.out
          cases ok
          all_goals
            go_wp2_with (first
              | (with_reducible refine wpList_load_mid rfl _ _ rfl w5.heap.size 0 rfl C _ HDx.out Tryz.underlying32 rfl HLC.out ?_)
              | (with_reducible refine wpList_load_mid rfl _ _ rfl (w2.heap.size + 1) 0 rfl C _ HBx.out Tryz.underlying32 rfl HLC.out ?_))
            go_meet
            exact ⟨rfl, HFIN.out⟩
      have d2 : (kind == 2) = false := by rw [beq_eq_false_iff_ne]; exact h2
      clear h2
      by_cases h3 : kind = 3
      · as_aux_lemma =>
          have d3 : (kind == 3) = true := by rw [beq_iff_eq]; exact h3
          clear h3
          have pr := rclose_any c.boot c.next (.slice Av c.opn.length cv) c.opn n w1 HV1.out (Nat.le_trans HC.out.len (by decide))
          have pg := fun w (o : OwnCs w b mb c) => close_any b mb c n w o HWN.out
          obtain ⟨C, hC⟩ : ∃ C, C = cC (atC c.opn n) := ⟨_, rfl⟩
          have HTC := Lib.hid (show Ten C by rw [hC]; exact Ten.of _)
          have HMC := Lib.hid HTC.out.info; have HOC := Lib.hid HTC.out.one; have HLC := Lib.hid HTC.out.infoL
          have hvc : vC (atC c.opn n) = .agg C.toArray := by rw [hC]; rfl
          have heq := fun w => call_eq (atC c.opn n) (atC c.opn n) w
          rw [← hC, decide_eq_true rfl] at heq
          unfold RefR at pr
          rw [hvc] at pg pr
          rw [← HEE.out] at pr
          clear hC hvc
          generalize (getC c.opn n).isSome = ok at pg pr
          have HPG := Lib.hid pg; have HEQ := Lib.hid heq
          clear pg heq
          have HR1 := Lib.hid HM1.out.all_
          go_wp2_with (with_reducible refine wpList_load_mid rfl _ _ rfl mB 0 rfl E _ HR1.out Tryz.underlying39 rfl HLE.out ?_)
          refine pr.mono ?_
          rintro e w2 ⟨sv2, rfl, a2, k2⟩
          obtain ⟨A2, c2, rfl, _⟩ := a2.len
          obtain ⟨E2, hE2⟩ : ∃ E2, E2 = rC c.boot c.next (.slice A2 (outL c.opn n).length c2) := ⟨_, rfl⟩
          have HTE2 := Lib.hid (show Thr E2 by rw [hE2]; exact Thr.of _ _ _ _ _)
          have HME2 := Lib.hid HTE2.out.info; have HOE2 := Lib.hid HTE2.out.one; have HLE2 := Lib.hid HTE2.out.infoL
          have HEE2 := Lib.hid hE2
          rw [← hE2]
          clear hE2 pr
          have HA2 := Lib.hid a2; have HK2 := Lib.hid k2
          clear a2 k2
          have ea : (w2.alloc (.cells #[.int .i64 0, .int .i64 0, .slice none 0 0] 39)).heap.size = w2.heap.size + 1 := by simp
          have ba : Bk ((w2.alloc (.cells #[.int .i64 0, .int .i64 0, .slice none 0 0] 39)).alloc (.cells #[.int .i64 0, .int .i64 0, .int .i64 0, .string ⟨#[]⟩, .int .i64 0, .int .i64 0, .int .i64 0, .bool false, .int .i64 0, .int .i64 0] 32)) w2.heap.size 39 [.int .i64 0, .int .i64 0, .slice none 0 0] := (Bk.new' rfl rfl).alloc _
          have bb : Bk ((w2.alloc (.cells #[.int .i64 0, .int .i64 0, .slice none 0 0] 39)).alloc (.cells #[.int .i64 0, .int .i64 0, .int .i64 0, .string ⟨#[]⟩, .int .i64 0, .int .i64 0, .int .i64 0, .bool false, .int .i64 0, .int .i64 0] 32)) (w2.heap.size + 1) 32 (cC {}) := Bk.new' ea.symm rfl
          have HTa := Lib.hid (ba.there3 rfl HTE2.out)
          have bc := bb.setsFar (g' := w2.heap.size) (by omega) E2 0
          have HTb := Lib.hid (bc.thereC rfl HTC.out)
          have HE3 := Lib.hid ((ba.put (C := E2) (by rw [HTE2.out.len]; rfl)).setsFar (g' := w2.heap.size + 1) (by omega) C 0)
          have HB3 := Lib.hid (bc.put (C := C) (by rw [HTC.out.len]; rfl))
          have k3 := Lib.hid (show Kp No w2 ((((w2.alloc (.cells #[.int .i64 0, .int .i64 0, .slice none 0 0] 39)).alloc (.cells #[.int .i64 0, .int .i64 0, .int .i64 0, .string ⟨#[]⟩, .int .i64 0, .int .i64 0, .int .i64 0, .bool false, .int .i64 0, .int .i64 0] 32)).setCells w2.heap.size 0 E2).setCells (w2.heap.size + 1) 0 C) from ((((Kp.refl No w2).alloc _).alloc _).sets E2 0 (.inr (Nat.le_refl _))).sets C 0 (.inr (by omega)))
          clear ea ba bb bc
          go_upto_region 29 with (first
            | (with_reducible refine wpList_store_mid rfl _ _ _ rfl w2.heap.size 0 E2.toArray rfl rfl HTa.out HME2.out HOE2.out ?_)
            | (with_reducible refine wpList_store_mid rfl _ _ _ rfl (w2.heap.size + 1) 0 C.toArray rfl rfl HTb.out HMC.out HOC.out ?_))
          clear HTa HTb
          generalize World.setCells _ (w2.heap.size + 1) 0 C = w3 at *
          have HK3 := Lib.hid (HK2.out.trans k3.out)
          have HA3 := Lib.hid (HA2.out.no k3.out)
          clear k3
          have HR3 := Lib.hid HE3.out.all_
          have HTs := Lib.hid ((HM1.out.no HK3.out).there3 (by rw [HTE.out.len]) HTE2.out)
          go_upto_region 30 with (first
            | (with_reducible refine wpList_load_mid rfl _ _ rfl w2.heap.size 0 rfl E2 _ HR3.out Tryz.underlying39 rfl HLE2.out ?_)
            | (with_reducible refine wpList_store_mid rfl _ _ _ rfl mB 0 E2.toArray rfl rfl HTs.out HME2.out HOE2.out ?_))
          have k4 : Kp (One mB) w3 (w3.setCells mB 0 E2) := (Kp.refl (One mB) w3).sets E2 0 (.inl rfl)
          have HM4 := Lib.hid ((HM1.out.no HK3.out).put (C := E2) (by rw [HTE2.out.len, HTE.out.len]))
          have HB4 := Lib.hid (HB3.out.kp k4 (fun e : _ = _ => by have := HM1.out.lt; have := HK2.out.size; omega))
          have HO4 := Lib.hid ((HO1.out.no HK3.out).kp k4 HNB.out.1 HNB.out.2)
          have HX4 := Lib.hid ((HX1.out.no HK3.out).kp k4 HNX.out)
          have HA4 := Lib.hid (HA3.out.far (HM1.out.no HK3.out) (by rw [HTE.out.len]; decide) k4)
          have HKW4 := Lib.hid ((HKW.out.trans HK3.out).then_ (M := No) k4 fun i hi e => by have e : i = mB := e; have := HmB.out; omega)
          clear k4 HTs
          generalize World.setCells w3 mB 0 E2 = w4 at *
          have x1 : w4.cell? ⟨xB, 1, none⟩ = some (.int .i64 n) := (HX4.out.cell 1).trans HN1.out
          go_wp2_with fail
          refine (HPG.out w4 HO4.out).mono ?_
          rintro e w5 ⟨rfl, o5, k5⟩
          have HB5 := Lib.hid (HB4.out.kp k5 (HO4.out.off1 HB4.out (by decide)))
          have HM5 := Lib.hid (HM4.out.kp k5 (HO4.out.off1 HM4.out (by decide)))
          have HA5 := Lib.hid (HA4.out.one HO4.out k5)
          have HO5 := Lib.hid o5
          have HKW5 := Lib.hid (kp_one HKW4.out k5 hmW)
          clear HPG x1 o5 k5
          have HTHx := Lib.hid (show (w5.alloc (.cells (cC {}).toArray 32)).there w5.heap.size 0 C.toArray.size from (Bk.new w5 _ _).thereC rfl HTC.out)
          have HD6 := Lib.hid (show Bk ((w5.alloc (.cells (cC {}).toArray 32)).setCells w5.heap.size 0 C) w5.heap.size 32 C from (Bk.new w5 _ (cC {})).put HTC.out.len)
          have k6 := Lib.hid (show Kp No w5 ((w5.alloc (.cells (cC {}).toArray 32)).setCells w5.heap.size 0 C) from ((Kp.refl No w5).alloc _).sets C 0 (.inr (Nat.le_refl _)))
          have e0 : (cC {}).toArray = #[.int .i64 0, .int .i64 0, .int .i64 0, .string ⟨#[]⟩, .int .i64 0, .int .i64 0, .int .i64 0, .bool false, .int .i64 0, .int .i64 0] := rfl
          rw [e0] at HTHx HD6 k6
          clear e0
          go_upto_region 31 with (with_reducible refine wpList_store_mid rfl _ _ _ rfl w5.heap.size 0 C.toArray rfl rfl HTHx.out HMC.out HOC.out ?_)
          clear HTHx
          generalize World.setCells _ w5.heap.size 0 C = w6 at *
          have HBx := Lib.hid (HB5.out.no k6.out).all_
          have HDx := Lib.hid HD6.out.all_
          have HKW6 := Lib.hid (HKW5.out.trans k6.out)
          have HFIN := Lib.hid (show Beside W b mb mB boot w6 from by
            have ho : (closeC c n).opn = outL c.opn n := rfl
            have hb : (closeC c n).boot = c.boot := rfl
            have hn : (closeC c n).next = c.next := rfl
            have hok := HC.out.closed n
            refine ⟨closeC c n, .slice A2 (outL c.opn n).length c2, HO5.out.no k6.out, hok, hb.trans HBT.out, ?_, ?_, HKW6.out⟩
            · rw [hb, hn, ← HEE2.out]; exact HM5.out.no k6.out
            · rw [ho]; exact HA5.out.no k6.out)
          clear k6
          have heq := HEQ.out
          cases ok
          all_goals
            go_wp2_with (first
              | (with_reducible refine wpList_load_mid rfl _ _ rfl w5.heap.size 0 rfl C _ HDx.out Tryz.underlying32 rfl HLC.out ?_)
              | (with_reducible refine wpList_load_mid rfl _ _ rfl (w2.heap.size + 1) 0 rfl C _ HBx.out Tryz.underlying32 rfl HLC.out ?_))
            go_meet
            exact ⟨rfl, HFIN.out⟩
      have d3 : (kind == 3) = false := by rw [beq_eq_false_iff_ne]; exact h3
      clear h3
      by_cases h4 : kind = 4
      · as_aux_lemma =>
          have d4 : (kind == 4) = true := by rw [beq_iff_eq]; exact h4
          clear h4
          have pg := fun w (k : Kp No w1 w) => pask_any b mb c fr n w (HO1.out.no k) HC.out HWN.out
          have pr := fun w (k : Kp No w1 w) => rask_any c (.slice Av c.opn.length cv) fr n w (HV1.out.no k) (Nat.le_trans HC.out.len (by decide))
          have ps := fun w => ask_same c fr n w
          unfold AskR at pg pr
          obtain ⟨M, hM⟩ : ∃ M, M = mcells (askS c fr n) (.slice none 0 0) := ⟨_, rfl⟩
          have HTM := Lib.hid (show Sxt M by rw [hM]; exact Sxt.of _)
          have HMM := Lib.hid HTM.out.info; have HOM := Lib.hid HTM.out.one; have HLM := Lib.hid HTM.out.infoL
          rw [← hM] at pg pr ps
          rw [← HEE.out] at pr
          clear hM
          generalize askB c fr n = ok at pg pr
          have HPR := Lib.hid pr; have HPS := Lib.hid ps
          clear pr ps
          go_wp2_with fail
          refine (pg w1 (Kp.refl _ _)).mono ?_
          rintro e w2 ⟨rfl, k2⟩
          clear pg
          have HTHx := Lib.hid (show (w2.alloc (.cells m0.toArray 50)).there w2.heap.size 0 M.toArray.size from (Bk.new w2 _ _).thereM rfl HTM.out)
          have HB3 := Lib.hid (show Bk ((w2.alloc (.cells m0.toArray 50)).setCells w2.heap.size 0 M) w2.heap.size 50 M from (Bk.new w2 _ m0).put HTM.out.len)
          have k3 := Lib.hid (show Kp No w2 ((w2.alloc (.cells m0.toArray 50)).setCells w2.heap.size 0 M) from ((Kp.refl No w2).alloc _).sets M 0 (.inr (Nat.le_refl _)))
          have e0 : m0.toArray = #[.int .i64 0, .int .i64 0, .int .i64 0, .int .i64 0, .int .i64 0, .int .i64 0, .int .i64 0, .string ⟨#[]⟩, .int .i64 0, .int .i64 0, .int .i64 0, .bool false, .int .i64 0, .slice none 0 0, .int .i64 0, .int .i64 0] := rfl
          rw [e0] at HTHx HB3 k3
          clear e0
          go_upto_region 34 with (with_reducible refine wpList_store_mid rfl _ _ _ rfl w2.heap.size 0 M.toArray rfl rfl HTHx.out HMM.out HOM.out ?_)
          clear HTHx
          generalize World.setCells _ w2.heap.size 0 M = w3 at *
          have HK3 := Lib.hid (k2.trans k3.out)
          clear k2 k3
          have x1 : w3.cell? ⟨xB, 1, none⟩ = some (.int .i64 n) := ((HX1.out.no HK3.out).cell 1).trans HN1.out
          have x2 : w3.cell? ⟨xB, 2, none⟩ = some (.int .i64 fr) := ((HX1.out.no HK3.out).cell 2).trans HN2.out
          have HR3 := Lib.hid (HM1.out.no HK3.out).all_
          go_wp2_with (with_reducible refine wpList_load_mid rfl _ _ rfl mB 0 rfl E _ HR3.out Tryz.underlying39 rfl HLE.out ?_)
          refine (HPR.out w3 HK3.out).mono ?_
          rintro e w4 ⟨rfl, k4⟩
          have HB4 := Lib.hid (HB3.out.no k4)
          have HK4 := Lib.hid (HK3.out.trans k4)
          clear k4 x1 x2 HPR
          have HTHx := Lib.hid (show (w4.alloc (.cells m0.toArray 50)).there w4.heap.size 0 M.toArray.size from (Bk.new w4 _ _).thereM rfl HTM.out)
          have HB5 := Lib.hid (show Bk ((w4.alloc (.cells m0.toArray 50)).setCells w4.heap.size 0 M) w4.heap.size 50 M from (Bk.new w4 _ m0).put HTM.out.len)
          have k5 := Lib.hid (show Kp No w4 ((w4.alloc (.cells m0.toArray 50)).setCells w4.heap.size 0 M) from ((Kp.refl No w4).alloc _).sets M 0 (.inr (Nat.le_refl _)))
          have e0 : m0.toArray = #[.int .i64 0, .int .i64 0, .int .i64 0, .int .i64 0, .int .i64 0, .int .i64 0, .int .i64 0, .string ⟨#[]⟩, .int .i64 0, .int .i64 0, .int .i64 0, .bool false, .int .i64 0, .slice none 0 0, .int .i64 0, .int .i64 0] := rfl
          rw [e0] at HTHx HB5 k5
          clear e0
          go_upto_region 35 with (with_reducible refine wpList_store_mid rfl _ _ _ rfl w4.heap.size 0 M.toArray rfl rfl HTHx.out HMM.out HOM.out ?_)
          clear HTHx
          generalize World.setCells _ w4.heap.size 0 M = w5 at *
          have HA5 := Lib.hid (HB4.out.no k5.out).all_
          have HD5 := Lib.hid HB5.out.all_
          have HK5 := Lib.hid (HK4.out.trans k5.out)
          clear k5
          go_wp2_with (first
            | (with_reducible refine wpList_load_mid rfl _ _ rfl w2.heap.size 0 rfl M _ HA5.out Tryz.underlying50 rfl HLM.out ?_)
            | (with_reducible refine wpList_load_mid rfl _ _ rfl w4.heap.size 0 rfl M _ HD5.out Tryz.underlying50 rfl HLM.out ?_))
          refine (HPS.out w5).mono ?_
          rintro e w6 ⟨rfl, k6⟩
          have HK6 := Lib.hid (HK5.out.trans k6)
          clear k6
          have HFIN := Lib.hid (show Beside W b mb mB boot w6 from ⟨c, .slice Av c.opn.length cv, HO1.out.no HK6.out, HC.out, HBT.out, (by rw [← HEE.out]; exact HM1.out.no HK6.out), HV1.out.no HK6.out, HKW.out.trans HK6.out⟩)
          cases ok
          all_goals
            go_wp2
            go_meet
            exact ⟨rfl, HFIN.out⟩
      have d4 : (kind == 4) = false := by rw [beq_eq_false_iff_ne]; exact h4
      clear h4
      as_aux_lemma =>
        have pr := rstart_any c (.slice Av c.opn.length cv) n op.x w1 HV1.out HC.out HIN.out.x
        have pg := fun w (o : OwnCs w b mb c) => open_any b mb c n op.x w o HC.out HIN.out.x
        have hvx : vC op.x = .agg X.toArray := by rw [HXX.out]; rfl
        unfold StartR at pr
        unfold OpenR at pg
        rw [hvx] at pg pr
        rw [← HEE.out] at pr
        have HOK2 := Lib.hid (step_ok HC.out (decide (okX op.x)) n op.x)
        generalize startE (decide (okX op.x)) c n = er at pg pr HOK2
        generalize openN c er = nn at pg pr
        have HB2 := Lib.hid (step_boot c n op.x er)
        generalize stepO c n op.x er = c2 at pg pr HOK2 HB2
        have HPG := Lib.hid pg
        have HTX := Lib.hid (show Ten X by rw [HXX.out]; exact Ten.of _)
        have HLX := Lib.hid HTX.out.infoL
        have HRX := Lib.hid (show w1.rangeAt xB 3 X by rw [HXX.out]; exact oC_x (by rw [← HOO.out]; exact HX1.out))
        have HR1 := Lib.hid HM1.out.all_
        clear pg hvx
        go_wp2_with (first
          | (with_reducible refine wpList_load_mid rfl _ _ rfl mB 0 rfl E _ HR1.out Tryz.underlying39 rfl HLE.out ?_)
          | (with_reducible refine wpList_load_mid rfl _ _ rfl xB 3 rfl X _ HRX.out Tryz.underlying32 rfl HLX.out ?_))
        refine pr.mono ?_
        rintro e w2 ⟨sv2, rfl, a2, k2⟩
        obtain ⟨A2, cc2, rfl, _⟩ := a2.len
        obtain ⟨E2, hE2⟩ : ∃ E2, E2 = rC c.boot c2.next (.slice A2 c2.opn.length cc2) := ⟨_, rfl⟩
        have HTE2 := Lib.hid (show Thr E2 by rw [hE2]; exact Thr.of _ _ _ _ _)
        have HME2 := Lib.hid HTE2.out.info; have HOE2 := Lib.hid HTE2.out.one; have HLE2 := Lib.hid HTE2.out.infoL
        have HEE2 := Lib.hid hE2
        rw [← hE2]
        clear hE2 pr
        have HA2 := Lib.hid a2; have HK2 := Lib.hid k2
        clear a2 k2 HR1 HRX
        have HTa := Lib.hid ((Bk.new w2 39 [.int .i64 0, .int .i64 0, .slice none 0 0]).there3 rfl HTE2.out)
        have HE3 := Lib.hid ((Bk.new w2 39 [.int .i64 0, .int .i64 0, .slice none 0 0]).put (C := E2) (by rw [HTE2.out.len]; rfl))
        have k3 := Lib.hid (show Kp No w2 ((w2.alloc (.cells #[.int .i64 0, .int .i64 0, .slice none 0 0] 39)).setCells w2.heap.size 0 E2) from ((Kp.refl No w2).alloc _).sets E2 0 (.inr (Nat.le_refl _)))
        go_upto_region 15 with (with_reducible refine wpList_store_mid rfl _ _ _ rfl w2.heap.size 0 E2.toArray rfl rfl HTa.out HME2.out HOE2.out ?_)
        clear HTa
        generalize World.setCells _ w2.heap.size 0 E2 = w3 at *
        have HK3 := Lib.hid (HK2.out.trans k3.out)
        have HA3 := Lib.hid (HA2.out.no k3.out)
        clear k3
        have HR3 := Lib.hid HE3.out.all_
        have HTs := Lib.hid ((HM1.out.no HK3.out).there3 (by rw [HTE.out.len]) HTE2.out)
        go_upto_region 16 with (first
          | (with_reducible refine wpList_load_mid rfl _ _ rfl w2.heap.size 0 rfl E2 _ HR3.out Tryz.underlying39 rfl HLE2.out ?_)
          | (with_reducible refine wpList_store_mid rfl _ _ _ rfl mB 0 E2.toArray rfl rfl HTs.out HME2.out HOE2.out ?_))
        have k4 : Kp (One mB) w3 (w3.setCells mB 0 E2) := (Kp.refl (One mB) w3).sets E2 0 (.inl rfl)
        have HM4 := Lib.hid ((HM1.out.no HK3.out).put (C := E2) (by rw [HTE2.out.len, HTE.out.len]))
        have HO4 := Lib.hid ((HO1.out.no HK3.out).kp k4 HNB.out.1 HNB.out.2)
        have HX4 := Lib.hid ((HX1.out.no HK3.out).kp k4 HNX.out)
        have HA4 := Lib.hid (HA3.out.far (HM1.out.no HK3.out) (by rw [HTE.out.len]; decide) k4)
        have HKW4 := Lib.hid ((HKW.out.trans HK3.out).then_ (M := No) k4 fun i hi e => by have e : i = mB := e; have := HmB.out; omega)
        clear k4 HTs
        generalize World.setCells w3 mB 0 E2 = w4 at *
        have x1 : w4.cell? ⟨xB, 1, none⟩ = some (.int .i64 n) := (HX4.out.cell 1).trans HN1.out
        have HRX := Lib.hid (show w4.rangeAt xB 3 X by rw [HXX.out]; exact oC_x (by rw [← HOO.out]; exact HX4.out))
        go_wp2_with (with_reducible refine wpList_load_mid rfl _ _ rfl xB 3 rfl X _ HRX.out Tryz.underlying32 rfl HLX.out ?_)
        refine (HPG.out w4 HO4.out).mono ?_
        rintro e w5 ⟨rfl, o5, k5⟩
        have HM5 := Lib.hid (HM4.out.kp k5 (HO4.out.off HM4.out (by decide)))
        have HA5 := Lib.hid (HA4.out.two HO4.out k5)
        have HKW5 := Lib.hid (kp_two HKW4.out k5 hbW hmW)
        have HFIN := Lib.hid (show Beside W b mb mB boot w5 from ⟨c2, .slice A2 c2.opn.length cc2, o5, HOK2.out, HB2.out.trans HBT.out, (by rw [HB2.out, ← HEE2.out]; exact HM5.out), HA5.out, HKW5.out⟩)
        clear HPG x1 o5 k5
        go_wp2
        go_meet
        exact ⟨rfl, HFIN.out⟩
    case rest =>
      as_aux_lemma =>
        obtain ⟨rfl, c2, sv2, ho, hc, hbt, hm, ha, hk⟩ := hcut
        clear HO1 HC HBT HM1 HV1 HKW HNX HNB HEE HTE HME HOE HLE HX1 HN0 HN1 HN2 HWN HWF HXX HNN HIN HLO HTO HOO
        obtain ⟨A2, cv2, rfl, _⟩ := ha.len
        have HO2 := Lib.hid ho; have HC2 := Lib.hid hc; have HA2 := Lib.hid ha; have HKW := Lib.hid hk; have HBT := Lib.hid hbt
        obtain ⟨E2, hE2⟩ : ∃ E2, E2 = rC c2.boot c2.next (.slice A2 c2.opn.length cv2) := ⟨_, rfl⟩
        have HTE2 := Lib.hid (show Thr E2 by rw [hE2]; exact Thr.of _ _ _ _ _)
        have HME2 := Lib.hid HTE2.out.info; have HOE2 := Lib.hid HTE2.out.one; have HLE2 := Lib.hid HTE2.out.infoL
        have HEE2 := Lib.hid hE2
        rw [← hE2] at hm
        have HM2 := Lib.hid hm
        have HFIN0 := Lib.hid (fun w (k : Kp No wc w) => (show Beside W b mb mB boot w from ⟨c2, _, HO2.out.no k, HC2.out, HBT.out, (by rw [← HEE2.out]; exact HM2.out.no k), HA2.out.no k, HKW.out.trans k⟩))
        have p4 := fun w (k : Kp No wc w) => (low_any b mb c2 w (HO2.out.no k) HC2.out).mono fun e w' ⟨h1, h3⟩ => (⟨h1, k.trans h3⟩ : e = Ending.returned (.int .i64 c2.low) ∧ Kp No wc w')
        have p6 := fun w (k : Kp No wc w) => (rlow_any c2.boot c2.next (.slice A2 c2.opn.length cv2) c2.opn w (HA2.out.no k) (Nat.le_trans HC2.out.len (by decide))).mono fun e w' ⟨h1, h3⟩ => (⟨h1, k.trans h3⟩ : e = Ending.returned (.int .i64 c2.low) ∧ Kp No wc w')
        have p11 := fun w (k : Kp No wc w) => (boot_any b mb c2 w (HO2.out.no k)).mono fun e w' ⟨h1, h3⟩ => (⟨h1, k.trans h3⟩ : e = Ending.returned (.int .i64 c2.boot) ∧ Kp No wc w')
        rw [HBT.out] at p11
        have p17 := fun w (k : Kp No wc w) => (list_any b mb c2 w (HO2.out.no k) HC2.out).mono fun e w' ⟨v, h1, h2, h3⟩ => by
          obtain ⟨A8, c8, e8, _⟩ := own_len h2
          exact (⟨A8, c8, by rw [h1, e8], by rw [← e8]; exact own_argC h2 rfl, k.trans h3⟩ : ∃ A8 c8, e = Ending.returned (.slice A8 c2.opn.length c8) ∧ ArgC w' (.slice A8 c2.opn.length c8) c2.opn ∧ Kp No wc w')
        have p20 := fun w A8 c8 (k : Kp No wc w) (a : ArgC w (.slice A8 c2.opn.length c8) c2.opn) => (rsame_any14 (.slice A8 c2.opn.length c8) (.slice A2 c2.opn.length cv2) c2.opn c2.opn w a (HA2.out.no k) (Nat.le_trans HC2.out.len (by decide)) (Nat.le_trans HC2.out.len (by decide))).mono fun e w' ⟨h1, h3⟩ => (⟨by rw [h1, decide_eq_true rfl], k.trans h3⟩ : e = Ending.returned (.bool true) ∧ Kp No wc w')
        rw [← hE2] at p6
        have HE22 := Lib.hid (show E2[2]? = some (.slice A2 c2.opn.length cv2) by rw [hE2]; rfl)
        generalize c2.low = lo at p4 p6
        clear hE2 ho hc hbt hm ha hk HO2 HC2 HA2 HBT HKW HEE2
        generalize c2.opn.length = n2 at *
        generalize c2.opn = l2 at *
        clear x0 x1 x2
        go_upto_region 36 with (fail)
        have hF := (Kp.refl No wc).drew
        refine rg_begin (fun W2 => Kp No wc W2) 23 (by kernel_rfl) ?_
        refine rg_take (i := 0) (v := ?vp0) (by simp only [List.getElem?_toArray, List.getElem?_cons_zero]; rfl) (by kernel_rfl) (by exact fun _ _ _ h => h) (by rfl) ?rp0 hF ?sp0
        case rp0 => (intro W hW; clear hW; go_simp; try with_reducible rfl)
        try simp only [Act.put, List.setIfInBounds_toArray, List.set_cons_zero, List.set_cons_succ]
        refine rg_take (i := 1) (v := ?vp1) (by simp only [List.getElem?_toArray, List.getElem?_cons_succ, List.getElem?_cons_zero]; rfl) (by kernel_rfl) (by exact fun _ _ _ h => h) (by rfl) ?rp1 hF ?sp1
        case rp1 => (intro W hW; clear hW; go_simp; try with_reducible rfl)
        try simp only [Act.put, List.setIfInBounds_toArray, List.set_cons_zero, List.set_cons_succ]
        refine rg_take (i := 2) (v := ?vp2) (by simp only [List.getElem?_toArray, List.getElem?_cons_succ, List.getElem?_cons_zero]; rfl) (by kernel_rfl) (by exact fun _ _ _ h => h) (by rfl) ?rp2 hF ?sp2
        case rp2 => (intro W hW; clear hW; go_simp; try with_reducible rfl)
        try simp only [Act.put, List.setIfInBounds_toArray, List.set_cons_zero, List.set_cons_succ]
        refine rg_take (i := 3) (v := ?vp3) (by simp only [List.getElem?_toArray, List.getElem?_cons_succ, List.getElem?_cons_zero]; rfl) (by kernel_rfl) (by exact fun _ _ _ h => h) (by rfl) ?rp3 hF ?sp3
        case rp3 => (intro W hW; clear hW; go_simp; try with_reducible rfl)
        try simp only [Act.put, List.setIfInBounds_toArray, List.set_cons_zero, List.set_cons_succ]
        refine rg_take (i := 5) (v := ?vp5) (by simp only [List.getElem?_toArray, List.getElem?_cons_succ, List.getElem?_cons_zero]; rfl) (by kernel_rfl) (by exact fun _ _ _ h => h) (by rfl) ?rp5 hF ?sp5
        case rp5 => (intro W9 hW; refine exec_load_mid W9 39 (.tmp 7) ?_ mB 0 ?_ E2 _ ((HM2.out.no hW).all_) Tryz.underlying39 ?_ HLE2.out; exact rfl; exact rfl; exact rfl)
        try simp only [Act.put, List.setIfInBounds_toArray, List.set_cons_zero, List.set_cons_succ]
        refine rg_one (i := 4) (oi := ?op4) ?ap4 ?bp4 ?cp4 ?dp4
        case ap4 => (simp only [List.getElem?_toArray, List.getElem?_cons_succ, List.getElem?_cons_zero]; rfl)
        case bp4 => kernel_rfl
        case cp4 => rfl
        intro K hK
        (go_simp; refine (p4 _ (Kp.refl No wc).drew).mono ?_; rintro e w4 ⟨rfl, k4⟩)
        refine rg_use hK (k4) (fun hF => ?_)
        clear hK K
        try simp only [Act.put, List.setIfInBounds_toArray, List.set_cons_zero, List.set_cons_succ]
        refine rg_one (i := 6) (oi := ?op6) ?ap6 ?bp6 ?cp6 ?dp6
        case ap6 => (simp only [List.getElem?_toArray, List.getElem?_cons_succ, List.getElem?_cons_zero]; rfl)
        case bp6 => kernel_rfl
        case cp6 => rfl
        intro K hK
        (go_simp; refine (p6 w4 k4).mono ?_; rintro e w6 ⟨rfl, k6⟩)
        refine rg_use hK (k6) (fun hF => ?_)
        clear hK K
        try simp only [Act.put, List.setIfInBounds_toArray, List.set_cons_zero, List.set_cons_succ]
        refine rg_take (i := 7) (v := ?vp7) (by simp only [List.getElem?_toArray, List.getElem?_cons_succ, List.getElem?_cons_zero]; rfl) (by kernel_rfl) (by exact fun _ _ _ h => h) (by rfl) ?rp7 hF ?sp7
        case rp7 => (intro W hW; clear hW; go_simp; try with_reducible rfl)
        try simp only [Act.put, List.setIfInBounds_toArray, List.set_cons_zero, List.set_cons_succ]
        refine rg_take (i := 8) (v := ?vp8) (by simp only [List.getElem?_toArray, List.getElem?_cons_succ, List.getElem?_cons_zero]; rfl) (by kernel_rfl) (by exact fun _ _ _ h => h) (by rfl) ?rp8 hF ?sp8
        case rp8 => (intro W hW; clear hW; go_simp; try with_reducible rfl)
        try simp only [Act.put, List.setIfInBounds_toArray, List.set_cons_zero, List.set_cons_succ]
        refine rg_take (i := 9) (v := ?vp9) (by simp only [List.getElem?_toArray, List.getElem?_cons_succ, List.getElem?_cons_zero]; rfl) (by kernel_rfl) (by exact fun _ _ _ h => h) (by rfl) ?rp9 hF ?sp9
        case rp9 => (intro W hW; clear hW; go_simp; try with_reducible rfl)
        try simp only [Act.put, List.setIfInBounds_toArray, List.set_cons_zero, List.set_cons_succ]
        refine rg_take (i := 10) (v := ?vp10) (by simp only [List.getElem?_toArray, List.getElem?_cons_succ, List.getElem?_cons_zero]; rfl) (by kernel_rfl) (by exact fun _ _ _ h => h) (by rfl) ?rp10 hF ?sp10
        case rp10 => (intro W hW; clear hW; go_simp; try with_reducible rfl)
        try simp only [Act.put, List.setIfInBounds_toArray, List.set_cons_zero, List.set_cons_succ]
        refine rg_take (i := 12) (v := ?vp12) (by simp only [List.getElem?_toArray, List.getElem?_cons_succ, List.getElem?_cons_zero]; rfl) (by kernel_rfl) (by exact fun _ _ _ h => h) (by rfl) ?rp12 hF ?sp12
        case rp12 => (intro W hW; clear hW; go_simp; try with_reducible rfl)
        try simp only [Act.put, List.setIfInBounds_toArray, List.set_cons_zero, List.set_cons_succ]
        refine rg_one (i := 11) (oi := ?op11) ?ap11 ?bp11 ?cp11 ?dp11
        case ap11 => (simp only [List.getElem?_toArray, List.getElem?_cons_succ, List.getElem?_cons_zero]; rfl)
        case bp11 => kernel_rfl
        case cp11 => rfl
        intro K hK
        (go_simp; refine (p11 w6 k6).mono ?_; rintro e w7 ⟨rfl, k7⟩)
        refine rg_use hK (k7) (fun hF => ?_)
        clear hK K
        try simp only [Act.put, List.setIfInBounds_toArray, List.set_cons_zero, List.set_cons_succ]
        refine rg_take (i := 13) (v := ?vp13) (by simp only [List.getElem?_toArray, List.getElem?_cons_succ, List.getElem?_cons_zero]; rfl) (by kernel_rfl) (by exact fun _ _ _ h => h) (by rfl) ?rp13 hF ?sp13
        case rp13 => (intro W hW; clear hW; go_simp; try with_reducible rfl)
        try simp only [Act.put, List.setIfInBounds_toArray, List.set_cons_zero, List.set_cons_succ]
        refine rg_take (i := 14) (v := ?vp14) (by simp only [List.getElem?_toArray, List.getElem?_cons_succ, List.getElem?_cons_zero]; rfl) (by kernel_rfl) (by exact fun _ _ _ h => h) (by rfl) ?rp14 hF ?sp14
        case rp14 => (intro W hW; clear hW; go_simp; try with_reducible rfl)
        try simp only [Act.put, List.setIfInBounds_toArray, List.set_cons_zero, List.set_cons_succ]
        refine rg_take (i := 15) (v := ?vp15) (by simp only [List.getElem?_toArray, List.getElem?_cons_succ, List.getElem?_cons_zero]; rfl) (by kernel_rfl) (by exact fun _ _ _ h => h) (by rfl) ?rp15 hF ?sp15
        case rp15 => (intro W hW; clear hW; go_simp; try with_reducible rfl)
        try simp only [Act.put, List.setIfInBounds_toArray, List.set_cons_zero, List.set_cons_succ]
        refine rg_take (i := 16) (v := ?vp16) (by simp only [List.getElem?_toArray, List.getElem?_cons_succ, List.getElem?_cons_zero]; rfl) (by kernel_rfl) (by exact fun _ _ _ h => h) (by rfl) ?rp16 hF ?sp16
        case rp16 => (intro W hW; clear hW; go_simp; try with_reducible rfl)
        try simp only [Act.put, List.setIfInBounds_toArray, List.set_cons_zero, List.set_cons_succ]
        refine rg_take (i := 18) (v := ?vp18) (by simp only [List.getElem?_toArray, List.getElem?_cons_succ, List.getElem?_cons_zero]; rfl) (by kernel_rfl) (by exact fun _ _ _ h => h) (by rfl) ?rp18 hF ?sp18
        case rp18 => (intro W hW; clear hW; go_simp; try with_reducible rfl)
        try simp only [Act.put, List.setIfInBounds_toArray, List.set_cons_zero, List.set_cons_succ]
        refine rg_take (i := 19) (v := ?vp19) (by simp only [List.getElem?_toArray, List.getElem?_cons_succ, List.getElem?_cons_zero]; rfl) (by kernel_rfl) (by exact fun _ _ _ h => h) (by rfl) ?rp19 hF ?sp19
        case rp19 => (intro W9 hW; have z : W9.cell? ⟨mB, 2, none⟩ = some (.slice A2 n2 cv2) := ((HM2.out.no hW).cell 2).trans HE22.out; clear hW; go_simp; try with_reducible rfl)
        try simp only [Act.put, List.setIfInBounds_toArray, List.set_cons_zero, List.set_cons_succ]
        refine rg_one (i := 17) (oi := ?op17) ?ap17 ?bp17 ?cp17 ?dp17
        case ap17 => (simp only [List.getElem?_toArray, List.getElem?_cons_succ, List.getElem?_cons_zero]; rfl)
        case bp17 => kernel_rfl
        case cp17 => rfl
        intro K hK
        (go_simp; refine (p17 w7 k7).mono ?_; rintro e w8 ⟨A8, c8, rfl, o8, k8⟩)
        refine rg_use hK (k8) (fun hF => ?_)
        clear hK K
        try simp only [Act.put, List.setIfInBounds_toArray, List.set_cons_zero, List.set_cons_succ]
        refine rg_one (i := 20) (oi := ?op20) ?ap20 ?bp20 ?cp20 ?dp20
        case ap20 => (simp only [List.getElem?_toArray, List.getElem?_cons_succ, List.getElem?_cons_zero]; rfl)
        case bp20 => kernel_rfl
        case cp20 => rfl
        intro K hK
        (go_simp; refine (p20 w8 A8 c8 k8 o8).mono ?_; rintro e w9 ⟨rfl, k9⟩)
        refine rg_use hK (k9) (fun hF => ?_)
        clear hK K
        try simp only [Act.put, List.setIfInBounds_toArray, List.set_cons_zero, List.set_cons_succ]
        refine rg_take (i := 21) (v := ?vp21) (by simp only [List.getElem?_toArray, List.getElem?_cons_succ, List.getElem?_cons_zero]; rfl) (by kernel_rfl) (by exact fun _ _ _ h => h) (by rfl) ?rp21 hF ?sp21
        case rp21 => (intro W hW; clear hW; go_simp; try with_reducible rfl)
        try simp only [Act.put, List.setIfInBounds_toArray, List.set_cons_zero, List.set_cons_succ]
        refine rg_take (i := 22) (v := ?vp22) (by simp only [List.getElem?_toArray, List.getElem?_cons_succ, List.getElem?_cons_zero]; rfl) (by kernel_rfl) (by exact fun _ _ _ h => h) (by rfl) ?rp22 hF ?sp22
        case rp22 => (intro W hW; clear hW; go_simp; try with_reducible rfl)
        try simp only [Act.put, List.setIfInBounds_toArray, List.set_cons_zero, List.set_cons_succ]
        refine rg_done (by kernel_rfl) ?_
        have HFIN := Lib.hid (HFIN0.out w9 k9)
        clear p4 p6 p11 p17 p20 hF k4 k6 k7 k8 k9 o8
        go_wp2
        go_roundw
        case rel => exact ⟨j + 1, by omega, by go_num, HFIN.out⟩
        case measure => simp [intOf]; omega

/-! ### The row's step -/
set_option maxRecDepth 100000 in
theorem lifted (os : Os) (started : os.Started) (H : Type) (enc : TypeId × Value → H) :
    ReturnsInHanded {} Tryz.checked os 4 .any (Rows.callsPlaysSpec.pre6 enc Tryz.prog Tryz.f4 Rows.callsPlaysRow.domain false) (Rows.callsPlaysSpec.post enc Tryz.prog Tryz.f4 false true false false) := by
  refine returnsInHanded_of_change_sized (C := Tryz.checked) own started (by kernel_rfl) Tryz.func4
    (ChangeSpec.witness6 (enc := enc) (C := Tryz.checked) false ⟨#[], #[.int .i64 0, .slice none 0 0], []⟩ 8 (by kernel_rfl) (by kernel_rfl) (by kernel_rfl) (by kernel_rfl)) ?_
  intro W base args ds gs before hval0 hW hcnd hsz0 _
  have hval : ∀ (j : Nat) t v, Tryz.f4.params[j]? = some t → args[j]? = some v → Value.okWide Tryz.prog W .any base t v := hval0
  have hW' := hW
  obtain ⟨p, q, hA0, hV, rfl, hfz, hnd⟩ := hW
  have hA : DataW.TrodAll enc Tryz.prog W 0 (fun _ => true) true Tryz.f4.params.toList args.toList ds p := hA0
  rw [Tryz.params4] at hA hval
  obtain ⟨v0, vs0, d0, ds0, p0, q0, hargs, rfl, rfl, h0, r0⟩ := trodAll_cons hA
  obtain ⟨v1, vs1, d1, ds1, p1, q1, rfl, rfl, rfl, h1, r1⟩ := trodAll_cons r0
  obtain ⟨rfl, rfl, rfl⟩ := trodAll_nil r1
  obtain rfl : args = #[v0, v1] := by cases args; simp_all
  obtain ⟨rfl, rfl⟩ := trodVars_none hV
  have hsz : ∀ (j : Nat) (t : TypeId) (d : DataW H), ([3, 36] : List TypeId)[j]? = some t → [d0, d1][j]? = some d → ∀ n ∈ d.weights Tryz.prog t, n ≤ reachBytes := by
    intro j t d ht hd n hn
    have hsz1 : (DataW.weightsEach Tryz.prog ([3, 36] : List TypeId) [d0, d1]).all (· ≤ reachBytes) = true := hsz0
    have := List.all_eq_true.1 hsz1 n (DataW.weights_mem_each ht hd n hn)
    simpa using this
  have k0 := h0
  have lt0 : ∀ x ∈ p0, x.block < W.heap.size := by obtain ⟨m, hm⟩ := k0; exact DataW.trod_lt m _ _ _ hm
  obtain ⟨n0, rfl, rfl, rfl, x0⟩ := open_int Tryz.underlying3 (hval 0 3 v0 rfl rfl) h0
  have k1 := h1
  have lt1 : ∀ x ∈ p1, x.block < W.heap.size := by obtain ⟨m, hm⟩ := k1; exact DataW.trod_lt m _ _ _ hm
  obtain ⟨l1, hl1, hs1, hp1⟩ := open_opsA (hval 1 36 v1 rfl rfl) h1 (hsz 1 36 _ rfl rfl)
  refine (walk n0 v1 l1 W  hl1 hs1 hp1).mono fun e W' ⟨he, bel⟩ => ?_
  subst he
  exact ⟨_, rfl, _, _, _, [], _, [], hW', trodAll_mk1 (shut_bool Tryz.underlying4 _), (trodAll_cons_mk (Below.trod laidOut (by kernel_rfl) (of_decide_eq_true (by kernel_rfl)) k0 bel lt0) (trodAll_cons_mk (Below.trod laidOut (by kernel_rfl) (of_decide_eq_true (by kernel_rfl)) k1 bel lt1) trodAll_mk0)), rfl, bel.frame _, fun h => by cases h⟩

theorem over : Rows.callsPlaysRow.holds Tryz.pinned (OpenSpec.ofChange Rows.callsPlaysSpec) :=
  OpenClaim.holds_of_wide 4 Tryz.f4 rfl rfl rfl rfl rfl rfl rfl ⟨rfl, rfl, rfl, rfl, rfl⟩ rfl rfl rfl rfl rfl (by kernel_rfl) Tryz.func4 (by kernel_rfl)
    (of_decide_eq_true (by kernel_rfl)) (by unfold Func.isWrapper; first | (rw [if_pos (by decide +kernel)]; kernel_rfl) | (rw [if_neg (by decide +kernel)]; exact ⟨rfl, rfl⟩))
    (fun os started H enc _ => lifted os started H enc)

theorem proved : Rows.CallsPlaysSaid := over
#print axioms proved
end Go.Proofs.YtkiaclldjofdoaaGreat.callsPlays
