/- CallsOwn: lists that are answered share no memory, nil calls are none, and two sets of calls do not touch each other, for every list of calls and moment. No condition. -/
import Derived.Test.YtkiaclldjofdoaaGreatH10
import Derived.Test.YtkiaclldjofdoaaGreatH11
import Derived.Deep.CutBlock
import Derived.Deep.DeepCutAuto
import Derived.ProofKit
import Derived.OpenShut
import Derived.ShutString
import Derived.ChangeOld
import Derived.SizedLaws
import Derived.Below
namespace Go.Proofs.YtkiaclldjofdoaaGreat.callsOwn
open Go Go.Maps Go.PlainAid Go.ChangeShapes Go.WideShapes Go.ChangeAt Go.RowKit
open Go.ChangeMaps (open_string shut_string)

theorem own : ownKnob Tryz.prog.godebug = none := by kernel_rfl
theorem laidOut : laidOutB Tryz.prog = true := by kernel_rfl
set_option maxRecDepth 100000 in
set_option maxHeartbeats 8000000 in
theorem walk (v : Value) (l : List Cll) (now : Int) (W : World) (hv : ArgC W v l) (hl : l.length ≤ maxLen) (hp : ∀ p ∈ l, InX p) : Calls Tryz.prog 6 #[v, .int .i64 now] W fun e w' => e = .returned (.bool true) ∧ Below W.heap.size W w' := by
  obtain ⟨A, cp, rfl, _⟩ := hv.len
  have HVV := Lib.hid hv; have HP := Lib.hid hp
  have hl2 : l.length ≤ 9223372036854775807 := by unfold maxLen at hl; omega
  clear hv hp hl
  obtain ⟨C, hC⟩ : ∃ C, C = cC {} := ⟨_, rfl⟩
  have HTC := Lib.hid (show Ten C by rw [hC]; exact Ten.of _)
  have HMC := Lib.hid HTC.out.info; have HOC := Lib.hid HTC.out.one; have HLC := Lib.hid HTC.out.infoL
  obtain ⟨M, hM⟩ : ∃ M, M = m0 := ⟨_, rfl⟩
  have HTM := Lib.hid (show Sxt M by rw [hM]; exact Sxt.of _)
  have HMM := Lib.hid HTM.out.info; have HOM := Lib.hid HTM.out.one; have HLM := Lib.hid HTM.out.infoL
  have hvc : vC {} = .agg C.toArray := by rw [hC]; rfl
  have hne := fun w => call_ne {} {} w
  have hne2 := fun w => call_ne {} {} w
  rw [decide_eq_true rfl, ← hC] at hne
  have hne2 : ∀ w, (binOp .neq 32 (.agg C.toArray) (.agg #[.int .i64 0, .int .i64 0, .int .i64 0, .string ⟨#[]⟩, .int .i64 0, .int .i64 0, .int .i64 0, .bool false, .int .i64 0, .int .i64 0])).run Tryz.prog w = .ok (.bool (!true)) w := by rw [show (#[.int .i64 0, .int .i64 0, .int .i64 0, .string ⟨#[]⟩, .int .i64 0, .int .i64 0, .int .i64 0, .bool false, .int .i64 0, .int .i64 0] : Array Value) = C.toArray by rw [hC]; rfl]; exact hne
  have HNE1 := Lib.hid hne; have HNE2 := Lib.hid hne2
  have HM0 := Lib.hid (show M[0]? = some (.int .i64 0) by rw [hM]; rfl)
  have p1 := fun w => open_nil now acqC w
  have p2 := fun w => get_nil 1 w
  have p3 := fun w => again_nil 1 w
  have p4 := fun w => close_nil 1 w
  have p5 := fun w => ask_nil 2 1 w
  rw [hvc] at p2 p3 p4
  rw [← hM] at p5
  clear hC hM hvc hne hne2
  go_enter Tryz.func6, Tryz.ntmps6
  go_wp2_with fail
  refine (awake14_any W).mono ?_
  rintro e wa ⟨rfl, ka⟩
  go_wp2_with fail
  refine (acquire_any wa).mono ?_
  rintro e wb ⟨rfl, kb⟩
  have HKb := Lib.hid (ka.trans kb)
  clear ka kb
  go_wp2_with fail
  refine (p1 wb).mono ?_
  rintro e wd ⟨rfl, kd⟩
  go_wp2_with fail
  refine (p2 wd).mono ?_
  rintro e w1 ⟨rfl, k1⟩
  have HK1 := Lib.hid (HKb.out.trans (kd.trans k1))
  clear kd k1 p1 p2
  have HTHx := Lib.hid (show (w1.alloc (.cells (cC {}).toArray 32)).there w1.heap.size 0 C.toArray.size from (Bk.new w1 _ _).thereC rfl HTC.out)
  have HB2 := Lib.hid (show Bk ((w1.alloc (.cells (cC {}).toArray 32)).setCells w1.heap.size 0 C) w1.heap.size 32 C from (Bk.new w1 _ (cC {})).put HTC.out.len)
  have k2 := Lib.hid (show Kp No w1 ((w1.alloc (.cells (cC {}).toArray 32)).setCells w1.heap.size 0 C) from ((Kp.refl No w1).alloc _).sets C 0 (.inr (Nat.le_refl _)))
  have e0 : (cC {}).toArray = #[.int .i64 0, .int .i64 0, .int .i64 0, .string ⟨#[]⟩, .int .i64 0, .int .i64 0, .int .i64 0, .bool false, .int .i64 0, .int .i64 0] := rfl
  rw [e0] at HTHx HB2 k2
  clear e0
  go_upto_region 6 with (with_reducible refine wpList_store_mid rfl _ _ _ rfl w1.heap.size 0 C.toArray rfl rfl HTHx.out HMC.out HOC.out ?_)
  clear HTHx
  generalize World.setCells _ w1.heap.size 0 C = w2 at *
  go_wp2_with fail
  refine (p3 w2).mono ?_
  rintro e w3 ⟨rfl, k3⟩
  have HK3 := Lib.hid (HK1.out.trans (k2.out.trans k3)); have HB3 := Lib.hid (HB2.out.no k3)
  clear k2 k3 p3
  have HTHx := Lib.hid (show (w3.alloc (.cells (cC {}).toArray 32)).there w3.heap.size 0 C.toArray.size from (Bk.new w3 _ _).thereC rfl HTC.out)
  have HD4 := Lib.hid (show Bk ((w3.alloc (.cells (cC {}).toArray 32)).setCells w3.heap.size 0 C) w3.heap.size 32 C from (Bk.new w3 _ (cC {})).put HTC.out.len)
  have k4 := Lib.hid (show Kp No w3 ((w3.alloc (.cells (cC {}).toArray 32)).setCells w3.heap.size 0 C) from ((Kp.refl No w3).alloc _).sets C 0 (.inr (Nat.le_refl _)))
  have e0 : (cC {}).toArray = #[.int .i64 0, .int .i64 0, .int .i64 0, .string ⟨#[]⟩, .int .i64 0, .int .i64 0, .int .i64 0, .bool false, .int .i64 0, .int .i64 0] := rfl
  rw [e0] at HTHx HD4 k4
  clear e0
  go_upto_region 7 with (with_reducible refine wpList_store_mid rfl _ _ _ rfl w3.heap.size 0 C.toArray rfl rfl HTHx.out HMC.out HOC.out ?_)
  clear HTHx
  generalize World.setCells _ w3.heap.size 0 C = w4 at *
  go_wp2_with fail
  refine (p4 w4).mono ?_
  rintro e w5 ⟨rfl, k5⟩
  have HK5 := Lib.hid (HK3.out.trans (k4.out.trans k5)); have HB5 := Lib.hid (HB3.out.no (k4.out.trans k5)); have HD5 := Lib.hid (HD4.out.no k5)
  clear k4 k5 p4
  have HTHx := Lib.hid (show (w5.alloc (.cells (cC {}).toArray 32)).there w5.heap.size 0 C.toArray.size from (Bk.new w5 _ _).thereC rfl HTC.out)
  have HF6 := Lib.hid (show Bk ((w5.alloc (.cells (cC {}).toArray 32)).setCells w5.heap.size 0 C) w5.heap.size 32 C from (Bk.new w5 _ (cC {})).put HTC.out.len)
  have k6 := Lib.hid (show Kp No w5 ((w5.alloc (.cells (cC {}).toArray 32)).setCells w5.heap.size 0 C) from ((Kp.refl No w5).alloc _).sets C 0 (.inr (Nat.le_refl _)))
  have e0 : (cC {}).toArray = #[.int .i64 0, .int .i64 0, .int .i64 0, .string ⟨#[]⟩, .int .i64 0, .int .i64 0, .int .i64 0, .bool false, .int .i64 0, .int .i64 0] := rfl
  rw [e0] at HTHx HF6 k6
  clear e0
  go_upto_region 8 with (with_reducible refine wpList_store_mid rfl _ _ _ rfl w5.heap.size 0 C.toArray rfl rfl HTHx.out HMC.out HOC.out ?_)
  clear HTHx
  generalize World.setCells _ w5.heap.size 0 C = w6 at *
  go_wp2_with fail
  refine (p5 w6).mono ?_
  rintro e w7 ⟨rfl, k7⟩
  have HK7 := Lib.hid (HK5.out.trans (k6.out.trans k7)); have HB7 := Lib.hid (HB5.out.no (k6.out.trans k7)); have HD7 := Lib.hid (HD5.out.no (k6.out.trans k7)); have HF7 := Lib.hid (HF6.out.no k7)
  clear k6 k7 p5
  have HTHx := Lib.hid (show (w7.alloc (.cells m0.toArray 50)).there w7.heap.size 0 M.toArray.size from (Bk.new w7 _ _).thereM rfl HTM.out)
  have HG8 := Lib.hid (show Bk ((w7.alloc (.cells m0.toArray 50)).setCells w7.heap.size 0 M) w7.heap.size 50 M from (Bk.new w7 _ m0).put HTM.out.len)
  have k8 := Lib.hid (show Kp No w7 ((w7.alloc (.cells m0.toArray 50)).setCells w7.heap.size 0 M) from ((Kp.refl No w7).alloc _).sets M 0 (.inr (Nat.le_refl _)))
  have e0 : m0.toArray = #[.int .i64 0, .int .i64 0, .int .i64 0, .int .i64 0, .int .i64 0, .int .i64 0, .int .i64 0, .string ⟨#[]⟩, .int .i64 0, .int .i64 0, .int .i64 0, .bool false, .int .i64 0, .slice none 0 0, .int .i64 0, .int .i64 0] := rfl
  rw [e0] at HTHx HG8 k8
  clear e0
  go_upto_region 9 with (with_reducible refine wpList_store_mid rfl _ _ _ rfl w7.heap.size 0 M.toArray rfl rfl HTHx.out HMM.out HOM.out ?_)
  clear HTHx
  generalize World.setCells _ w7.heap.size 0 M = w8 at *
  have HK8 := Lib.hid (HK7.out.trans k8.out); have HB8 := Lib.hid (HB7.out.no k8.out).all_; have HD8 := Lib.hid (HD7.out.no k8.out).all_; have HF8 := Lib.hid (HF7.out.no k8.out).all_
  clear k8
  have x0 : w8.cell? ⟨w7.heap.size, 0, none⟩ = some (.int .i64 0) := (HG8.out.cell 0).trans HM0.out
  have hne := HNE1.out; have hne2 := HNE2.out
  go_wp2_with (first
    | (refine load_mid_g (by rfl) _ _ rfl w1.heap.size 0 rfl C _ HB8.out Tryz.underlying32 rfl HLC.out ?_)
    | (refine load_mid_g (by rfl) _ _ rfl w3.heap.size 0 rfl C _ HD8.out Tryz.underlying32 rfl HLC.out ?_)
    | (refine load_mid_g (by rfl) _ _ rfl w5.heap.size 0 rfl C _ HF8.out Tryz.underlying32 rfl HLC.out ?_))
  refine (low_nil14 w8).mono ?_
  rintro e w' ⟨rfl, rfl⟩
  go_wp2_with fail
  refine (boot_nil w8).mono ?_
  rintro e w' ⟨rfl, rfl⟩
  go_wp2_with fail
  refine (list_nil w8).mono ?_
  rintro e w' ⟨rfl, rfl⟩
  clear x0 hne hne2 HB8 HD8 HF8
  go_wp2_with fail
  refine (new_good 5 w8 (by decide) (by decide)).mono ?_
  rintro e w9 ⟨b1, m1, rfl, o9, hb1, hm1, k9⟩
  have HO9 := Lib.hid o9; have HK9 := Lib.hid (HK8.out.trans k9)
  have HW8 := Lib.hid HK8.out.size
  have hbW1 : W.heap.size ≤ b1 := Nat.le_trans HW8.out hb1
  have hmW1 : W.heap.size ≤ m1 := Nat.le_trans HW8.out hm1
  clear o9 k9 hb1 hm1
  go_wp2_with fail
  refine (new_good 5 w9 (by decide) (by decide)).mono ?_
  rintro e w10 ⟨b2, m2, rfl, o10, hb2, hm2, k10⟩
  have HO10 := Lib.hid (HO9.out.no k10); have HP10 := Lib.hid o10; have HK10 := Lib.hid (HK9.out.trans k10)
  have hbW2 : W.heap.size ≤ b2 := Nat.le_trans HK9.out.size hb2
  have hmW2 : W.heap.size ≤ m2 := Nat.le_trans HK9.out.size hm2
  have HNb := Lib.hid (show b1 ≠ b2 by have := HO9.out.1.lt; omega)
  have HNm := Lib.hid (show m1 ≠ m2 by have := HO9.out.2.lt; omega)
  clear o10 k10 hb2 hm2
  go_wp2
  go_loopw [124] (fun i wr => ∃ j : Nat, j ≤ l.length ∧ i = .int .i64 j ∧ ∃ c, OwnCs wr b1 m1 c ∧ OwnCs wr b2 m2 c ∧ CsOk c ∧ Kp No W wr) (fun i _ => l.length - (intOf i).toNat)
  case atStart => exact ⟨0, Nat.zero_le _, rfl, newC 5, HO10.out, HP10.out, CsOk.new ⟨by decide, by decide⟩, HK10.out⟩
  case round =>
    obtain ⟨j, hj, rfl, c, ho1, ho2, hc, hk⟩ := hrel
    have HO1 := Lib.hid ho1; have HO2 := Lib.hid ho2; have HC := Lib.hid hc; have HK := Lib.hid hk
    clear ho1 ho2 hc hk HO10 HP10 HK10 HO9 HK9 HK8 HK7 HK5 HK3 HK1 HKb HG8
    by_cases hlt : j < l.length
    case pos =>
      have hk0 : (0 : Int) ≤ (j : Int) := by omega
      have hk1 : (j : Int) < (l.length : Int) := by omega
      obtain ⟨g, o, hA, hgl, hr⟩ := (HVV.out.no HK.out).at_ hlt
      subst hA
      obtain ⟨x, hx⟩ : ∃ x, x = l[j] := ⟨_, rfl⟩
      have HIX := Lib.hid (HP.out x (by rw [hx]; exact List.getElem_mem hlt))
      rw [← hx] at hr
      obtain ⟨X, hX⟩ : ∃ X, X = cC x := ⟨_, rfl⟩
      have HTX := Lib.hid (show Ten X by rw [hX]; exact Ten.of _)
      have HMX := Lib.hid HTX.out.info; have HOX := Lib.hid HTX.out.one; have HLX := Lib.hid HTX.out.infoL
      have hvx : vC x = .agg X.toArray := by rw [hX]; rfl
      rw [← hX] at hr
      have HR := Lib.hid hr
      have pA := fun w (k : OwnCs w b1 m1 c) => open_any b1 m1 c now x w k HC.out HIX.out
      have pB := fun w (k : OwnCs w b2 m2 c) => open_any b2 m2 c now x w k HC.out HIX.out
      unfold OpenR at pA pB
      rw [hvx] at pA pB
      have HOK := Lib.hid (step_ok HC.out (decide (okX x)) now x)
      clear hlt hr hx hX hgl
      generalize startE (decide (okX x)) c now = er at pA pB HOK
      generalize openN c er = nn at pA pB
      generalize stepO c now x er = c2 at pA pB HOK
      have HTH := Lib.hid (show (wr.alloc (.cells #[.int .i64 0, .int .i64 0, .int .i64 0, .string ⟨#[]⟩, .int .i64 0, .int .i64 0, .int .i64 0, .bool false, .int .i64 0, .int .i64 0] 32)).there wr.heap.size 0 X.toArray.size from (Bk.new wr 32 (cC {})).thereC rfl HTX.out)
      have HX1 := Lib.hid (show Bk ((wr.alloc (.cells #[.int .i64 0, .int .i64 0, .int .i64 0, .string ⟨#[]⟩, .int .i64 0, .int .i64 0, .int .i64 0, .bool false, .int .i64 0, .int .i64 0] 32)).setCells wr.heap.size 0 X) wr.heap.size 32 X from (Bk.new wr 32 (cC {})).put HTX.out.len)
      have HK1 := Lib.hid (show Kp No wr ((wr.alloc (.cells #[.int .i64 0, .int .i64 0, .int .i64 0, .string ⟨#[]⟩, .int .i64 0, .int .i64 0, .int .i64 0, .bool false, .int .i64 0, .int .i64 0] 32)).setCells wr.heap.size 0 X) from ((Kp.refl No wr).alloc _).sets X 0 (.inr (Nat.le_refl _)))
      go_upto_region 16 with (first
        | (with_reducible refine wpList_load_mid rfl _ _ rfl g (o + j * 10) rfl X _ HR.out Tryz.underlying32 rfl HLX.out ?_)
        | (with_reducible refine wpList_store_mid rfl _ _ _ rfl wr.heap.size 0 X.toArray rfl rfl HTH.out HMX.out HOX.out ?_))
      generalize World.setCells _ wr.heap.size 0 X = w11 at *
      have HX2 := Lib.hid HX1.out.all_
      go_wp2_with (with_reducible refine wpList_load_mid rfl _ _ rfl wr.heap.size 0 rfl X _ HX2.out Tryz.underlying32 rfl HLX.out ?_)
      refine (pA w11 (HO1.out.no HK1.out)).mono ?_
      rintro e w12 ⟨rfl, o12, k12⟩
      have HX3 := Lib.hid (HX1.out.kp k12 ((HO1.out.no HK1.out).off HX1.out (by decide))).all_
      have hap := two_apart (HO1.out.no HK1.out) (HO2.out.no HK1.out) HNb.out HNm.out
      have HO12 := Lib.hid o12; have HP12 := Lib.hid ((HO2.out.no HK1.out).kp k12 hap.1 hap.2)
      have HK12 := Lib.hid (kp_two (HK.out.trans HK1.out) k12 hbW1 hmW1)
      clear o12 k12 hap pA
      go_wp2_with (with_reducible refine wpList_load_mid rfl _ _ rfl wr.heap.size 0 rfl X _ HX3.out Tryz.underlying32 rfl HLX.out ?_)
      refine (pB w12 HP12.out).mono ?_
      rintro e w13 ⟨rfl, o13, k13⟩
      have hap := two_apart HP12.out HO12.out (Ne.symm HNb.out) (Ne.symm HNm.out)
      have HO13 := Lib.hid (HO12.out.kp k13 hap.1 hap.2); have HP13 := Lib.hid o13
      have HK13 := Lib.hid (kp_two HK12.out k13 hbW2 hmW2)
      clear o13 k13 hap pB
      go_wp2
      go_roundw
      case rel => exact ⟨j + 1, by omega, by go_num, c2, HO13.out, HP13.out, HOK.out, HK13.out⟩
      case measure => simp [intOf]; omega
    have hk1 : ¬ (j : Int) < (l.length : Int) := by omega
    clear hlt
    go_wp2_with fail
    refine (list_any b1 m1 c wr HO1.out HC.out).mono ?_
    rintro e w20 ⟨vp, rfl, op20, k20⟩
    have HP20 := Lib.hid op20; have HO20 := Lib.hid (HO1.out.no k20); have HT20 := Lib.hid (HO2.out.no k20); have HK20 := Lib.hid (HK.out.trans k20)
    have HWr := Lib.hid HK.out.size
    clear op20 k20 hk1
    go_wp2_with fail
    refine (list_any b1 m1 c w20 HO20.out HC.out).mono ?_
    rintro e w21 ⟨vq, rfl, oq21, k21⟩
    obtain ⟨Ap, cpp, hvp, _⟩ := own_len HP20.out
    obtain ⟨Aq, cpq, hvq, _⟩ := own_len oq21
    have HR21 := Lib.hid (show Rows2 w21 W.heap.size vp vq c.opn.length c.opn from ⟨⟨_, own_mono (own_kp HP20.out k21 fun _ _ m => m) HWr.out⟩, own_mono oq21 HK20.out.size, fun g e1 e2 => by
      have h1 := (HP20.out.lt g e1).2
      have h2 := (oq21.lt g e2).1
      omega⟩)
    have HP21 := Lib.hid (own_mono (own_kp HP20.out k21 fun _ _ m => m) HWr.out)
    have HO21 := Lib.hid (HO20.out.no k21); have HT21 := Lib.hid (HT20.out.no k21); have HK21 := Lib.hid (HK20.out.trans k21)
    subst hvp hvq
    have hn4 : c.opn.length ≤ 4 := HC.out.len
    clear oq21 k21 HP20 HO20 HT20 HK20 HWr HO1 HO2 HK
    obtain ⟨n, hn⟩ : ∃ n, n = c.opn.length := ⟨_, rfl⟩
    rw [← hn] at HR21 HP21 hn4 ⊢
    have HN := Lib.hid hn
    clear hn
    go_wp2
    go_loopw [157] (fun i wr => ∃ j : Nat, j ≤ n ∧ i = .int .i64 j ∧ OwnCs wr b1 m1 { c with opn := c.opn.drop j } ∧ OwnCs wr b2 m2 c ∧ Rows2 wr W.heap.size (.slice Ap n cpp) (.slice Aq n cpq) n c.opn ∧ wr.ownsRow W.heap.size 32 10 (.slice Ap n cpp) n (cL c.opn) ∧ Kp No W wr) (fun i _ => n - (intOf i).toNat)
    case atStart => exact ⟨0, Nat.zero_le _, rfl, HO21.out, HT21.out, HR21.out, HP21.out, HK21.out⟩
    case round =>
      obtain ⟨j, hj, rfl, ho1, ho2, hr2, hp2, hk⟩ := hrel
      have HO1 := Lib.hid ho1; have HO2 := Lib.hid ho2; have HR2 := Lib.hid hr2; have HP2 := Lib.hid hp2; have HK := Lib.hid hk
      clear ho1 ho2 hr2 hp2 hk HO21 HT21 HR21 HP21 HK21
      by_cases hlt : j < n
      case pos =>
        have hk0 : (0 : Int) ≤ (j : Int) := by omega
        have hk1 : (j : Int) < (n : Int) := by omega
        have hlt2 : j < c.opn.length := by have := HN.out; omega
        obtain ⟨g, o, hA, hgl, hr⟩ := (own_argC HP2.out HN.out).at_ hlt2
        subst hA
        obtain ⟨x, hx⟩ : ∃ x, x = c.opn[j] := ⟨_, rfl⟩
        rw [← hx] at hr
        have x0 := hr 0 _ rfl
        simp only [Nat.add_zero] at x0
        have HWF := Lib.hid (show (Lit.int .i64 x.seq).wf = true by
          have := HC.out.num x (by rw [hx]; exact List.getElem_mem hlt2)
          have := HC.out.next
          exact wf64 ⟨by omega, by omega⟩)
        have HDR := Lib.hid (show c.opn.drop j = x :: c.opn.drop (j + 1) by rw [hx]; exact List.drop_eq_getElem_cons hlt2)
        have HRI := Lib.hid (show Ris (x :: c.opn.drop (j + 1)) by rw [← HDR.out]; exact HC.out.ris.sublist (List.drop_sublist _ _))
        clear hlt hr hx hlt2 hgl
        have pc := close_any b1 m1 { c with opn := x :: c.opn.drop (j + 1) } x.seq wr (by rw [← HDR.out]; exact HO1.out) HWF.out
        rw [close_head c x _ HRI.out] at pc
        go_wp2_with fail
        refine pc.mono ?_
        rintro e w22 ⟨rfl, o22, k22⟩
        have HO22 := Lib.hid o22
        have hap := two_apart HO1.out HO2.out HNb.out HNm.out
        have k22' : Kp (Two b1 m1) wr w22 := k22.mono fun _ _ e => .inr e
        have HT22 := Lib.hid (HO2.out.kp k22' hap.1 hap.2)
        have HR22 := Lib.hid (HR2.out.one HO1.out k22)
        have HP22 := Lib.hid (own_kp HP2.out k22 fun q e => by obtain ⟨cs, hb⟩ := own_bkC HP2.out q e; exact HO1.out.off1 hb (by decide))
        have HK22 := Lib.hid (kp_one HK.out k22 hmW1)
        clear o22 k22 k22' hap pc x0
        go_wp2
        go_roundw
        case rel => exact ⟨j + 1, by omega, by go_num, HO22.out, HT22.out, HR22.out, HP22.out, HK22.out⟩
        case measure => simp [intOf]; omega
      have hk1 : ¬ (j : Int) < (n : Int) := by omega
      have HO3 := Lib.hid (show OwnCs wr b1 m1 { c with opn := [] } by
        have := HO1.out
        rw [List.drop_of_length_le (by have := HN.out; omega)] at this
        exact this)
      clear hlt HO1 HP2
      go_wp2
      go_loopw [170] (fun i wr => ∃ j : Nat, j ≤ n ∧ i = .int .i64 j ∧ OwnCs wr b1 m1 { c with opn := [] } ∧ OwnCs wr b2 m2 c ∧ Rows2 wr W.heap.size (.slice Ap n cpp) (.slice Aq n cpq) n c.opn ∧ Kp No W wr) (fun i _ => n - (intOf i).toNat)
      case atStart => exact ⟨0, Nat.zero_le _, rfl, HO3.out, HO2.out, HR2.out, HK.out⟩
      case round =>
        obtain ⟨j, hj, rfl, ho1, ho2, hr2, hk⟩ := hrel
        clear HO3 HO2 HR2 HK
        have HO1 := Lib.hid ho1; have HO2 := Lib.hid ho2; have HR2 := Lib.hid hr2; have HK := Lib.hid hk
        clear ho1 ho2 hr2 hk
        by_cases hlt : j < n
        case pos =>
          have hk0 : (0 : Int) ≤ (j : Int) := by omega
          have hk1 : (j : Int) < (n : Int) := by omega
          obtain ⟨xs, hxs⟩ := HR2.out.rp
          obtain ⟨g, cap, hs, _, hgB, _⟩ := own_form hxs (by omega)
          injection hs with hs1 hs2 hs3
          subst hs1 hs3
          clear hs2
          obtain ⟨D, hD⟩ : ∃ D, D = cC neg9 := ⟨_, rfl⟩
          have HTD := Lib.hid (show Ten D by rw [hD]; exact Ten.of _)
          have HMD := Lib.hid HTD.out.info; have HOD := Lib.hid HTD.out.one; have HLD := Lib.hid HTD.out.infoL
          have HAZ := Lib.hid (show (.agg #[.int .i64 (-9), .int .i64 0, .int .i64 0, .string ⟨#[]⟩, .int .i64 0, .int .i64 0, .int .i64 0, .bool false, .int .i64 0, .int .i64 0] : Value) = .agg D.toArray by rw [hD]; rfl)
          have HTH := Lib.hid (own_there hxs hlt HTD.out)
          have k23 : Kp (One g) wr (wr.setCells g (j * 10) D) := (Kp.refl (One g) wr).sets D (j * 10) (.inl rfl)
          have hbk : ∀ q, One g q → ∃ cs, Bk wr q 32 cs := fun q e => by have e : q = g := e; subst e; exact own_bkC hxs q rfl
          have HO23 := Lib.hid (HO1.out.row k23 hbk); have HT23 := Lib.hid (HO2.out.row k23 hbk)
          have HR23 := Lib.hid (show Rows2 (wr.setCells g (j * 10) D) W.heap.size (.slice (some ⟨g, 0, none⟩) n cpp) (.slice Aq n cpq) n c.opn from ⟨own_sets D (j * 10) hxs, own_kp HR2.out.rq k23 fun q e m => HR2.out.ne g rfl (by have m : q = g := m; rw [← m]; exact e), HR2.out.ne⟩)
          have HK23 := Lib.hid (show Kp No W (wr.setCells g (j * 10) D) from HK.out.then_ k23 fun q hq m => by have m : q = g := m; omega)
          clear hxs hlt k23 hbk hD
          go_wp2_with (refine wpList_store_mid rfl _ _ _ rfl g (j * 10) D.toArray rfl HAZ.out HTH.out HMD.out HOD.out ?_)
          go_roundw
          case rel => exact ⟨j + 1, by omega, by go_num, HO23.out, HT23.out, HR23.out, HK23.out⟩
          case measure => simp [intOf]; omega
        have hk1 : ¬ (j : Int) < (n : Int) := by omega
        clear hlt
        go_wp2
        go_loopw [30, 26] (fun i p wr => ∃ (k nn : Nat), k ≤ 9 ∧ nn ≤ 4 + k ∧ i = .int .i64 k ∧ OwnCs wr b1 m1 { c with opn := [] } ∧ OwnCs wr b2 m2 c ∧ Rows2 wr W.heap.size p (.slice Aq n cpq) nn c.opn ∧ Kp No W wr) (fun i _ _ => 9 - (intOf i).toNat)
        case atStart => exact ⟨0, n, Nat.zero_le _, by omega, rfl, HO1.out, HO2.out, HR2.out, HK.out⟩
        case round =>
          obtain ⟨k, nn, hk9, hnn, rfl, ho1, ho2, hr2, hk⟩ := hrel
          clear HO1 HO2 HR2 HK
          have HO1 := Lib.hid ho1; have HO2 := Lib.hid ho2; have HR2 := Lib.hid hr2; have HK := Lib.hid hk
          clear ho1 ho2 hr2 hk
          by_cases hlt : k < 9
          case pos =>
            have hk1 : (k : Int) < 9 := by omega
            obtain ⟨xs, hxs⟩ := HR2.out.rp
            have HXS := Lib.hid hxs
            obtain ⟨Aw, cw, haw, _⟩ := own_len hxs
            subst haw
            have hsz : W.heap.size ≤ wr.heap.size := HK.out.size
            clear hlt hxs
            go_wp2_with (at_builtin; go_must (refine wpList_app1 _ rfl _ _ 37 rfl W.heap.size 32 _ 10 88 Tryz.underlying37 infoCl rfl (by omega) _ nn xs rfl (HXS.out.alloc _) _ _ (cC {}) rfl (Bk.new' rfl rfl) rfl (by simp [cC, Value.oneCell']) (by omega) (by omega) (by simp; omega) ?_); intro g9 c9 w9 hown9 hk9 hat9)
            have ka : Kp No wr (wr.alloc (.cells (cC {}).toArray 32)) := (Kp.refl No wr).alloc _
            have hbk : ∀ q, (Value.slice Aw nn cw).ownBlock = some q → ∃ cs, Bk (wr.alloc (.cells (cC {}).toArray 32)) q 32 cs := fun q e => own_bkC (HXS.out.alloc _) q e
            have HO24 := Lib.hid ((HO1.out.no ka).row hk9 hbk); have HT24 := Lib.hid ((HO2.out.no ka).row hk9 hbk)
            have HR24 := Lib.hid (show Rows2 w9 W.heap.size (.slice (some ⟨g9, 0, none⟩) (nn + 1) c9) (.slice Aq n cpq) (nn + 1) c.opn from ⟨⟨_, hown9⟩, own_kp (own_kp HR2.out.rq ka fun _ _ m => m) hk9 fun q e m => HR2.out.ne q m e, fun q e e2 => by
              have e : g9 = q := by simpa [Value.ownBlock] using e
              subst e
              rcases hat9 with h | h
              · exact HR2.out.ne g9 h e2
              · have := (HR2.out.rq.lt g9 e2).2
                simp at h
                omega⟩)
            have HK24 := Lib.hid ((HK.out.trans ka).then_ (M := No) hk9 fun q hq m => by have := (HXS.out.lt q m).1; omega)
            clear ka hbk hown9 hk9 hat9
            go_roundw
            case rel => exact ⟨k + 1, nn + 1, by omega, by omega, by go_num, HO24.out, HT24.out, HR24.out, HK24.out⟩
            case measure => simp [intOf]; omega
          have hk1 : ¬ (k : Int) < 9 := by omega
          clear hlt
          go_wp2_with fail
          refine (list_any b2 m2 c wr HO2.out HC.out).mono ?_
          rintro e w30 ⟨vt, rfl, ot30, k30⟩
          have HT30 := Lib.hid (own_argC ot30 rfl); have HQ30 := Lib.hid (own_argC (own_kp HR2.out.rq k30 fun _ _ m => m) rfl)
          have HO30 := Lib.hid (HO1.out.no k30); have HK30 := Lib.hid (HK.out.trans k30)
          have HC0 := Lib.hid (show CsOk { c with opn := [] } from ⟨HC.out.boot, HC.out.next, List.Pairwise.nil, by intro x hx; simp at hx, by show c.next ≤ c.next + 8; omega, by show 0 ≤ 4; omega⟩)
          obtain ⟨At, ct, hvt, _⟩ := own_len ot30
          subst hvt
          clear ot30 k30
          go_wp2_with fail
          refine (rsame_any14 (.slice Aq n cpq) (.slice At c.opn.length ct) c.opn c.opn w30 HQ30.out HT30.out (Nat.le_trans HC.out.len (by decide)) (Nat.le_trans HC.out.len (by decide))).mono ?_
          rintro e w31 ⟨rfl, k31⟩
          have hdt : decide (c.opn = c.opn) = true := decide_eq_true rfl
          rw [hdt]
          have HO31 := Lib.hid (HO30.out.no k31); have HK31 := Lib.hid (HK30.out.trans k31)
          clear k31 hdt
          go_wp2_with fail
          refine (list_any b1 m1 { c with opn := [] } w31 HO31.out HC0.out).mono ?_
          rintro e w32 ⟨vs, rfl, os32, k32⟩
          obtain ⟨As, cs, hvs, _⟩ := own_len os32
          subst hvs
          have HK32 := Lib.hid (HK31.out.trans k32)
          clear k32 os32
          go_wp2
          go_ret
          exact ⟨rfl, HK32.out.below (Nat.le_refl _) (fun _ _ m => m)⟩

/-! ### The row's step -/
set_option maxRecDepth 100000 in
theorem lifted (os : Os) (started : os.Started) (H : Type) (enc : TypeId × Value → H) :
    ReturnsInHanded {} Tryz.checked os 6 .any (Rows.callsOwnSpec.pre6 enc Tryz.prog Tryz.f6 Rows.callsOwnRow.domain false) (Rows.callsOwnSpec.post enc Tryz.prog Tryz.f6 false true false false) := by
  refine returnsInHanded_of_change_sized (C := Tryz.checked) own started (by kernel_rfl) Tryz.func6
    (ChangeSpec.witness6 (enc := enc) (C := Tryz.checked) false ⟨#[], #[.slice none 0 0, .int .i64 0], []⟩ 8 (by kernel_rfl) (by kernel_rfl) (by kernel_rfl) (by kernel_rfl)) ?_
  intro W base args ds gs before hval0 hW hcnd hsz0 _
  have hval : ∀ (j : Nat) t v, Tryz.f6.params[j]? = some t → args[j]? = some v → Value.okWide Tryz.prog W .any base t v := hval0
  have hW' := hW
  obtain ⟨p, q, hA0, hV, rfl, hfz, hnd⟩ := hW
  have hA : DataW.TrodAll enc Tryz.prog W 0 (fun _ => true) true Tryz.f6.params.toList args.toList ds p := hA0
  rw [Tryz.params6] at hA hval
  obtain ⟨v0, vs0, d0, ds0, p0, q0, hargs, rfl, rfl, h0, r0⟩ := trodAll_cons hA
  obtain ⟨v1, vs1, d1, ds1, p1, q1, rfl, rfl, rfl, h1, r1⟩ := trodAll_cons r0
  obtain ⟨rfl, rfl, rfl⟩ := trodAll_nil r1
  obtain rfl : args = #[v0, v1] := by cases args; simp_all
  obtain ⟨rfl, rfl⟩ := trodVars_none hV
  have hsz : ∀ (j : Nat) (t : TypeId) (d : DataW H), ([37, 3] : List TypeId)[j]? = some t → [d0, d1][j]? = some d → ∀ n ∈ d.weights Tryz.prog t, n ≤ reachBytes := by
    intro j t d ht hd n hn
    have hsz1 : (DataW.weightsEach Tryz.prog ([37, 3] : List TypeId) [d0, d1]).all (· ≤ reachBytes) = true := hsz0
    have := List.all_eq_true.1 hsz1 n (DataW.weights_mem_each ht hd n hn)
    simpa using this
  have k0 := h0
  have lt0 : ∀ x ∈ p0, x.block < W.heap.size := by obtain ⟨m, hm⟩ := k0; exact DataW.trod_lt m _ _ _ hm
  obtain ⟨l0, hl0, hs0, hp0⟩ := open_callsA (hval 0 37 v0 rfl rfl) h0 (hsz 0 37 _ rfl rfl)
  have k1 := h1
  have lt1 : ∀ x ∈ p1, x.block < W.heap.size := by obtain ⟨m, hm⟩ := k1; exact DataW.trod_lt m _ _ _ hm
  obtain ⟨n1, rfl, rfl, rfl, x1⟩ := open_int Tryz.underlying3 (hval 1 3 v1 rfl rfl) h1
  refine (walk v0 l0 n1 W hl0 hs0 hp0 ).mono fun e W' ⟨he, bel⟩ => ?_
  subst he
  exact ⟨_, rfl, _, _, _, [], _, [], hW', trodAll_mk1 (shut_bool Tryz.underlying4 _), (trodAll_cons_mk (Below.trod laidOut (by kernel_rfl) (of_decide_eq_true (by kernel_rfl)) k0 bel lt0) (trodAll_cons_mk (Below.trod laidOut (by kernel_rfl) (of_decide_eq_true (by kernel_rfl)) k1 bel lt1) trodAll_mk0)), rfl, bel.frame _, fun h => by cases h⟩

theorem over : Rows.callsOwnRow.holds Tryz.pinned (OpenSpec.ofChange Rows.callsOwnSpec) :=
  OpenClaim.holds_of_wide 6 Tryz.f6 rfl rfl rfl rfl rfl rfl rfl ⟨rfl, rfl, rfl, rfl, rfl⟩ rfl rfl rfl rfl rfl (by kernel_rfl) Tryz.func6 (by kernel_rfl)
    (of_decide_eq_true (by kernel_rfl)) (by unfold Func.isWrapper; first | (rw [if_pos (by decide +kernel)]; kernel_rfl) | (rw [if_neg (by decide +kernel)]; exact ⟨rfl, rfl⟩))
    (fun os started H enc _ => lifted os started H enc)

theorem proved : Rows.CallsOwnSaid := over
#print axioms proved
end Go.Proofs.YtkiaclldjofdoaaGreat.callsOwn
