/- Several texts of this claim in one. No condition beyond what each theorem states. -/
import Derived.Test.YtkiaclldjofdoaaGreatH07
import Derived.Test.YtkiaclldjofdoaaGreatH04
import Derived.Test.YtkiaclldjofdoaaGreatB37
/- The document's Ask by contract. No condition beyond what each theorem states. -/
namespace Go.Proofs.YtkiaclldjofdoaaGreat
open Go Go.RowKit Go.Maps Go.PlainAid

set_option maxHeartbeats 2000000 in
set_option maxRecDepth 100000 in
theorem rask_any (c : Cls) (sv : Value) (f s : Int) (W : World) (hv : ArgC W sv c.opn) (hl : c.opn.length ≤ maxLen) :
    Calls Tryz.prog 19 #[.agg (rC c.boot c.next sv).toArray, .int .i64 f, .int .i64 s] W (AskR c f s W) := by
  obtain ⟨A0, c0, rfl, _⟩ := hv.len
  obtain ⟨Q, hQ⟩ : ∃ Q : Ending → World → Prop, Q = AskR c f s W := ⟨_, rfl⟩
  rw [← hQ]
  obtain ⟨E, hE⟩ : ∃ E, E = rC c.boot c.next (.slice A0 c.opn.length c0) := ⟨_, rfl⟩
  have HE3 := Lib.hid (show Thr E by rw [hE]; exact Thr.of _ _ _ _ _)
  have HEL := Lib.hid HE3.out.infoL
  have HEE := Lib.hid (show E[0]? = some (.int .i64 c.boot) by rw [hE]; rfl)
  obtain ⟨M0, hM0⟩ : ∃ M0, M0 = m0 := ⟨_, rfl⟩
  have HS0 := Lib.hid (show Sxt M0 by rw [hM0]; exact Sxt.of _)
  have HAZ := Lib.hid (show (.agg #[.int .i64 0, .int .i64 0, .int .i64 0, .int .i64 0, .int .i64 0, .int .i64 0, .int .i64 0, .string ⟨#[]⟩, .int .i64 0, .int .i64 0, .int .i64 0, .bool false, .int .i64 0, .slice none 0 0, .int .i64 0, .int .i64 0] : Value) = .agg M0.toArray by rw [hM0]; rfl)
  have HE := Lib.hid (show ∀ w', askB c f s = false → askS c f s = {} → Kp No W w' → Q (.returned (.tuple #[.agg M0.toArray, .bool false])) w' from fun w' e1 e2 k => by
    rw [hQ, hM0]; exact ⟨by rw [e1, e2]; rfl, k⟩)
  have HQ := Lib.hid hQ
  clear hQ hM0
  have HS0I := Lib.hid HS0.out.info; have HS0O := Lib.hid HS0.out.one; have HS0L := Lib.hid HS0.out.infoL
  obtain ⟨w1, hw1⟩ : ∃ w1, w1 = (W.alloc (.cells E.toArray 39)).alloc (.cells #[.int .i64 0, .int .i64 0, .int .i64 0, .int .i64 0, .int .i64 0, .int .i64 0, .int .i64 0, .string ⟨#[]⟩, .int .i64 0, .int .i64 0, .int .i64 0, .bool false, .int .i64 0, .slice none 0 0, .int .i64 0, .int .i64 0] 50) := ⟨_, rfl⟩
  have HK1 := Lib.hid (show Kp No W w1 by rw [hw1]; exact ((Kp.refl No W).alloc _).alloc _)
  have HBX1 := Lib.hid (show Bk w1 W.heap.size 39 E by rw [hw1]; exact (Bk.new W _ E).alloc _)
  have HZ1 := Lib.hid (show Bk w1 (W.heap.size + 1) 50 m0 by rw [hw1]; exact Bk.new' (by simp) rfl)
  have HV := Lib.hid hv
  have pg := rget_any c.boot c.next (.slice A0 c.opn.length c0) c.opn s w1 (hv.no HK1.out) hl
  have pl0 := fun W2 (kk : Kp No W W2) => rlow_any c.boot c.next (.slice A0 c.opn.length c0) c.opn W2 (hv.no kk) hl
  rw [← hE] at pg pl0 ⊢
  clear hE
  have HW1 := Lib.hid hw1; clear hw1 hv hl
  cases hg : getC c.opn s with
  | none =>
    have e0 : atC c.opn s = {} := by unfold atC; rw [hg]; rfl
    rw [e0, hg] at pg
    have HE0 := Lib.hid (fun w' => HE.out w' (ask_none (f := f) hg).1 (ask_none (f := f) hg).2)
    clear e0 hg
    obtain ⟨C, hC⟩ : ∃ C, C = cC {} := ⟨_, rfl⟩
    unfold vC at pg
    rw [← hC] at pg
    have HT := Lib.hid (show Ten C by rw [hC]; exact Ten.of _)
    have HC1 := Lib.hid (show C[1]? = some (.int .i64 ({} : Cll).dest) by rw [hC]; rfl)
    clear hC
    have HM1 := Lib.hid (HT.out.info)
    have HO1 := Lib.hid (HT.out.one)
    have HIC := Lib.hid HT.out.infoL
    go_enter Tryz.func19, Tryz.ntmps19
    go_upto_region 1 with (fail)
    rw [← HW1.out]
    clear HW1
    have HX11 := Lib.hid HBX1.out.all_
    go_wp2_with (with_reducible refine wpList_load_mid rfl _ _ rfl W.heap.size 0 rfl E _ HX11.out Tryz.underlying39 rfl HEL.out ?_)
    refine pg.mono ?_
    rintro e w3 ⟨rfl, k3⟩
    clear pg
    have HZ3 := Lib.hid (HZ1.out.no k3)
    have HK3x := Lib.hid k3
    have HK3 := Lib.hid (HK1.out.trans k3)
    clear k3
    have HT6 := Lib.hid (show (w3.alloc (.cells (cC {}).toArray 32)).there w3.heap.size 0 C.toArray.size from (Bk.new w3 _ _).thereC rfl HT.out)
    have HB4 := Lib.hid (show Bk ((w3.alloc (.cells (cC {}).toArray 32)).setCells w3.heap.size 0 C) w3.heap.size 32 C from (Bk.new w3 _ (cC {})).put HT.out.len)
    have HK4 := Lib.hid (show Kp No w3 ((w3.alloc (.cells (cC {}).toArray 32)).setCells w3.heap.size 0 C) from ((Kp.refl No w3).alloc _).sets C 0 (.inr (Nat.le_refl _)))
    have e0 : (cC {}).toArray = #[.int .i64 0, .int .i64 0, .int .i64 0, .string ⟨#[]⟩, .int .i64 0, .int .i64 0, .int .i64 0, .bool false, .int .i64 0, .int .i64 0] := rfl
    rw [e0] at HT6 HB4 HK4
    clear e0
    go_upto_region 2 with (with_reducible refine wpList_store_mid rfl _ _ _ rfl w3.heap.size 0 C.toArray rfl rfl HT6.out HM1.out HO1.out ?_)
    generalize World.setCells _ w3.heap.size 0 C = w4 at *
    have HKW := Lib.hid (HK3.out.trans HK4.out)
    have HZ4 := Lib.hid (HZ3.out.no HK4.out)
    have x1 : w4.cell? ⟨w3.heap.size, 1, none⟩ = some (.int .i64 ({} : Cll).dest) := (HB4.out.cell 1).trans HC1.out
    have HX1 := Lib.hid (HZ4.out.thereM rfl HS0.out)
    have HX3 := Lib.hid (show Bk (w4.setCells (W.heap.size + 1) 0 M0) (W.heap.size + 1) 50 M0 from HZ4.out.put (by rw [HS0.out.len]; rfl))
    have HX4 := Lib.hid (show Kp No W (w4.setCells (W.heap.size + 1) 0 M0) from HKW.out.sets M0 0 (.inr (by omega)))
    go_wp2_with (refine wpList_store_mid rfl _ _ _ rfl (W.heap.size + 1) 0 M0.toArray rfl HAZ.out HX1.out HS0I.out HS0O.out ?_)
    exact bodyPost_ret (res_ct (s := 6) (u := 7) rfl _ _ rfl HX3.out.all_ Tryz.underlying50 rfl HS0L.out) rfl (HE0.out _ HX4.out)
  | some x =>
    have e0 : atC c.opn s = x := by unfold atC; rw [hg]; rfl
    rw [e0, hg] at pg
    clear e0
    obtain ⟨C, hC⟩ : ∃ C, C = cC x := ⟨_, rfl⟩
    have HVC := Lib.hid (show vC x = .agg C.toArray by rw [hC]; rfl)
    unfold vC at pg
    rw [← hC] at pg
    by_cases hf : 0 ≤ f ∧ f < 8 ∧ f ≠ x.dest
    case neg =>
      have HE0 := Lib.hid (fun w' => HE.out w' (ask_bad hg hf).1 (ask_bad hg hf).2)
      clear hg
      have hf3 : ¬ (0 ≤ f) ∨ 0 ≤ f ∧ ¬ (f < 8) ∨ 0 ≤ f ∧ f < 8 ∧ f = x.dest := by omega
      clear hf
      have HF3 := Lib.hid hf3
      clear hf3
      have HT := Lib.hid (show Ten C by rw [hC]; exact Ten.of _)
      have HC1 := Lib.hid (show C[1]? = some (.int .i64 x.dest) by rw [hC]; rfl)
      clear hC
      have HM1 := Lib.hid (HT.out.info)
      have HO1 := Lib.hid (HT.out.one)
      have HIC := Lib.hid HT.out.infoL
      go_enter Tryz.func19, Tryz.ntmps19
      go_upto_region 1 with (fail)
      rw [← HW1.out]
      clear HW1
      have HX11 := Lib.hid HBX1.out.all_
      go_wp2_with (with_reducible refine wpList_load_mid rfl _ _ rfl W.heap.size 0 rfl E _ HX11.out Tryz.underlying39 rfl HEL.out ?_)
      refine pg.mono ?_
      rintro e w3 ⟨rfl, k3⟩
      clear pg
      have HZ3 := Lib.hid (HZ1.out.no k3)
      have HK3x := Lib.hid k3
      have HK3 := Lib.hid (HK1.out.trans k3)
      clear k3
      have HT6 := Lib.hid (show (w3.alloc (.cells (cC {}).toArray 32)).there w3.heap.size 0 C.toArray.size from (Bk.new w3 _ _).thereC rfl HT.out)
      have HB4 := Lib.hid (show Bk ((w3.alloc (.cells (cC {}).toArray 32)).setCells w3.heap.size 0 C) w3.heap.size 32 C from (Bk.new w3 _ (cC {})).put HT.out.len)
      have HK4 := Lib.hid (show Kp No w3 ((w3.alloc (.cells (cC {}).toArray 32)).setCells w3.heap.size 0 C) from ((Kp.refl No w3).alloc _).sets C 0 (.inr (Nat.le_refl _)))
      have e0 : (cC {}).toArray = #[.int .i64 0, .int .i64 0, .int .i64 0, .string ⟨#[]⟩, .int .i64 0, .int .i64 0, .int .i64 0, .bool false, .int .i64 0, .int .i64 0] := rfl
      rw [e0] at HT6 HB4 HK4
      clear e0
      go_upto_region 2 with (with_reducible refine wpList_store_mid rfl _ _ _ rfl w3.heap.size 0 C.toArray rfl rfl HT6.out HM1.out HO1.out ?_)
      generalize World.setCells _ w3.heap.size 0 C = w4 at *
      have HKW := Lib.hid (HK3.out.trans HK4.out)
      have HZ4 := Lib.hid (HZ3.out.no HK4.out)
      have x1 : w4.cell? ⟨w3.heap.size, 1, none⟩ = some (.int .i64 x.dest) := (HB4.out.cell 1).trans HC1.out
      have HX1 := Lib.hid (HZ4.out.thereM rfl HS0.out)
      have HX3 := Lib.hid (show Bk (w4.setCells (W.heap.size + 1) 0 M0) (W.heap.size + 1) 50 M0 from HZ4.out.put (by rw [HS0.out.len]; rfl))
      have HX4 := Lib.hid (show Kp No W (w4.setCells (W.heap.size + 1) 0 M0) from HKW.out.sets M0 0 (.inr (by omega)))
      generalize x.dest = xt at *
      rcases HF3.out with h1 | ⟨h1, h2⟩ | ⟨h1, h2, h3⟩
      · have h1 : f < 0 := by omega
        go_wp2_with (refine wpList_store_mid rfl _ _ _ rfl (W.heap.size + 1) 0 M0.toArray rfl HAZ.out HX1.out HS0I.out HS0O.out ?_)
        exact bodyPost_ret (res_ct (s := 6) (u := 7) rfl _ _ rfl HX3.out.all_ Tryz.underlying50 rfl HS0L.out) rfl (HE0.out _ HX4.out)
      · have h1 : ¬ f < 0 := by omega
        have h2 : 7 < f := by omega
        go_wp2_with (refine wpList_store_mid rfl _ _ _ rfl (W.heap.size + 1) 0 M0.toArray rfl HAZ.out HX1.out HS0I.out HS0O.out ?_)
        exact bodyPost_ret (res_ct (s := 6) (u := 7) rfl _ _ rfl HX3.out.all_ Tryz.underlying50 rfl HS0L.out) rfl (HE0.out _ HX4.out)
      · have h1 : ¬ f < 0 := by omega
        have h2 : ¬ 7 < f := by omega
        subst h3
        go_wp2_with (refine wpList_store_mid rfl _ _ _ rfl (W.heap.size + 1) 0 M0.toArray rfl HAZ.out HX1.out HS0I.out HS0O.out ?_)
        exact bodyPost_ret (res_ct (s := 6) (u := 7) rfl _ _ rfl HX3.out.all_ Tryz.underlying50 rfl HS0L.out) rfl (HE0.out _ HX4.out)
    case pos =>
      obtain ⟨D, hD⟩ : ∃ D, D = mC x f c.boot c.low := ⟨_, rfl⟩
      have HS := Lib.hid (show Sxt D by rw [hD]; exact Sxt.of _)
      have HSI := Lib.hid HS.out.info; have HSO := Lib.hid HS.out.one; have HSL := Lib.hid HS.out.infoL
      have HE1 := Lib.hid (show ∀ w', Kp No W w' → Q (.returned (.tuple #[.agg D.toArray, .bool true])) w' from fun w' k => by
        rw [HQ.out, hD]; exact ⟨by rw [(ask_good hg hf).1, (ask_good hg hf).2]; rfl, k⟩)
      have pa0 := fun W2 => rmessage_any x f c.boot c.low W2
      rw [HVC.out, ← hD] at pa0
      clear hg hD HE
      have HT := Lib.hid (show Ten C by rw [hC]; exact Ten.of _)
      have HC1 := Lib.hid (show C[1]? = some (.int .i64 x.dest) by rw [hC]; rfl)
      clear hC
      have HM1 := Lib.hid (HT.out.info)
      have HO1 := Lib.hid (HT.out.one)
      have HIC := Lib.hid HT.out.infoL
      go_enter Tryz.func19, Tryz.ntmps19
      go_upto_region 1 with (fail)
      rw [← HW1.out]
      clear HW1
      have HX11 := Lib.hid HBX1.out.all_
      go_wp2_with (with_reducible refine wpList_load_mid rfl _ _ rfl W.heap.size 0 rfl E _ HX11.out Tryz.underlying39 rfl HEL.out ?_)
      refine pg.mono ?_
      rintro e w3 ⟨rfl, k3⟩
      clear pg
      have HZ3 := Lib.hid (HZ1.out.no k3)
      have HK3x := Lib.hid k3
      have HK3 := Lib.hid (HK1.out.trans k3)
      clear k3
      have HT6 := Lib.hid (show (w3.alloc (.cells (cC {}).toArray 32)).there w3.heap.size 0 C.toArray.size from (Bk.new w3 _ _).thereC rfl HT.out)
      have HB4 := Lib.hid (show Bk ((w3.alloc (.cells (cC {}).toArray 32)).setCells w3.heap.size 0 C) w3.heap.size 32 C from (Bk.new w3 _ (cC {})).put HT.out.len)
      have HK4 := Lib.hid (show Kp No w3 ((w3.alloc (.cells (cC {}).toArray 32)).setCells w3.heap.size 0 C) from ((Kp.refl No w3).alloc _).sets C 0 (.inr (Nat.le_refl _)))
      have e0 : (cC {}).toArray = #[.int .i64 0, .int .i64 0, .int .i64 0, .string ⟨#[]⟩, .int .i64 0, .int .i64 0, .int .i64 0, .bool false, .int .i64 0, .int .i64 0] := rfl
      rw [e0] at HT6 HB4 HK4
      clear e0
      go_upto_region 2 with (with_reducible refine wpList_store_mid rfl _ _ _ rfl w3.heap.size 0 C.toArray rfl rfl HT6.out HM1.out HO1.out ?_)
      generalize World.setCells _ w3.heap.size 0 C = w4 at *
      have HKW := Lib.hid (HK3.out.trans HK4.out)
      have HZ4 := Lib.hid (HZ3.out.no HK4.out)
      have x1 : w4.cell? ⟨w3.heap.size, 1, none⟩ = some (.int .i64 x.dest) := (HB4.out.cell 1).trans HC1.out
      generalize x.dest = xt at *
      obtain ⟨h1, h2, h3⟩ := hf
      have h1 : ¬ f < 0 := by omega
      have h2 : ¬ 7 < f := by omega
      have HBX := Lib.hid (HBX1.out.no (HK3x.out.trans HK4.out))
      have HBE := Lib.hid (show Bk w4 W.heap.size 39 E from HBX.out)
      go_upto_region 4 with (fail)
      clear x1 h1 h2 h3
      have pl := fun W2 (kk : Kp No w4 W2) => (pl0 W2 (HKW.out.trans kk)).mono fun e w' ⟨h1, h3⟩ => (⟨h1, kk.trans h3⟩ : e = Ending.returned (.int .i64 c.low) ∧ Kp No w4 w')
      clear pl0
      have pa := fun W2 (kk : Kp No w4 W2) => (pa0 W2).mono fun e w' ⟨h1, h3⟩ => (⟨h1, kk.trans h3⟩ : e = Ending.returned (.agg D.toArray) ∧ Kp No w4 w')
      clear pa0
      have HNR := Lib.hid (show ¬ One (W.heap.size + 1) w3.heap.size from fun e => by
        have e : w3.heap.size = W.heap.size + 1 := e
        have := HZ3.out.lt; omega)
      have HN0 := Lib.hid (show ¬ One (W.heap.size + 1) W.heap.size from fun e => by have e : W.heap.size = W.heap.size + 1 := e; omega)
      have hF := (Kp.refl (One (W.heap.size + 1)) w4).drew
      refine rg_begin (fun W2 => Kp (One (W.heap.size + 1)) w4 W2) 9 (by kernel_rfl) ?_
      refine rg_take (i := 0) (v := ?vp0) (by simp only [List.getElem?_toArray, List.getElem?_cons_zero]; rfl) (by kernel_rfl) (by exact fun _ _ _ h => h) (by rfl) ?rp0 hF ?sp0
      case rp0 => (intro W9 hW; refine exec_load_mid W9 32 (.tmp 8) ?_ w3.heap.size 0 ?_ C _ ((HB4.out.kp hW HNR.out).all_) Tryz.underlying32 ?_ HIC.out; exact rfl; exact rfl; exact rfl)
      try simp only [Act.put, List.setIfInBounds_toArray, List.set_cons_zero, List.set_cons_succ]
      refine rg_take (i := 1) (v := ?vp1) (by simp only [List.getElem?_toArray, List.getElem?_cons_succ, List.getElem?_cons_zero]; rfl) (by kernel_rfl) (by exact fun _ _ _ h => h) (by rfl) ?rp1 hF ?sp1
      case rp1 => (intro W hW; clear hW; go_simp; try with_reducible rfl)
      try simp only [Act.put, List.setIfInBounds_toArray, List.set_cons_zero, List.set_cons_succ]
      refine rg_take (i := 2) (v := ?vp2) (by simp only [List.getElem?_toArray, List.getElem?_cons_succ, List.getElem?_cons_zero]; rfl) (by kernel_rfl) (by exact fun _ _ _ h => h) (by rfl) ?rp2 hF ?sp2
      case rp2 => (intro W hW; clear hW; go_simp; try with_reducible rfl)
      try simp only [Act.put, List.setIfInBounds_toArray, List.set_cons_zero, List.set_cons_succ]
      refine rg_take (i := 3) (v := ?vp3) (by simp only [List.getElem?_toArray, List.getElem?_cons_succ, List.getElem?_cons_zero]; rfl) (by kernel_rfl) (by exact fun _ _ _ h => h) (by rfl) ?rp3 hF ?sp3
      case rp3 => (intro W9 hW; have z : W9.cell? ⟨W.heap.size, 0, none⟩ = some (.int .i64 c.boot) := ((HBE.out.kp hW HN0.out).cell 0).trans HEE.out; clear hW; go_simp; try with_reducible rfl)
      try simp only [Act.put, List.setIfInBounds_toArray, List.set_cons_zero, List.set_cons_succ]
      refine rg_take (i := 4) (v := ?vp4) (by simp only [List.getElem?_toArray, List.getElem?_cons_succ, List.getElem?_cons_zero]; rfl) (by kernel_rfl) (by exact fun _ _ _ h => h) (by rfl) ?rp4 hF ?sp4
      case rp4 => (intro W9 hW; refine exec_load_mid W9 39 (.tmp 3) ?_ W.heap.size 0 ?_ E _ ((HBX.out.kp hW HN0.out).all_) Tryz.underlying39 ?_ HEL.out; exact rfl; exact rfl; exact rfl)
      try simp only [Act.put, List.setIfInBounds_toArray, List.set_cons_zero, List.set_cons_succ]
      refine rg_one (i := 5) (oi := ?op5) ?ap5 ?bp5 ?cp5 ?dp5
      case ap5 => (simp only [List.getElem?_toArray, List.getElem?_cons_succ, List.getElem?_cons_zero]; rfl)
      case bp5 => kernel_rfl
      case cp5 => rfl
      intro K hK
      (go_simp; refine (pl _ (Kp.refl No w4).drew).mono ?_; rintro e w5 ⟨rfl, k5⟩)
      refine rg_use hK (k5.of_no) (fun hF => ?_)
      clear hK K
      try simp only [Act.put, List.setIfInBounds_toArray, List.set_cons_zero, List.set_cons_succ]
      refine rg_one (i := 6) (oi := ?op6) ?ap6 ?bp6 ?cp6 ?dp6
      case ap6 => (simp only [List.getElem?_toArray, List.getElem?_cons_succ, List.getElem?_cons_zero]; rfl)
      case bp6 => kernel_rfl
      case cp6 => rfl
      intro K hK
      (go_simp; refine (pa w5 k5).mono ?_; rintro e w6 ⟨rfl, k6⟩)
      refine rg_use hK (k6.of_no) (fun hF => ?_)
      clear hK K
      try simp only [Act.put, List.setIfInBounds_toArray, List.set_cons_zero, List.set_cons_succ]
      refine rg_one (i := 7) (oi := ?op7) ?ap7 ?bp7 ?cp7 ?dp7
      case ap7 => (simp only [List.getElem?_toArray, List.getElem?_cons_succ, List.getElem?_cons_zero]; rfl)
      case bp7 => kernel_rfl
      case cp7 => rfl
      intro K hK
      (refine wp_store_mid _ _ _ rfl (W.heap.size + 1) 0 D.toArray rfl rfl ((HZ4.out.no k6).thereM rfl HS.out) HSI.out HSO.out ?_)
      refine rg_use hK ((k6.of_no.sets D 0 (.inl rfl))) (fun hF => ?_)
      clear hK K
      try simp only [Act.put]
      refine rg_take (i := 8) (v := ?vp8) (by simp only [List.getElem?_toArray, List.getElem?_cons_succ, List.getElem?_cons_zero]; rfl) (by kernel_rfl) (by exact fun _ _ _ h => h) (by rfl) ?rp8 hF ?sp8
      case rp8 => (intro W hW; clear hW; go_simp; try with_reducible rfl)
      try simp only [Act.put, List.setIfInBounds_toArray, List.set_cons_zero, List.set_cons_succ]
      refine rg_done (by kernel_rfl) ?_
      have HX3 := Lib.hid ((HZ4.out.no k6).put (C := D) (by rw [HS.out.len]; rfl))
      have HX4 := Lib.hid ((HKW.out.trans k6).sets (g := W.heap.size + 1) D 0 (.inr (by omega)))
      go_wp2
      exact bodyPost_ret (res_ct (s := 6) (u := 7) rfl _ _ rfl HX3.out.all_ Tryz.underlying50 rfl HSL.out) rfl (HE1.out _ HX4.out)
end Go.Proofs.YtkiaclldjofdoaaGreat

/- The document's Start by contract. No condition beyond what each theorem states. -/
namespace Go.Proofs.YtkiaclldjofdoaaGreat
open Go Go.RowKit Go.Maps Go.PlainAid

/-- results: a struct in a cell and two slots -/
theorem res_ctt {P : Program} {fn : Func} {s u v : Tmp} {t : TypeId} (h : fn.results = #[.cell s t, .tmp u, .tmp v]) (tmps : Array Value) (w : World) {g : Nat} {cs : List Value} {d : TypeDesc} (hp : tmps.getD s undef = .pointer (some ⟨g, 0, none⟩)) (hc : w.rangeAt g 0 cs)
    (hu : P.underlying t = some d) (hd : d.isRow = true) (hi : (P.info? t).map (·.size) = some cs.length) : (results fn tmps).run P w = .ok (.tuple #[.agg cs.toArray, tmps.getD u undef, tmps.getD v undef]) w := by
  simp only [results, h, Array.mapM_eq_mapM_toList]
  have hp2 : tmps[s]?.getD undef = .pointer (some ⟨g, 0, none⟩) := by simpa using hp
  simp [hp2, asAddr, run_loadVar_mid w g 0 t cs d hc hu hd hi]
/-- the document's answer: calls, a number, an error -/
def StartR (c : Cls) (now : Int) (x : Cll) (W : World) (e : Ending) (w' : World) : Prop :=
  ∃ sv', e = .returned (.tuple #[.agg (rC c.boot (stepO c now x (startE (decide (okX x)) c now)).next sv').toArray, .int .i64 (openN c (startE (decide (okX x)) c now)), .int .i64 (startE (decide (okX x)) c now)]) ∧
    ArgC w' sv' (stepO c now x (startE (decide (okX x)) c now)).opn ∧ Kp No W w'
theorem rmay_any (x : Cll) (f : Int) (W : World) (hx : InX x) (hf : f = if x.dest = 0 then 1 else 0) :
    Calls Tryz.prog 32 #[.agg (mC { x with seq := 1 } f 1 1).toArray] W fun e w' => e = .returned (.bool (decide (okX x))) ∧ Kp No W w' := by
  have h := rvalid6_any (msgC { x with seq := 1 } f 1 1) none 0 W (SlI.nil W none 0).arg (by show 0 ≤ maxLen; unfold maxLen; omega) hx.path
  have e : decide (mayS vpP (msgC { x with seq := 1 } f 1 1)) = decide (okX x) := by
    rw [decide_eq_decide, mayS_msgC]
    constructor
    · rintro ⟨_, _, _, _, _, h⟩; exact h
    · intro h
      have h1 : nodeI x.dest := h.1
      unfold nodeI at h1
      refine ⟨by subst hf; unfold nodeI; split <;> omega, ?_, (by decide : (1 : Int) ≤ 1 ∧ (1 : Int) ≤ 1099511627776), (by decide : (1 : Int) ≤ 1 ∧ (1 : Int) ≤ 1099511627776), (by decide : (1 : Int) ≤ 1 ∧ (1 : Int) ≤ 1), h⟩
      show f ≠ x.dest
      subst hf; split <;> omega
  rw [e] at h
  exact h

set_option maxRecDepth 100000 in
set_option maxHeartbeats 4000000 in
theorem rstart_any (c : Cls) (sv : Value) (now : Int) (x : Cll) (W : World) (hv : ArgC W sv c.opn) (hc : CsOk c) (hx : InX x) :
    Calls Tryz.prog 21 #[.agg (rC c.boot c.next sv).toArray, .int .i64 now, vC x] W (StartR c now x W) := by
  obtain ⟨Q, hQ⟩ : ∃ Q : Ending → World → Prop, Q = StartR c now x W := ⟨_, rfl⟩
  rw [← hQ]
  obtain ⟨A, c0, rfl, _⟩ := hv.len
  obtain ⟨E, hE⟩ : ∃ E, E = rC c.boot c.next (.slice A c.opn.length c0) := ⟨_, rfl⟩
  have HE3 := Lib.hid (show Thr E by rw [hE]; exact Thr.of _ _ _ _ _)
  have HEI := Lib.hid HE3.out.info; have HEO := Lib.hid HE3.out.one; have HEL := Lib.hid HE3.out.infoL
  have HE := Lib.hid (show ∀ er w', startE (decide (okX x)) c now = er → er ≠ 0 → Kp No W w' → Q (.returned (.tuple #[.agg E.toArray, .int .i64 0, .int .i64 er])) w' from fun er w' e ne k => by
    rw [hQ, hE]; refine ⟨.slice A c.opn.length c0, ?_, ?_, k⟩
    · rw [e]; unfold openN stepO; rw [if_neg ne, if_neg ne]
    · rw [e]; unfold stepO; rw [if_neg ne]; exact hv.no k)
  have HG := Lib.hid (show ∀ sv' w', startE (decide (okX x)) c now = 0 → ArgC w' sv' (c.opn ++ [callC c now x]) → Kp No W w' → Q (.returned (.tuple #[.agg (rC c.boot (c.next + 1) sv').toArray, .int .i64 c.next, .int .i64 0])) w' from fun sv' w' e k1 k2 => by
    rw [hQ]; refine ⟨sv', ?_, ?_, k2⟩
    · rw [e]; rfl
    · rw [e]; exact k1)
  clear hQ
  obtain ⟨C, hC⟩ : ∃ C, C = cC x := ⟨_, rfl⟩
  have HT := Lib.hid (show Ten C by rw [hC]; exact Ten.of _)
  obtain ⟨C1, hC1⟩ : ∃ C1, C1 = cC { x with seq := 1 } := ⟨_, rfl⟩
  have HT1 := Lib.hid (show Ten C1 by rw [hC1]; exact Ten.of _)
  have HCC1 := Lib.hid (show C.set 0 (.int .i64 1) = C1 by rw [hC, hC1]; rfl)
  have HC1t := Lib.hid (show C[1]? = some (.int .i64 x.dest) by rw [hC]; rfl)
  obtain ⟨D, hD⟩ : ∃ D, D = cC (callC c now x) := ⟨_, rfl⟩
  have HCD := Lib.hid (show ((C1.set 0 (.int .i64 c.next)).set 8 (.int .i64 now)).set 9 (.int .i64 1) = D by rw [hC1, hD]; rfl)
  have HD0' := Lib.hid (show D[0]? = some (.int .i64 c.next) by rw [hD]; rfl)
  have HTX := Lib.hid (show Ten D by rw [hD]; exact Ten.of _)
  have HXCD := Lib.hid (show cL [callC c now x] = D by rw [hD]; simp [cL])
  have HILD := Lib.hid HTX.out.infoL; have HXLD := Lib.hid HTX.out.len
  have HXOD := Lib.hid (show ∀ u ∈ D, u.oneCell' = true from fun u hu => (Array.all_eq_true_iff_forall_mem.1 HTX.out.one) u (by simpa using hu))
  clear HTX
  have hvx : vC x = .agg C.toArray := by rw [hC]; rfl
  obtain ⟨f, hf⟩ : ∃ f : Int, f = if x.dest = 0 then 1 else 0 := ⟨_, rfl⟩
  have pv0 := fun W2 => rmay_any x f W2 hx hf
  have pm0 := fun W2 => rmessage_any { x with seq := 1 } f 1 1 W2
  have hv1 : vC { x with seq := 1 } = .agg C1.toArray := by rw [hC1]; rfl
  rw [hv1] at pm0
  rw [hvx, ← hE]
  generalize mC { x with seq := 1 } f 1 1 = M at pv0 pm0
  clear hvx hC hC1 hx hD hv1
  generalize hok : decide (okX x) = ok at *
  clear hok
  generalize hcc : callC c now x = cc at *
  clear hcc
  obtain ⟨w1, hw1⟩ : ∃ w1, w1 = ((W.alloc (.cells E.toArray 39)).alloc (.cells C.toArray 32)).alloc (.cells #[.int .i64 0, .int .i64 0, .slice none 0 0] 39) := ⟨_, rfl⟩
  have HK1 := Lib.hid (show Kp No W w1 by rw [hw1]; exact (((Kp.refl No W).alloc _).alloc _).alloc _)
  have HBc := Lib.hid (show Bk w1 W.heap.size 39 E by rw [hw1]; exact ((Bk.new W _ E).alloc _).alloc _)
  have HCc := Lib.hid (show Bk w1 (W.heap.size + 1) 32 C by rw [hw1]; exact (Bk.new' (by simp) rfl).alloc _)
  have HZc := Lib.hid (show Bk w1 (W.heap.size + 2) 39 [.int .i64 0, .int .i64 0, .slice none 0 0] by rw [hw1]; exact Bk.new' (by simp) rfl)
  have HW1 := Lib.hid hw1
  have HV := Lib.hid hv; have HC := Lib.hid hc; have HEE := Lib.hid hE; have HFF := Lib.hid hf
  clear hw1 hv hc hE hf
  by_cases h1 : now < 0
  ·
    go_enter Tryz.func21, Tryz.ntmps21
    go_upto_region 1 with (fail)
    rw [← HW1.out]
    clear HW1
    have HX := Lib.hid (HE.out 2 (w1.setCells (W.heap.size + 2) 0 E) (by unfold startE; rw [if_pos (.inl h1)]) (by decide) ((HK1.out).sets E 0 (.inr (by omega))))
    have HZf := Lib.hid (show Bk (w1.setCells (W.heap.size + 2) 0 E) (W.heap.size + 2) 39 E from HZc.out.put (by rw [HE3.out.len]; rfl))
    have HTf := Lib.hid (HZc.out.there3 rfl HE3.out)
    have HRf := Lib.hid HBc.out.all_
    go_wp2_with (first
      | (with_reducible refine wpList_load_mid rfl _ _ rfl W.heap.size 0 rfl E _ HRf.out Tryz.underlying39 rfl HEL.out ?_)
      | (with_reducible refine wpList_store_mid rfl _ _ _ rfl (W.heap.size + 2) 0 E.toArray rfl rfl HTf.out HEI.out HEO.out ?_))
    exact bodyPost_ret (res_ctt (s := 6) (u := 7) (v := 8) rfl _ _ rfl HZf.out.all_ Tryz.underlying39 rfl HEL.out) rfl HX.out
  by_cases h2 : 1152921504606846976 < now
  ·
    go_enter Tryz.func21, Tryz.ntmps21
    go_upto_region 1 with (fail)
    rw [← HW1.out]
    clear HW1
    have HX := Lib.hid (HE.out 2 (w1.setCells (W.heap.size + 2) 0 E) (by unfold startE; rw [if_pos (.inr h2)]) (by decide) ((HK1.out).sets E 0 (.inr (by omega))))
    have HZf := Lib.hid (show Bk (w1.setCells (W.heap.size + 2) 0 E) (W.heap.size + 2) 39 E from HZc.out.put (by rw [HE3.out.len]; rfl))
    have HTf := Lib.hid (HZc.out.there3 rfl HE3.out)
    have HRf := Lib.hid HBc.out.all_
    go_wp2_with (first
      | (with_reducible refine wpList_load_mid rfl _ _ rfl W.heap.size 0 rfl E _ HRf.out Tryz.underlying39 rfl HEL.out ?_)
      | (with_reducible refine wpList_store_mid rfl _ _ _ rfl (W.heap.size + 2) 0 E.toArray rfl rfl HTf.out HEI.out HEO.out ?_))
    exact bodyPost_ret (res_ctt (s := 6) (u := 7) (v := 8) rfl _ _ rfl HZf.out.all_ Tryz.underlying39 rfl HEL.out) rfl HX.out
  have HS1 := Lib.hid (show ¬ (now < 0 ∨ 1152921504606846976 < now) by omega)
  obtain ⟨u0, e0⟩ : ∃ u, C[0]? = some u := ⟨_, List.getElem?_eq_getElem (by rw [HT.out.len]; decide)⟩
  have x0 : w1.cell? ⟨W.heap.size + 1, 0, none⟩ = some u0 := (HCc.out.cell 0).trans e0
  have g0 := HCc.out.frozen 0
  clear e0
  have x1 : (w1.setCell ⟨W.heap.size + 1, 0, none⟩ (.int .i64 1)).cell? ⟨W.heap.size + 1, 1, none⟩ = some (.int .i64 x.dest) := by
    have := (HCc.out.set_ 0 (.int .i64 1)).cell 1
    rw [this, List.getElem?_set_ne (by decide)]
    exact HC1t.out
  have HC3 := Lib.hid (show Bk (w1.setCell ⟨W.heap.size + 1, 0, none⟩ (.int .i64 1)) (W.heap.size + 1) 32 C1 by rw [← HCC1.out]; exact HCc.out.set_ 0 _)
  have HB3 := Lib.hid (show Bk (w1.setCell ⟨W.heap.size + 1, 0, none⟩ (.int .i64 1)) W.heap.size 39 E from HBc.out.far (p := ⟨W.heap.size + 1, 0, none⟩) (by show W.heap.size ≠ W.heap.size + 1; omega) _)
  have HZ3 := Lib.hid (show Bk (w1.setCell ⟨W.heap.size + 1, 0, none⟩ (.int .i64 1)) (W.heap.size + 2) 39 [.int .i64 0, .int .i64 0, .slice none 0 0] from HZc.out.far (p := ⟨W.heap.size + 1, 0, none⟩) (by show W.heap.size + 2 ≠ W.heap.size + 1; omega) _)
  have HK3 := Lib.hid (show Kp No W (w1.setCell ⟨W.heap.size + 1, 0, none⟩ (.int .i64 1)) from HK1.out.set (.inr (by omega)) 0 _)
  clear HBc HCc HZc HK1
  go_enter Tryz.func21, Tryz.ntmps21
  go_upto_region 1 with (fail)
  rw [← HW1.out]
  clear HW1
  go_upto_region 4 with (fail)
  clear x0 g0
  generalize World.setCell w1 _ (.int .i64 1) = w3 at *
  have HRC := Lib.hid HC3.out.all_
  have HI1 := Lib.hid HT1.out.infoL
  go_upto_if 22 with (fail)
  go_cut [9] (fun s wx => s = .int .i64 f ∧ wx = w3)
  case first =>
    by_cases ht : x.dest = 0
    · have HFX := Lib.hid (show f = 1 by rw [HFF.out, if_pos ht])
      have hd : (x.dest == 0) = true := by rw [beq_iff_eq]; exact ht
      go_wp2
      go_meet
      exact ⟨by rw [HFX.out], rfl⟩
    · have HFX := Lib.hid (show f = 0 by rw [HFF.out, if_neg ht])
      have hd : (x.dest == 0) = false := by rw [beq_eq_false_iff_ne]; exact ht
      go_wp2
      go_meet
      exact ⟨by rw [HFX.out], rfl⟩
  case rest =>
  obtain ⟨rfl, rfl⟩ := hcut
  clear x1
  go_wp2_with (with_reducible refine wpList_load_mid rfl _ _ rfl (W.heap.size + 1) 0 rfl C1 _ HRC.out Tryz.underlying32 rfl HI1.out ?_)
  refine (pm0 _).mono ?_
  rintro e w4 ⟨rfl, k4⟩
  go_wp2_with fail
  refine (pv0 _).mono ?_
  rintro e w5 ⟨rfl, k5⟩
  have HK5 := Lib.hid (HK3.out.trans (k4.trans k5))
  have HBc := Lib.hid (HB3.out.no (k4.trans k5))
  have HCc := Lib.hid (HC3.out.no (k4.trans k5))
  have HZc := Lib.hid (HZ3.out.no (k4.trans k5))
  clear k4 k5 pm0 pv0 h1 h2 HB3 HC3 HZ3
  cases ok
  case false =>
    have HX := Lib.hid (HE.out 22 (w5.setCells (W.heap.size + 2) 0 E) (by unfold startE; rw [if_neg HS1.out, if_pos rfl]) (by decide) ((HK5.out).sets E 0 (.inr (by omega))))
    have HZf := Lib.hid (show Bk (w5.setCells (W.heap.size + 2) 0 E) (W.heap.size + 2) 39 E from HZc.out.put (by rw [HE3.out.len]; rfl))
    have HTf := Lib.hid (HZc.out.there3 rfl HE3.out)
    have HRf := Lib.hid HBc.out.all_
    go_wp2_with (first
      | (with_reducible refine wpList_load_mid rfl _ _ rfl W.heap.size 0 rfl E _ HRf.out Tryz.underlying39 rfl HEL.out ?_)
      | (with_reducible refine wpList_store_mid rfl _ _ _ rfl (W.heap.size + 2) 0 E.toArray rfl rfl HTf.out HEI.out HEO.out ?_))
    exact bodyPost_ret (res_ctt (s := 6) (u := 7) (v := 8) rfl _ _ rfl HZf.out.all_ Tryz.underlying39 rfl HEL.out) rfl HX.out
  case true =>
  obtain ⟨N, hN⟩ : ∃ N, N = c.next := ⟨_, rfl⟩
  obtain ⟨LL, hLL⟩ : ∃ LL, LL = c.opn.length := ⟨_, rfl⟩
  have HN := Lib.hid hN; have HLL := Lib.hid hLL
  have HB5 := Lib.hid (show Bk w5 W.heap.size 39 [.int .i64 c.boot, .int .i64 N, .slice A LL c0] by have := HBc.out; rw [HEE.out] at this; rw [hN, hLL]; exact this)
  have HBE5 := Lib.hid HBc.out
  clear hN hLL
  have x1 : w5.cell? ⟨W.heap.size, 1, none⟩ = some (.int .i64 N) := HB5.out.cell 1
  by_cases h3 : 1099511627776 < N
  ·
    have HX := Lib.hid (HE.out 66 (w5.setCells (W.heap.size + 2) 0 E) (by unfold startE; rw [if_neg HS1.out, if_neg (by decide), if_pos (by have := HN.out; omega)]) (by decide) ((HK5.out).sets E 0 (.inr (by omega))))
    have HZf := Lib.hid (show Bk (w5.setCells (W.heap.size + 2) 0 E) (W.heap.size + 2) 39 E from HZc.out.put (by rw [HE3.out.len]; rfl))
    have HTf := Lib.hid (HZc.out.there3 rfl HE3.out)
    have HRf := Lib.hid HBc.out.all_
    go_wp2_with (first
      | (with_reducible refine wpList_load_mid rfl _ _ rfl W.heap.size 0 rfl E _ HRf.out Tryz.underlying39 rfl HEL.out ?_)
      | (with_reducible refine wpList_store_mid rfl _ _ _ rfl (W.heap.size + 2) 0 E.toArray rfl rfl HTf.out HEI.out HEO.out ?_))
    exact bodyPost_ret (res_ctt (s := 6) (u := 7) (v := 8) rfl _ _ rfl HZf.out.all_ Tryz.underlying39 rfl HEL.out) rfl HX.out
  have HS3 := Lib.hid h3
  have hN1 := HC.out.next
  have hN2 : 1 ≤ N := by have := HN.out; omega
  have hN3 : N ≤ 1099511627777 := by have := HN.out; omega
  go_upto_region 11 with (fail)
  clear x1 hN1
  have hF := (Kp.refl No w5).drew
  have hlen := HC.out.len
  by_cases h4 : LL = 4
  · have h4b : ((LL : Int) == 4) = true := by rw [beq_iff_eq]; omega
    have HWH := Lib.hid (show startE true c now = 52 by unfold startE; rw [if_neg HS1.out, if_neg (by decide), if_neg (by have := HS3.out; have := HN.out; omega), if_pos (.inl (by have := HLL.out; omega))])
    have HZc := Lib.hid HZc.out.drew; have HBc := Lib.hid HBc.out.drew
    clear h4 hlen h3
    refine rg_begin (fun W2 => Kp No w5 W2) 12 (by kernel_rfl) ?_
    refine rg_take (i := 0) (v := ?vp0) (by simp only [List.getElem?_toArray, List.getElem?_cons_zero]; rfl) (by kernel_rfl) (by exact fun _ _ _ h => h) (by rfl) ?rp0 hF ?sp0
    case rp0 => (intro W hW; clear hW; go_simp; try with_reducible rfl)
    try simp only [Act.put, List.setIfInBounds_toArray, List.set_cons_zero, List.set_cons_succ]
    refine rg_take (i := 1) (v := ?vp1) (by simp only [List.getElem?_toArray, List.getElem?_cons_succ, List.getElem?_cons_zero]; rfl) (by kernel_rfl) (by exact fun _ _ _ h => h) (by rfl) ?rp1 hF ?sp1
    case rp1 => (intro W9 hW; have z : W9.cell? ⟨W.heap.size, 2, none⟩ = some (.slice A LL c0) := (HB5.out.no hW).cell 2; clear hW; go_simp; try with_reducible rfl)
    try simp only [Act.put, List.setIfInBounds_toArray, List.set_cons_zero, List.set_cons_succ]
    refine rg_take (i := 2) (v := ?vp2) (by simp only [List.getElem?_toArray, List.getElem?_cons_succ, List.getElem?_cons_zero]; rfl) (by kernel_rfl) (by exact fun _ _ _ h => h) (by rfl) ?rp2 hF ?sp2
    case rp2 => (intro W hW; clear hW; go_simp; try with_reducible rfl)
    try simp only [Act.put, List.setIfInBounds_toArray, List.set_cons_zero, List.set_cons_succ]
    refine rg_take (i := 3) (v := ?vp3) (by simp only [List.getElem?_toArray, List.getElem?_cons_succ, List.getElem?_cons_zero]; rfl) (by kernel_rfl) (by exact fun _ _ _ h => h) (by rfl) ?rp3 hF ?sp3
    case rp3 => (intro W hW; clear hW; go_simp; try with_reducible rfl)
    try simp only [Act.put, List.setIfInBounds_toArray, List.set_cons_zero, List.set_cons_succ]
    refine rg_take (i := 4) (v := ?vp4) (by simp only [List.getElem?_toArray, List.getElem?_cons_succ, List.getElem?_cons_zero]; rfl) (by kernel_rfl) (by exact fun _ _ _ h => h) (by rfl) ?rp4 hF ?sp4
    case rp4 => (intro W hW; clear hW; go_simp; try with_reducible rfl)
    try simp only [Act.put, List.setIfInBounds_toArray, List.set_cons_zero, List.set_cons_succ]
    refine rg_pass (i := 5) (by simp only [List.getElem?_toArray, List.getElem?_cons_succ, List.getElem?_cons_zero]; rfl) (by kernel_rfl) (by exact fun _ _ _ h => h) (by rfl) hF ?_
    try simp only [Act.put, List.setIfInBounds_toArray, List.set_cons_zero, List.set_cons_succ]
    refine rg_pass (i := 6) (by simp only [List.getElem?_toArray, List.getElem?_cons_succ, List.getElem?_cons_zero]; rfl) (by kernel_rfl) (by exact fun _ _ _ h => h) (by rfl) hF ?_
    try simp only [Act.put, List.setIfInBounds_toArray, List.set_cons_zero, List.set_cons_succ]
    refine rg_pass (i := 7) (by simp only [List.getElem?_toArray, List.getElem?_cons_succ, List.getElem?_cons_zero]; rfl) (by kernel_rfl) (by exact fun _ _ _ h => h) (by rfl) hF ?_
    try simp only [Act.put, List.setIfInBounds_toArray, List.set_cons_zero, List.set_cons_succ]
    refine rg_pass (i := 8) (by simp only [List.getElem?_toArray, List.getElem?_cons_succ, List.getElem?_cons_zero]; rfl) (by kernel_rfl) (by exact fun _ _ _ h => h) (by rfl) hF ?_
    try simp only [Act.put, List.setIfInBounds_toArray, List.set_cons_zero, List.set_cons_succ]
    refine rg_pass (i := 9) (by simp only [List.getElem?_toArray, List.getElem?_cons_succ, List.getElem?_cons_zero]; rfl) (by kernel_rfl) (by exact fun _ _ _ h => h) (by rfl) hF ?_
    try simp only [Act.put, List.setIfInBounds_toArray, List.set_cons_zero, List.set_cons_succ]
    refine rg_pass (i := 10) (by simp only [List.getElem?_toArray, List.getElem?_cons_succ, List.getElem?_cons_zero]; rfl) (by kernel_rfl) (by exact fun _ _ _ h => h) (by rfl) hF ?_
    try simp only [Act.put, List.setIfInBounds_toArray, List.set_cons_zero, List.set_cons_succ]
    refine rg_take (i := 11) (v := ?vp11) (by simp only [List.getElem?_toArray, List.getElem?_cons_succ, List.getElem?_cons_zero]; rfl) (by kernel_rfl) (by exact fun _ _ _ h => h) (by rfl) ?rp11 hF ?sp11
    case rp11 => (intro W hW; clear hW; go_simp; try with_reducible rfl)
    try simp only [Act.put, List.setIfInBounds_toArray, List.set_cons_zero, List.set_cons_succ]
    refine rg_done (by kernel_rfl) ?_
    obtain ⟨w6, hw6⟩ : ∃ w6, w6 = w5.drew := ⟨_, rfl⟩
    rw [← hw6] at HZc HBc ⊢
    have HK6 := Lib.hid (show Kp No W w6 by rw [hw6]; exact HK5.out.drew)
    clear hw6 hF
    have HX := Lib.hid (HE.out 52 (w6.setCells (W.heap.size + 2) 0 E) HWH.out (by decide) ((HK6.out).sets E 0 (.inr (by omega))))
    have HZf := Lib.hid (show Bk (w6.setCells (W.heap.size + 2) 0 E) (W.heap.size + 2) 39 E from HZc.out.put (by rw [HE3.out.len]; rfl))
    have HTf := Lib.hid (HZc.out.there3 rfl HE3.out)
    have HRf := Lib.hid HBc.out.all_
    go_wp2_with (first
      | (with_reducible refine wpList_load_mid rfl _ _ rfl W.heap.size 0 rfl E _ HRf.out Tryz.underlying39 rfl HEL.out ?_)
      | (with_reducible refine wpList_store_mid rfl _ _ _ rfl (W.heap.size + 2) 0 E.toArray rfl rfl HTf.out HEI.out HEO.out ?_))
    exact bodyPost_ret (res_ctt (s := 6) (u := 7) (v := 8) rfl _ _ rfl HZf.out.all_ Tryz.underlying39 rfl HEL.out) rfl HX.out
  have h4b : ((LL : Int) == 4) = false := by rw [beq_eq_false_iff_ne]; omega
  have HL4 := Lib.hid (show ¬ 4 ≤ c.opn.length by have := HLL.out; omega)
  obtain ⟨lo, hlo⟩ : ∃ lo, lo = lowC c.opn c.next := ⟨_, rfl⟩
  have HLO := Lib.hid hlo
  have hlb := HC.out.low_le.2
  have hlb1 : lo ≤ N := by have := HN.out; rw [hlo]; have := hlb.1; unfold Cls.low at this; omega
  have hlb2 : 1 ≤ lo := by rw [hlo]; exact hlb.2
  have pl := fun W2 (kk : Kp No w5 W2) => (rlow_any c.boot c.next (.slice A c.opn.length c0) c.opn W2 (HV.out.no (HK5.out.trans kk)) (by unfold maxLen; omega)).mono fun e w' ⟨h1, h3⟩ => (⟨h1, kk.trans h3⟩ : e = Ending.returned (.int .i64 (lowC c.opn c.next)) ∧ Kp No w5 w')
  rw [← hlo, ← HEE.out] at pl
  clear hlo hlb hlen h4
  have hwr : IntKind.i64.wrap (lo + 8) = lo + 8 := by rw [IntKind.wrap_i64]; omega
  by_cases h5 : lo + 8 ≤ N
  · have HWH := Lib.hid (show startE true c now = 52 by unfold startE; rw [if_neg HS1.out, if_neg (by decide), if_neg (by have := HS3.out; have := HN.out; omega), if_pos (.inr (by have := HN.out; have := HLO.out; unfold Cls.low; omega))])
    refine rg_begin (fun W2 => Kp No w5 W2) 12 (by kernel_rfl) ?_
    refine rg_take (i := 0) (v := ?vq0) (by simp only [List.getElem?_toArray, List.getElem?_cons_zero]; rfl) (by kernel_rfl) (by exact fun _ _ _ h => h) (by rfl) ?rq0 hF ?sq0
    case rq0 => (intro W hW; clear hW; go_simp; try with_reducible rfl)
    try simp only [Act.put, List.setIfInBounds_toArray, List.set_cons_zero, List.set_cons_succ]
    refine rg_take (i := 1) (v := ?vq1) (by simp only [List.getElem?_toArray, List.getElem?_cons_succ, List.getElem?_cons_zero]; rfl) (by kernel_rfl) (by exact fun _ _ _ h => h) (by rfl) ?rq1 hF ?sq1
    case rq1 => (intro W9 hW; have z : W9.cell? ⟨W.heap.size, 2, none⟩ = some (.slice A LL c0) := (HB5.out.no hW).cell 2; clear hW; go_simp; try with_reducible rfl)
    try simp only [Act.put, List.setIfInBounds_toArray, List.set_cons_zero, List.set_cons_succ]
    refine rg_take (i := 2) (v := ?vq2) (by simp only [List.getElem?_toArray, List.getElem?_cons_succ, List.getElem?_cons_zero]; rfl) (by kernel_rfl) (by exact fun _ _ _ h => h) (by rfl) ?rq2 hF ?sq2
    case rq2 => (intro W hW; clear hW; go_simp; try with_reducible rfl)
    try simp only [Act.put, List.setIfInBounds_toArray, List.set_cons_zero, List.set_cons_succ]
    refine rg_take (i := 3) (v := ?vq3) (by simp only [List.getElem?_toArray, List.getElem?_cons_succ, List.getElem?_cons_zero]; rfl) (by kernel_rfl) (by exact fun _ _ _ h => h) (by rfl) ?rq3 hF ?sq3
    case rq3 => (intro W hW; clear hW; go_simp; try with_reducible rfl)
    try simp only [Act.put, List.setIfInBounds_toArray, List.set_cons_zero, List.set_cons_succ]
    refine rg_take (i := 4) (v := ?vq4) (by simp only [List.getElem?_toArray, List.getElem?_cons_succ, List.getElem?_cons_zero]; rfl) (by kernel_rfl) (by exact fun _ _ _ h => h) (by rfl) ?rq4 hF ?sq4
    case rq4 => (intro W hW; clear hW; go_simp; try with_reducible rfl)
    try simp only [Act.put, List.setIfInBounds_toArray, List.set_cons_zero, List.set_cons_succ]
    refine rg_take (i := 5) (v := ?vq5) (by simp only [List.getElem?_toArray, List.getElem?_cons_succ, List.getElem?_cons_zero]; rfl) (by kernel_rfl) (by exact fun _ _ _ h => h) (by rfl) ?rq5 hF ?sq5
    case rq5 => (intro W hW; clear hW; go_simp; try with_reducible rfl)
    try simp only [Act.put, List.setIfInBounds_toArray, List.set_cons_zero, List.set_cons_succ]
    refine rg_take (i := 6) (v := ?vq6) (by simp only [List.getElem?_toArray, List.getElem?_cons_succ, List.getElem?_cons_zero]; rfl) (by kernel_rfl) (by exact fun _ _ _ h => h) (by rfl) ?rq6 hF ?sq6
    case rq6 => (intro W9 hW; have z : W9.cell? ⟨W.heap.size, 1, none⟩ = some (.int .i64 N) := (HB5.out.no hW).cell 1; clear hW; go_simp; try with_reducible rfl)
    try simp only [Act.put, List.setIfInBounds_toArray, List.set_cons_zero, List.set_cons_succ]
    refine rg_take (i := 7) (v := ?vq7) (by simp only [List.getElem?_toArray, List.getElem?_cons_succ, List.getElem?_cons_zero]; rfl) (by kernel_rfl) (by exact fun _ _ _ h => h) (by rfl) ?rq7 hF ?sq7
    case rq7 => (intro W9 hW; refine exec_load_mid W9 39 (.tmp 3) ?_ W.heap.size 0 ?_ E _ ((HBE5.out.no hW).all_) Tryz.underlying39 ?_ HEL.out; exact rfl; exact rfl; exact rfl)
    try simp only [Act.put, List.setIfInBounds_toArray, List.set_cons_zero, List.set_cons_succ]
    refine rg_one (i := 8) (oi := ?oq8) ?aq8 ?bq8 ?cq8 ?dq8
    case aq8 => (simp only [List.getElem?_toArray, List.getElem?_cons_succ, List.getElem?_cons_zero]; rfl)
    case bq8 => kernel_rfl
    case cq8 => rfl
    intro K hK
    (go_simp; refine (pl _ (Kp.refl No w5).drew).mono ?_; rintro e w6 ⟨rfl, k6⟩)
    refine rg_use hK (k6) (fun hF => ?_)
    clear hK K
    try simp only [Act.put, List.setIfInBounds_toArray, List.set_cons_zero, List.set_cons_succ]
    refine rg_take (i := 9) (v := ?vq9) (by simp only [List.getElem?_toArray, List.getElem?_cons_succ, List.getElem?_cons_zero]; rfl) (by kernel_rfl) (by exact fun _ _ _ h => h) (by rfl) ?rq9 hF ?sq9
    case rq9 => (intro W hW; clear hW; go_simp; try with_reducible rfl)
    try simp only [Act.put, List.setIfInBounds_toArray, List.set_cons_zero, List.set_cons_succ]
    refine rg_take (i := 10) (v := ?vq10) (by simp only [List.getElem?_toArray, List.getElem?_cons_succ, List.getElem?_cons_zero]; rfl) (by kernel_rfl) (by exact fun _ _ _ h => h) (by rfl) ?rq10 hF ?sq10
    case rq10 => (intro W hW; clear hW; go_simp; try with_reducible rfl)
    try simp only [Act.put, List.setIfInBounds_toArray, List.set_cons_zero, List.set_cons_succ]
    refine rg_take (i := 11) (v := ?vq11) (by simp only [List.getElem?_toArray, List.getElem?_cons_succ, List.getElem?_cons_zero]; rfl) (by kernel_rfl) (by exact fun _ _ _ h => h) (by rfl) ?rq11 hF ?sq11
    case rq11 => (intro W hW; clear hW; go_simp; try with_reducible rfl)
    try simp only [Act.put, List.setIfInBounds_toArray, List.set_cons_zero, List.set_cons_succ]
    refine rg_done (by kernel_rfl) ?_
    have HK6 := Lib.hid (HK5.out.trans k6)
    have HZc := Lib.hid (HZc.out.no k6); have HBc := Lib.hid (HBc.out.no k6)
    clear k6 pl hF
    have HX := Lib.hid (HE.out 52 (w6.setCells (W.heap.size + 2) 0 E) HWH.out (by decide) ((HK6.out).sets E 0 (.inr (by omega))))
    have HZf := Lib.hid (show Bk (w6.setCells (W.heap.size + 2) 0 E) (W.heap.size + 2) 39 E from HZc.out.put (by rw [HE3.out.len]; rfl))
    have HTf := Lib.hid (HZc.out.there3 rfl HE3.out)
    have HRf := Lib.hid HBc.out.all_
    go_wp2_with (first
      | (with_reducible refine wpList_load_mid rfl _ _ rfl W.heap.size 0 rfl E _ HRf.out Tryz.underlying39 rfl HEL.out ?_)
      | (with_reducible refine wpList_store_mid rfl _ _ _ rfl (W.heap.size + 2) 0 E.toArray rfl rfl HTf.out HEI.out HEO.out ?_))
    exact bodyPost_ret (res_ctt (s := 6) (u := 7) (v := 8) rfl _ _ rfl HZf.out.all_ Tryz.underlying39 rfl HEL.out) rfl HX.out
  have HS := Lib.hid (show startE true c now = 0 by
    unfold startE; rw [if_neg HS1.out, if_neg (by decide), if_neg (by have := HS3.out; have := HN.out; omega), if_neg]
    rintro (q | q)
    · exact HL4.out q
    · have := HN.out; have := HLO.out; unfold Cls.low at q; omega)
  refine rg_begin (fun W2 => Kp No w5 W2) 12 (by kernel_rfl) ?_
  refine rg_take (i := 0) (v := ?vs0) (by simp only [List.getElem?_toArray, List.getElem?_cons_zero]; rfl) (by kernel_rfl) (by exact fun _ _ _ h => h) (by rfl) ?rs0 hF ?ss0
  case rs0 => (intro W hW; clear hW; go_simp; try with_reducible rfl)
  try simp only [Act.put, List.setIfInBounds_toArray, List.set_cons_zero, List.set_cons_succ]
  refine rg_take (i := 1) (v := ?vs1) (by simp only [List.getElem?_toArray, List.getElem?_cons_succ, List.getElem?_cons_zero]; rfl) (by kernel_rfl) (by exact fun _ _ _ h => h) (by rfl) ?rs1 hF ?ss1
  case rs1 => (intro W9 hW; have z : W9.cell? ⟨W.heap.size, 2, none⟩ = some (.slice A LL c0) := (HB5.out.no hW).cell 2; clear hW; go_simp; try with_reducible rfl)
  try simp only [Act.put, List.setIfInBounds_toArray, List.set_cons_zero, List.set_cons_succ]
  refine rg_take (i := 2) (v := ?vs2) (by simp only [List.getElem?_toArray, List.getElem?_cons_succ, List.getElem?_cons_zero]; rfl) (by kernel_rfl) (by exact fun _ _ _ h => h) (by rfl) ?rs2 hF ?ss2
  case rs2 => (intro W hW; clear hW; go_simp; try with_reducible rfl)
  try simp only [Act.put, List.setIfInBounds_toArray, List.set_cons_zero, List.set_cons_succ]
  refine rg_take (i := 3) (v := ?vs3) (by simp only [List.getElem?_toArray, List.getElem?_cons_succ, List.getElem?_cons_zero]; rfl) (by kernel_rfl) (by exact fun _ _ _ h => h) (by rfl) ?rs3 hF ?ss3
  case rs3 => (intro W hW; clear hW; go_simp; try with_reducible rfl)
  try simp only [Act.put, List.setIfInBounds_toArray, List.set_cons_zero, List.set_cons_succ]
  refine rg_take (i := 4) (v := ?vs4) (by simp only [List.getElem?_toArray, List.getElem?_cons_succ, List.getElem?_cons_zero]; rfl) (by kernel_rfl) (by exact fun _ _ _ h => h) (by rfl) ?rs4 hF ?ss4
  case rs4 => (intro W hW; clear hW; go_simp; try with_reducible rfl)
  try simp only [Act.put, List.setIfInBounds_toArray, List.set_cons_zero, List.set_cons_succ]
  refine rg_take (i := 5) (v := ?vs5) (by simp only [List.getElem?_toArray, List.getElem?_cons_succ, List.getElem?_cons_zero]; rfl) (by kernel_rfl) (by exact fun _ _ _ h => h) (by rfl) ?rs5 hF ?ss5
  case rs5 => (intro W hW; clear hW; go_simp; try with_reducible rfl)
  try simp only [Act.put, List.setIfInBounds_toArray, List.set_cons_zero, List.set_cons_succ]
  refine rg_take (i := 6) (v := ?vs6) (by simp only [List.getElem?_toArray, List.getElem?_cons_succ, List.getElem?_cons_zero]; rfl) (by kernel_rfl) (by exact fun _ _ _ h => h) (by rfl) ?rs6 hF ?ss6
  case rs6 => (intro W9 hW; have z : W9.cell? ⟨W.heap.size, 1, none⟩ = some (.int .i64 N) := (HB5.out.no hW).cell 1; clear hW; go_simp; try with_reducible rfl)
  try simp only [Act.put, List.setIfInBounds_toArray, List.set_cons_zero, List.set_cons_succ]
  refine rg_take (i := 7) (v := ?vs7) (by simp only [List.getElem?_toArray, List.getElem?_cons_succ, List.getElem?_cons_zero]; rfl) (by kernel_rfl) (by exact fun _ _ _ h => h) (by rfl) ?rs7 hF ?ss7
  case rs7 => (intro W9 hW; refine exec_load_mid W9 39 (.tmp 3) ?_ W.heap.size 0 ?_ E _ ((HBE5.out.no hW).all_) Tryz.underlying39 ?_ HEL.out; exact rfl; exact rfl; exact rfl)
  try simp only [Act.put, List.setIfInBounds_toArray, List.set_cons_zero, List.set_cons_succ]
  refine rg_one (i := 8) (oi := ?os8) ?as8 ?bs8 ?cs8 ?ds8
  case as8 => (simp only [List.getElem?_toArray, List.getElem?_cons_succ, List.getElem?_cons_zero]; rfl)
  case bs8 => kernel_rfl
  case cs8 => rfl
  intro K hK
  (go_simp; refine (pl _ (Kp.refl No w5).drew).mono ?_; rintro e w6 ⟨rfl, k6⟩)
  refine rg_use hK (k6) (fun hF => ?_)
  clear hK K
  try simp only [Act.put, List.setIfInBounds_toArray, List.set_cons_zero, List.set_cons_succ]
  refine rg_take (i := 9) (v := ?vs9) (by simp only [List.getElem?_toArray, List.getElem?_cons_succ, List.getElem?_cons_zero]; rfl) (by kernel_rfl) (by exact fun _ _ _ h => h) (by rfl) ?rs9 hF ?ss9
  case rs9 => (intro W hW; clear hW; go_simp; try with_reducible rfl)
  try simp only [Act.put, List.setIfInBounds_toArray, List.set_cons_zero, List.set_cons_succ]
  refine rg_take (i := 10) (v := ?vs10) (by simp only [List.getElem?_toArray, List.getElem?_cons_succ, List.getElem?_cons_zero]; rfl) (by kernel_rfl) (by exact fun _ _ _ h => h) (by rfl) ?rs10 hF ?ss10
  case rs10 => (intro W hW; clear hW; go_simp; try with_reducible rfl)
  try simp only [Act.put, List.setIfInBounds_toArray, List.set_cons_zero, List.set_cons_succ]
  refine rg_take (i := 11) (v := ?vs11) (by simp only [List.getElem?_toArray, List.getElem?_cons_succ, List.getElem?_cons_zero]; rfl) (by kernel_rfl) (by exact fun _ _ _ h => h) (by rfl) ?rs11 hF ?ss11
  case rs11 => (intro W hW; clear hW; go_simp; try with_reducible rfl)
  try simp only [Act.put, List.setIfInBounds_toArray, List.set_cons_zero, List.set_cons_succ]
  refine rg_done (by kernel_rfl) ?_
  have HK6 := Lib.hid (HK5.out.trans k6)
  have HB6 := Lib.hid (HB5.out.no k6)
  have HC6 := Lib.hid (HCc.out.no k6)
  have HZ6 := Lib.hid (HZc.out.no k6)
  clear k6 pl hF hlb1 hlb2 h5 h4b h3
  have x1 : w6.cell? ⟨W.heap.size, 1, none⟩ = some (.int .i64 N) := HB6.out.cell 1
  obtain ⟨u0, e0⟩ : ∃ u, C1[0]? = some u := ⟨_, List.getElem?_eq_getElem (by rw [HT1.out.len]; decide)⟩
  obtain ⟨u8, e8⟩ : ∃ u, C1[8]? = some u := ⟨_, List.getElem?_eq_getElem (by rw [HT1.out.len]; decide)⟩
  obtain ⟨u9, e9⟩ : ∃ u, C1[9]? = some u := ⟨_, List.getElem?_eq_getElem (by rw [HT1.out.len]; decide)⟩
  have s0 : w6.cell? ⟨W.heap.size + 1, 0, none⟩ = some u0 := (HC6.out.cell 0).trans e0
  have s8 : w6.cell? ⟨W.heap.size + 1, 8, none⟩ = some u8 := (HC6.out.cell 8).trans e8
  have s9 : w6.cell? ⟨W.heap.size + 1, 9, none⟩ = some u9 := (HC6.out.cell 9).trans e9
  have g0 := HC6.out.frozen 0; have g8 := HC6.out.frozen 8; have g9 := HC6.out.frozen 9
  clear e0 e8 e9
  go_upto_region 16 with (fail)
  have HD8 := Lib.hid (((HC6.out.set_ 0 (.int .i64 N)).set_ 8 (.int .i64 now)).set_ 9 (.int .i64 1))
  have hcn : ((C1.set 0 (.int .i64 N)).set 8 (.int .i64 now)).set 9 (.int .i64 1) = D := by rw [HN.out]; exact HCD.out
  rw [hcn] at HD8
  have k8 : Kp (One (W.heap.size + 1)) w6 (((w6.setCell ⟨W.heap.size + 1, 0, none⟩ (.int .i64 N)).setCell ⟨W.heap.size + 1, 8, none⟩ (.int .i64 now)).setCell ⟨W.heap.size + 1, 9, none⟩ (.int .i64 1)) := (((Kp.refl (One (W.heap.size + 1)) w6).set (.inl rfl) 0 _).set (.inl rfl) 8 _).set (.inl rfl) 9 _
  have HK8 := Lib.hid (HK6.out.then_ (M := No) k8 fun i hi e => by have e : i = W.heap.size + 1 := e; omega)
  have HB8 := Lib.hid (HB6.out.kp k8 fun e => by have e : W.heap.size = W.heap.size + 1 := e; omega)
  have HZ8 := Lib.hid (HZ6.out.kp k8 fun e => by have e : W.heap.size + 2 = W.heap.size + 1 := e; omega)
  clear hcn k8 s0 s8 s9 g0 g8 g9 x1
  generalize World.setCell _ _ (.int .i64 1) = w8 at *
  have hs8 : W.heap.size + 2 < w8.heap.size := HZ8.out.lt
  have HV8 := Lib.hid (show ArgC w8 (.slice A LL c0) c.opn by rw [HLL.out]; exact HV.out.no HK8.out)
  go_wp2
  go_loopw [11, 10] (fun i o wr => ∃ j : Nat, j ≤ c.opn.length ∧ i = .int .i64 j ∧ wr.ownsRow w8.heap.size 32 10 o (c.opn.take j).length (cL (c.opn.take j)) ∧ Kp No w8 wr) (fun i _ _ => c.opn.length - (Go.RowKit.intOf i).toNat)
  case atStart => exact ⟨0, Nat.zero_le _, rfl, nil_own _ _ _ _, Kp.refl _ _⟩
  case round =>
    obtain ⟨j, hj, rfl, ho, hk⟩ := hrel
    have HO := Lib.hid ho; have HK := Lib.hid hk
    clear ho hk
    have y2 : wr.cell? ⟨W.heap.size, 2, none⟩ = some (.slice A LL c0) := (HB8.out.no HK.out).cell 2
    have hj4 : j ≤ 4 := by have := HC.out.len; omega
    by_cases hlt : j < c.opn.length
    · have hk0 : (0 : Int) ≤ (j : Int) := by omega
      have hk1 : (j : Int) < (LL : Int) := by have := HLL.out; omega
      obtain ⟨g, o, hA, hgl, hr⟩ := (HV8.out.no HK.out).at_ hlt
      subst hA
      have HRX := Lib.hid hr
      have HSN := Lib.hid (show c.opn.take (j + 1) = c.opn.take j ++ [c.opn[j]] from List.take_succ_eq_append_getElem hlt)
      obtain ⟨x2, hx⟩ : ∃ x2, x2 = c.opn[j] := ⟨_, rfl⟩
      have HMS := Lib.hid (show c.opn.length - (j + 1) < c.opn.length - j by omega)
      rw [← hx] at HRX HSN
      clear hlt hr hgl hx
      obtain ⟨m, hm⟩ : ∃ m, m = c.opn.take j := ⟨_, rfl⟩
      have hml : m.length ≤ j := by rw [hm, List.length_take]; omega
      rw [← hm] at HO HSN
      have hjl := hj
      clear hm
      obtain ⟨X, hX⟩ : ∃ X, X = cC x2 := ⟨_, rfl⟩
      rw [← hX] at HRX
      have HTX := Lib.hid (show Ten X by rw [hX]; exact Ten.of _)
      have HXCX := Lib.hid (show cL [x2] = X by rw [hX]; simp [cL])
      have HILX := Lib.hid HTX.out.infoL; have HXLX := Lib.hid HTX.out.len
      have HXOX := Lib.hid (show ∀ u ∈ X, u.oneCell' = true from fun u hu => (Array.all_eq_true_iff_forall_mem.1 HTX.out.one) u (by simpa using hu))
      clear HTX
      clear hX
      obtain ⟨Ao, co, hao, _⟩ := own_len HO.out
      subst hao
      have hsz : w8.heap.size ≤ wr.heap.size := HK.out.size
      go_wp2_with (first
          | (with_reducible refine wpList_load_mid rfl _ _ rfl g (o + j * 10) rfl X _ HRX.out Tryz.underlying32 rfl HILX.out ?_)
          | (with_reducible refine wpList_build1 rfl 37 _ rfl 32 _ 10 88 Tryz.underlying37 infoCl (by omega) (by omega) (.agg X.toArray) rfl X rfl HXLX.out ?_)
          | (at_builtin; go_must (refine wpList_app1 _ rfl _ _ 37 rfl w8.heap.size 32 _ 10 88 Tryz.underlying37 infoCl rfl (by omega) _ m.length (cL m) rfl (HO.out.alloc _) _ _ X rfl (Bk.new' rfl rfl) HXLX.out HXOX.out (by omega) (by omega) (by simp; omega) ?_); intro g9 c9 w9 hown9 hk9 hat9))
      have HO5 := Lib.hid hown9; have HK5 := Lib.hid hk9
      clear hown9 hk9 hat9
      go_roundw
      case rel =>
        refine ⟨j + 1, by have := HMS.out; omega, by go_num, ?_, (HK.out.alloc _).then_ HK5.out fun i hi e => by have := (HO.out.lt i e).1; omega⟩
        rw [HSN.out, cL_append, List.length_append, HXCX.out]
        exact HO5.out
      case measure => have := HMS.out; simp [Go.RowKit.intOf]; omega
    · have hk1 : ¬ (j : Int) < (LL : Int) := by have := HLL.out; omega
      have hjl : j = c.opn.length := by omega
      rw [hjl, List.take_length] at HO
      have hml : c.opn.length ≤ 4 := HC.out.len
      clear hlt
      obtain ⟨m, hm⟩ : ∃ m, m = c.opn := ⟨_, rfl⟩
      rw [← hm] at HO hml
      have HM := Lib.hid hm
      clear hm
      have HRD := Lib.hid (HD8.out.no HK.out).all_
      obtain ⟨Ao, co, hao, _⟩ := own_len HO.out
      subst hao
      have hsz : w8.heap.size ≤ wr.heap.size := HK.out.size
      go_upto_region 22 with (first
          | (with_reducible refine wpList_load_mid rfl _ _ rfl (W.heap.size + 1) 0 rfl D _ HRD.out Tryz.underlying32 rfl HILD.out ?_)
          | (with_reducible refine wpList_build1 rfl 37 _ rfl 32 _ 10 88 Tryz.underlying37 infoCl (by omega) (by omega) (.agg D.toArray) rfl D rfl HXLD.out ?_)
          | (at_builtin; go_must (refine wpList_app1 _ rfl _ _ 37 rfl w8.heap.size 32 _ 10 88 Tryz.underlying37 infoCl rfl (by omega) _ m.length (cL m) rfl (HO.out.alloc _) _ _ D rfl (Bk.new' rfl rfl) HXLD.out HXOD.out (by omega) (by omega) (by simp; omega) ?_); intro g9 c9 w9 hown9 hk9 hat9))
      have HB9 := Lib.hid ((HB8.out.no (HK.out.alloc (.cells D.toArray 32))).kp hk9 (fun e => by have := (HO.out.lt _ e).1; omega))
      have HD9 := Lib.hid ((HD8.out.no (HK.out.alloc (.cells D.toArray 32))).kp hk9 (fun e => by have := (HO.out.lt _ e).1; omega))
      have HZ9 := Lib.hid ((HZ8.out.no (HK.out.alloc (.cells D.toArray 32))).kp hk9 (fun e => by have := (HO.out.lt _ e).1; omega))
      have HO9 := Lib.hid hown9
      have HK9 := Lib.hid ((HK8.out.trans (HK.out.alloc (.cells D.toArray 32))).then_ (M := No) hk9 fun i hi e => by have := (HO.out.lt i e).1; omega)
      clear hown9 hk9 hat9 y2
      have HN0 := Lib.hid (show ¬ One (W.heap.size + 2) W.heap.size from fun e => by have e : W.heap.size = W.heap.size + 2 := e; omega)
      have HN1 := Lib.hid (show ¬ One (W.heap.size + 2) (W.heap.size + 1) from fun e => by have e : W.heap.size + 1 = W.heap.size + 2 := e; omega)
      have HD0 := Lib.hid (show D[0]? = some (.int .i64 N) by rw [HN.out]; exact HD0'.out)
      obtain ⟨boot, hboot⟩ : ∃ boot, boot = c.boot := ⟨_, rfl⟩
      rw [← hboot] at HB9
      obtain ⟨F, hFd⟩ : ∃ F, F = rC boot (N + 1) (.slice (some ⟨g9, 0, none⟩) (m.length + 1) c9) := ⟨_, rfl⟩
      have HF3 := Lib.hid (show Thr F by rw [hFd]; exact Thr.of _ _ _ _ _)
      have HFI := Lib.hid HF3.out.info; have HFO := Lib.hid HF3.out.one; have HFL := Lib.hid HF3.out.infoL
      have HFV := Lib.hid (show (.agg #[.int .i64 boot, .int .i64 (N + 1), .slice (some ⟨g9, 0, none⟩) (m.length + 1) c9] : Value) = .agg F.toArray by rw [hFd]; rfl)
      have HFF2 := Lib.hid hFd; have HBT := Lib.hid hboot
      clear hFd hboot
      have k9 : Kp (One (W.heap.size + 2)) w9 (w9.drew.setCells (W.heap.size + 2) 0 F) := ((Kp.refl (One (W.heap.size + 2)) w9).drew).sets F 0 (.inl rfl)
      have hF := (Kp.refl (One (W.heap.size + 2)) w9).drew
      have hwN : IntKind.i64.wrap (N + 1) = N + 1 := by rw [IntKind.wrap_i64]; omega
      refine rg_begin (fun W2 => Kp (One (W.heap.size + 2)) w9 W2) 12 (by kernel_rfl) ?_
      refine rg_take (i := 0) (v := ?vz0) (by simp only [List.getElem?_toArray, List.getElem?_cons_zero]; rfl) (by kernel_rfl) (by exact fun _ _ _ h => h) (by rfl) ?rz0 hF ?sz0
      case rz0 => (intro W hW; clear hW; go_simp; try with_reducible rfl)
      try simp only [Act.put, List.setIfInBounds_toArray, List.set_cons_zero, List.set_cons_succ]
      refine rg_take (i := 1) (v := ?vz1) (by simp only [List.getElem?_toArray, List.getElem?_cons_succ, List.getElem?_cons_zero]; rfl) (by kernel_rfl) (by exact fun _ _ _ h => h) (by rfl) ?rz1 hF ?sz1
      case rz1 => (intro W9 hW; have z : W9.cell? ⟨W.heap.size, 0, none⟩ = some (.int .i64 boot) := (HB9.out.kp hW HN0.out).cell 0; clear hW; go_simp; try with_reducible rfl)
      try simp only [Act.put, List.setIfInBounds_toArray, List.set_cons_zero, List.set_cons_succ]
      refine rg_take (i := 2) (v := ?vz2) (by simp only [List.getElem?_toArray, List.getElem?_cons_succ, List.getElem?_cons_zero]; rfl) (by kernel_rfl) (by exact fun _ _ _ h => h) (by rfl) ?rz2 hF ?sz2
      case rz2 => (intro W hW; clear hW; go_simp; try with_reducible rfl)
      try simp only [Act.put, List.setIfInBounds_toArray, List.set_cons_zero, List.set_cons_succ]
      refine rg_take (i := 3) (v := ?vz3) (by simp only [List.getElem?_toArray, List.getElem?_cons_succ, List.getElem?_cons_zero]; rfl) (by kernel_rfl) (by exact fun _ _ _ h => h) (by rfl) ?rz3 hF ?sz3
      case rz3 => (intro W9 hW; have z : W9.cell? ⟨W.heap.size, 1, none⟩ = some (.int .i64 N) := (HB9.out.kp hW HN0.out).cell 1; clear hW; go_simp; try with_reducible rfl)
      try simp only [Act.put, List.setIfInBounds_toArray, List.set_cons_zero, List.set_cons_succ]
      refine rg_take (i := 4) (v := ?vz4) (by simp only [List.getElem?_toArray, List.getElem?_cons_succ, List.getElem?_cons_zero]; rfl) (by kernel_rfl) (by exact fun _ _ _ h => h) (by rfl) ?rz4 hF ?sz4
      case rz4 => (intro W hW; clear hW; go_simp; try with_reducible rfl)
      try simp only [Act.put, List.setIfInBounds_toArray, List.set_cons_zero, List.set_cons_succ]
      refine rg_take (i := 5) (v := ?vz5) (by simp only [List.getElem?_toArray, List.getElem?_cons_succ, List.getElem?_cons_zero]; rfl) (by kernel_rfl) (by exact fun _ _ _ h => h) (by rfl) ?rz5 hF ?sz5
      case rz5 => (intro W hW; clear hW; go_simp; try with_reducible rfl)
      try simp only [Act.put, List.setIfInBounds_toArray, List.set_cons_zero, List.set_cons_succ]
      refine rg_take (i := 6) (v := ?vz6) (by simp only [List.getElem?_toArray, List.getElem?_cons_succ, List.getElem?_cons_zero]; rfl) (by kernel_rfl) (by exact fun _ _ _ h => h) (by rfl) ?rz6 hF ?sz6
      case rz6 => (intro W hW; clear hW; go_simp; try with_reducible rfl)
      try simp only [Act.put, List.setIfInBounds_toArray, List.set_cons_zero, List.set_cons_succ]
      refine rg_take (i := 7) (v := ?vz7) (by simp only [List.getElem?_toArray, List.getElem?_cons_succ, List.getElem?_cons_zero]; rfl) (by kernel_rfl) (by exact fun _ _ _ h => h) (by rfl) ?rz7 hF ?sz7
      case rz7 => (intro W hW; clear hW; go_simp; try with_reducible rfl)
      try simp only [Act.put, List.setIfInBounds_toArray, List.set_cons_zero, List.set_cons_succ]
      refine rg_take (i := 8) (v := ?vz8) (by simp only [List.getElem?_toArray, List.getElem?_cons_succ, List.getElem?_cons_zero]; rfl) (by kernel_rfl) (by exact fun _ _ _ h => h) (by rfl) ?rz8 hF ?sz8
      case rz8 => (intro W9 hW; have z : W9.cell? ⟨W.heap.size + 1, 0, none⟩ = some (.int .i64 N) := ((HD9.out.kp hW HN1.out).cell 0).trans HD0.out; clear hW; go_simp; try with_reducible rfl)
      try simp only [Act.put, List.setIfInBounds_toArray, List.set_cons_zero, List.set_cons_succ]
      refine rg_one (i := 9) (oi := ?oz9) ?az9 ?bz9 ?cz9 ?dz9
      case az9 => (simp only [List.getElem?_toArray, List.getElem?_cons_succ, List.getElem?_cons_zero]; rfl)
      case bz9 => kernel_rfl
      case cz9 => rfl
      intro K hK
      (refine wp_store_mid _ _ _ rfl (W.heap.size + 2) 0 F.toArray rfl HFV.out (HZ9.out.drew.there3 rfl HF3.out) HFI.out HFO.out ?_)
      refine rg_use hK (k9) (fun hF => ?_)
      clear hK K
      try simp only [Act.put]
      refine rg_take (i := 10) (v := ?vz10) (by simp only [List.getElem?_toArray, List.getElem?_cons_succ, List.getElem?_cons_zero]; rfl) (by kernel_rfl) (by exact fun _ _ _ h => h) (by rfl) ?rz10 hF ?sz10
      case rz10 => (intro W hW; clear hW; go_simp; try with_reducible rfl)
      try simp only [Act.put, List.setIfInBounds_toArray, List.set_cons_zero, List.set_cons_succ]
      refine rg_take (i := 11) (v := ?vz11) (by simp only [List.getElem?_toArray, List.getElem?_cons_succ, List.getElem?_cons_zero]; rfl) (by kernel_rfl) (by exact fun _ _ _ h => h) (by rfl) ?rz11 hF ?sz11
      case rz11 => (intro W hW; clear hW; go_simp; try with_reducible rfl)
      try simp only [Act.put, List.setIfInBounds_toArray, List.set_cons_zero, List.set_cons_succ]
      refine rg_done (by kernel_rfl) ?_
      have HZf := Lib.hid (HZ9.out.drew.put (C := F) (by rw [HF3.out.len]; rfl))
      have HQF := Lib.hid (show Q (.returned (.tuple #[.agg F.toArray, .int .i64 N, .int .i64 0])) (w9.drew.setCells (W.heap.size + 2) 0 F) by
        have hkk : Kp No W (w9.drew.setCells (W.heap.size + 2) 0 F) := HK9.out.then_ k9 fun i hi e => by have e : i = W.heap.size + 2 := e; omega
        have h := HG.out (.slice (some ⟨g9, 0, none⟩) (m.length + 1) c9) _ HS.out (own_argC (n := m.length + 1) (by
          rw [cL_append, HXCD.out, ← HM.out]
          exact own_kp HO9.out k9 fun g e q => by
            have e1 : g = W.heap.size + 2 := q
            have := (HO9.out.lt g e).1; omega) (by rw [List.length_append, ← HM.out]; rfl)) hkk
        rw [← HN.out, ← HBT.out, ← HFF2.out] at h
        exact h)
      clear k9
      go_wp2
      exact bodyPost_ret (res_ctt (s := 6) (u := 7) (v := 8) rfl _ _ rfl HZf.out.all_ Tryz.underlying39 rfl HFL.out) rfl HQF.out
end Go.Proofs.YtkiaclldjofdoaaGreat
