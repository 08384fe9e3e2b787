/- Several texts of this claim in one. No condition beyond what each theorem states. -/
import Derived.Test.YtbnpdghfbiacaaaGreatB39
import Derived.Test.YtbnpdghfbiacaaaGreatB07
/- The document's fields by contract, by ways. No condition beyond what each theorem states. -/
namespace Go.Proofs.YtbnpdghfbiacaaaGreat
open Go Go.RowKit Go.PlainAid

set_option maxRecDepth 100000 in
set_option maxHeartbeats 8000000 in
theorem fld_ask4 (f t : Int) (s : Rd) (n3 : Nat) (s0 : Rd) (n4 : Nat) (s1 : Rd) (n5 : Nat) (s2 : Rd) (n6 : Nat) (s3 : Rd) (e0 : rdNum s = (n3, s0)) (e1 : rdNum s0 = (n4, s1)) (e2 : rdNum s1 = (n5, s2)) (e3 : rdNum s2 = (n6, s3)) (q1 : n6 ≠ 1) (q2 : n6 ≠ 2) (q3 : n6 ≠ 3) (b B : Nat) (W : World) (h : TkS W b B s) (hB : B ≤ b) (hm : s.1.length ≤ 1000) :
    Calls Tryz.prog 39 #[.pointer (some ⟨b, 0, none⟩), .agg (mcells (⟨1, f, t, 0, 0, 0, 0, [], 0, 0, 0, false, 0, [], 0, 0⟩ : Msg) (.slice none 0 0)).toArray] W fun e w' => ∃ sv, e = .returned (.agg (mcells (⟨1, f, t, (n3 : Int), (n4 : Int), (n5 : Int), (n6 : Int), [], 0, 0, 0, false, 0, [], 0, 0⟩ : Msg) sv).toArray) ∧ w'.ownsRow W.heap.size 3 1 sv (⟨1, f, t, (n3 : Int), (n4 : Int), (n5 : Int), (n6 : Int), [], 0, 0, 0, false, 0, [], 0, 0⟩ : Msg).stamp.length (ints (⟨1, f, t, (n3 : Int), (n4 : Int), (n5 : Int), (n6 : Int), [], 0, 0, 0, false, 0, [], 0, 0⟩ : Msg).stamp) ∧ Kp (One b) W w' := by
  have d1 : ((n6 : Int) == 1) = false := by rw [beq_eq_false_iff_ne]; omega
  have d2 : ((n6 : Int) == 2) = false := by rw [beq_eq_false_iff_ne]; omega
  have d3 : ((n6 : Int) == 3) = false := by rw [beq_eq_false_iff_ne]; omega
  clear q1 q2 q3
  have hbl := h.lt
  have hnb : ¬ One b W.heap.size := fun e => by
    have e : W.heap.size = b := e
    omega
  have hnr : ¬ One b (W.heap.size + 1) := fun e => by
    have e : W.heap.size + 1 = b := e
    omega
  have hgb : ¬ One W.heap.size b := fun e => by
    have e : b = W.heap.size := e
    omega
  have hgr : ¬ One W.heap.size (W.heap.size + 1) := fun e => by
    have e : W.heap.size + 1 = W.heap.size := e
    omega
  have hgB : ∀ g, One W.heap.size g → B ≤ g := fun g e => by
    have e : g = W.heap.size := e
    omega
  have HB := Lib.hid (show Bk ((W.alloc (.cells (mcells (⟨1, f, t, 0, 0, 0, 0, [], 0, 0, 0, false, 0, [], 0, 0⟩ : Msg) (.slice none 0 0)).toArray 28)).alloc (.cells (mcells {} (.slice none 0 0)).toArray 28)) W.heap.size 28 (mcells (⟨1, f, t, 0, 0, 0, 0, [], 0, 0, 0, false, 0, [], 0, 0⟩ : Msg) (.slice none 0 0)) from (Bk.new' rfl rfl).alloc _)
  have HR := Lib.hid (show Bk ((W.alloc (.cells (mcells (⟨1, f, t, 0, 0, 0, 0, [], 0, 0, 0, false, 0, [], 0, 0⟩ : Msg) (.slice none 0 0)).toArray 28)).alloc (.cells (mcells {} (.slice none 0 0)).toArray 28)) (W.heap.size + 1) 28 (mcells {} (.slice none 0 0)) from Bk.new' (by simp) rfl)
  have HK := Lib.hid (show Kp (One b) W ((W.alloc (.cells (mcells (⟨1, f, t, 0, 0, 0, 0, [], 0, 0, 0, false, 0, [], 0, 0⟩ : Msg) (.slice none 0 0)).toArray 28)).alloc (.cells (mcells {} (.slice none 0 0)).toArray 28)) from ((Kp.refl _ _).alloc _).alloc _)
  have HT := Lib.hid (show TkS ((W.alloc (.cells (mcells (⟨1, f, t, 0, 0, 0, 0, [], 0, 0, 0, false, 0, [], 0, 0⟩ : Msg) (.slice none 0 0)).toArray 28)).alloc (.cells (mcells {} (.slice none 0 0)).toArray 28)) b B s from h.no (((Kp.refl No _).alloc _).alloc _))
  clear h
  have hs0 : s.1.length ≤ 1000 := hm
  clear hm
  have pn := tnum_any b B s ((W.alloc (.cells (mcells (⟨1, f, t, 0, 0, 0, 0, [], 0, 0, 0, false, 0, [], 0, 0⟩ : Msg) (.slice none 0 0)).toArray 28)).alloc (.cells (mcells {} (.slice none 0 0)).toArray 28)) HT.out hB (by unfold maxLen; omega)
  have hs1 : s0.1.length ≤ 1000 := by have := rdNum_le s; rw [e0] at this; simp only at this; omega
  rw [e0] at pn
  simp only at pn
  simp only [mcells] at pn
  simp only [mcells]
  go_enter Tryz.func39, Tryz.ntmps39
  go_wp2_with fail
  refine pn.mono ?_
  rintro e w0 ⟨rfl, t0, k0⟩
  have HB := Lib.hid (HB.out.kp k0 hnb); have HR := Lib.hid (HR.out.kp k0 hnr); have HK := Lib.hid (HK.out.then_ k0 fun _ _ m => m); have HT := Lib.hid t0
  clear t0 k0 pn
  have zc : w0.cell? ⟨W.heap.size, 3, none⟩ = some (.int .i64 (0 : Int)) := HB.out.cell 3
  have yf := HB.out.frozen
  have HB := Lib.hid (show Bk (w0.setCell ⟨W.heap.size, 3, none⟩ (.int .i64 (n3 : Int))) W.heap.size 28 (mcells (⟨1, f, t, (n3 : Int), 0, 0, 0, [], 0, 0, 0, false, 0, [], 0, 0⟩ : Msg) (.slice none 0 0)) from HB.out.set_ 3 _)
  have HR := Lib.hid (HR.out.kp ((Kp.refl (One W.heap.size) w0).set (.inl rfl) 3 (.int .i64 (n3 : Int))) fun e => hgr e)
  have HK := Lib.hid (HK.out.set (.inr (Nat.le_refl _)) 3 (.int .i64 (n3 : Int)))
  have HT := Lib.hid (HT.out.kp ((Kp.refl (One W.heap.size) w0).set (.inl rfl) 3 (.int .i64 (n3 : Int))) hgb hgB)
  have pn := tnum_any b B s0 (w0.setCell ⟨W.heap.size, 3, none⟩ (.int .i64 (n3 : Int))) HT.out hB (by unfold maxLen; omega)
  have hs2 : s1.1.length ≤ 1000 := by have := rdNum_le s0; rw [e1] at this; simp only at this; omega
  rw [e1] at pn
  simp only at pn
  go_wp2_with fail
  refine pn.mono ?_
  rintro e w1 ⟨rfl, t1, k1⟩
  have HB := Lib.hid (HB.out.kp k1 hnb); have HR := Lib.hid (HR.out.kp k1 hnr); have HK := Lib.hid (HK.out.then_ k1 fun _ _ m => m); have HT := Lib.hid t1
  clear t1 k1 pn zc yf
  have zc : w1.cell? ⟨W.heap.size, 4, none⟩ = some (.int .i64 (0 : Int)) := HB.out.cell 4
  have yf := HB.out.frozen
  have HB := Lib.hid (show Bk (w1.setCell ⟨W.heap.size, 4, none⟩ (.int .i64 (n4 : Int))) W.heap.size 28 (mcells (⟨1, f, t, (n3 : Int), (n4 : Int), 0, 0, [], 0, 0, 0, false, 0, [], 0, 0⟩ : Msg) (.slice none 0 0)) from HB.out.set_ 4 _)
  have HR := Lib.hid (HR.out.kp ((Kp.refl (One W.heap.size) w1).set (.inl rfl) 4 (.int .i64 (n4 : Int))) fun e => hgr e)
  have HK := Lib.hid (HK.out.set (.inr (Nat.le_refl _)) 4 (.int .i64 (n4 : Int)))
  have HT := Lib.hid (HT.out.kp ((Kp.refl (One W.heap.size) w1).set (.inl rfl) 4 (.int .i64 (n4 : Int))) hgb hgB)
  have pn := tnum_any b B s1 (w1.setCell ⟨W.heap.size, 4, none⟩ (.int .i64 (n4 : Int))) HT.out hB (by unfold maxLen; omega)
  have hs3 : s2.1.length ≤ 1000 := by have := rdNum_le s1; rw [e2] at this; simp only at this; omega
  rw [e2] at pn
  simp only at pn
  go_wp2_with fail
  refine pn.mono ?_
  rintro e w2 ⟨rfl, t2, k2⟩
  have HB := Lib.hid (HB.out.kp k2 hnb); have HR := Lib.hid (HR.out.kp k2 hnr); have HK := Lib.hid (HK.out.then_ k2 fun _ _ m => m); have HT := Lib.hid t2
  clear t2 k2 pn zc yf
  have zc : w2.cell? ⟨W.heap.size, 5, none⟩ = some (.int .i64 (0 : Int)) := HB.out.cell 5
  have yf := HB.out.frozen
  have HB := Lib.hid (show Bk (w2.setCell ⟨W.heap.size, 5, none⟩ (.int .i64 (n5 : Int))) W.heap.size 28 (mcells (⟨1, f, t, (n3 : Int), (n4 : Int), (n5 : Int), 0, [], 0, 0, 0, false, 0, [], 0, 0⟩ : Msg) (.slice none 0 0)) from HB.out.set_ 5 _)
  have HR := Lib.hid (HR.out.kp ((Kp.refl (One W.heap.size) w2).set (.inl rfl) 5 (.int .i64 (n5 : Int))) fun e => hgr e)
  have HK := Lib.hid (HK.out.set (.inr (Nat.le_refl _)) 5 (.int .i64 (n5 : Int)))
  have HT := Lib.hid (HT.out.kp ((Kp.refl (One W.heap.size) w2).set (.inl rfl) 5 (.int .i64 (n5 : Int))) hgb hgB)
  have pn := tnum_any b B s2 (w2.setCell ⟨W.heap.size, 5, none⟩ (.int .i64 (n5 : Int))) HT.out hB (by unfold maxLen; omega)
  have hs4 : s3.1.length ≤ 1000 := by have := rdNum_le s2; rw [e3] at this; simp only at this; omega
  rw [e3] at pn
  simp only at pn
  go_wp2_with fail
  refine pn.mono ?_
  rintro e w3 ⟨rfl, t3, k3⟩
  have HB := Lib.hid (HB.out.kp k3 hnb); have HR := Lib.hid (HR.out.kp k3 hnr); have HK := Lib.hid (HK.out.then_ k3 fun _ _ m => m); have HT := Lib.hid t3
  clear t3 k3 pn zc yf
  have zc : w3.cell? ⟨W.heap.size, 6, none⟩ = some (.int .i64 (0 : Int)) := HB.out.cell 6
  have yf := HB.out.frozen
  have HB := Lib.hid (show Bk (w3.setCell ⟨W.heap.size, 6, none⟩ (.int .i64 (n6 : Int))) W.heap.size 28 (mcells (⟨1, f, t, (n3 : Int), (n4 : Int), (n5 : Int), (n6 : Int), [], 0, 0, 0, false, 0, [], 0, 0⟩ : Msg) (.slice none 0 0)) from HB.out.set_ 6 _)
  have HR := Lib.hid (HR.out.kp ((Kp.refl (One W.heap.size) w3).set (.inl rfl) 6 (.int .i64 (n6 : Int))) fun e => hgr e)
  have HK := Lib.hid (HK.out.set (.inr (Nat.le_refl _)) 6 (.int .i64 (n6 : Int)))
  have HT := Lib.hid (HT.out.kp ((Kp.refl (One W.heap.size) w3).set (.inl rfl) 6 (.int .i64 (n6 : Int))) hgb hgB)
  go_upto_region 40 with (fail)
  clear zc yf
  have hst : Hid (mcells (⟨1, f, t, (n3 : Int), (n4 : Int), (n5 : Int), (n6 : Int), [], 0, 0, 0, false, 0, [], 0, 0⟩ : Msg) (.slice none 0 0) = mcells (⟨1, f, t, (n3 : Int), (n4 : Int), (n5 : Int), (n6 : Int), [], 0, 0, 0, false, 0, [], 0, 0⟩ : Msg) (.slice none 0 0)) := Lib.hid rfl
  have HO9 : Hid (∀ W9 : World, Kp (One (W.heap.size + 1)) (w3.setCell ⟨W.heap.size, 6, none⟩ (.int .i64 (n6 : Int))) W9 → W9.ownsRow W.heap.size 3 1 (.slice none 0 0) (⟨1, f, t, (n3 : Int), (n4 : Int), (n5 : Int), (n6 : Int), [], 0, 0, 0, false, 0, [], 0, 0⟩ : Msg).stamp.length (ints (⟨1, f, t, (n3 : Int), (n4 : Int), (n5 : Int), (n6 : Int), [], 0, 0, 0, false, 0, [], 0, 0⟩ : Msg).stamp)) := Lib.hid (fun _ _ => nil_own _ _ _ _)
  have HP : Hid (∀ W9 : World, W9.ownsRow W.heap.size 3 1 (.slice none 0 0) (⟨1, f, t, (n3 : Int), (n4 : Int), (n5 : Int), (n6 : Int), [], 0, 0, 0, false, 0, [], 0, 0⟩ : Msg).stamp.length (ints (⟨1, f, t, (n3 : Int), (n4 : Int), (n5 : Int), (n6 : Int), [], 0, 0, 0, false, 0, [], 0, 0⟩ : Msg).stamp) → Kp (One b) W W9 → ∃ sv, Ending.returned (.agg (mcells (⟨1, f, t, (n3 : Int), (n4 : Int), (n5 : Int), (n6 : Int), [], 0, 0, 0, false, 0, [], 0, 0⟩ : Msg) (.slice none 0 0)).toArray) = .returned (.agg (mcells (⟨1, f, t, (n3 : Int), (n4 : Int), (n5 : Int), (n6 : Int), [], 0, 0, 0, false, 0, [], 0, 0⟩ : Msg) sv).toArray) ∧ W9.ownsRow W.heap.size 3 1 sv (⟨1, f, t, (n3 : Int), (n4 : Int), (n5 : Int), (n6 : Int), [], 0, 0, 0, false, 0, [], 0, 0⟩ : Msg).stamp.length (ints (⟨1, f, t, (n3 : Int), (n4 : Int), (n5 : Int), (n6 : Int), [], 0, 0, 0, false, 0, [], 0, 0⟩ : Msg).stamp) ∧ Kp (One b) W W9) := Lib.hid fun W9 o k => ⟨_, rfl, o, k⟩
  have HBM := Lib.hid (show Bk (w3.setCell ⟨W.heap.size, 6, none⟩ (.int .i64 (n6 : Int))) W.heap.size 28 (mcells (⟨1, f, t, (n3 : Int), (n4 : Int), (n5 : Int), (n6 : Int), [], 0, 0, 0, false, 0, [], 0, 0⟩ : Msg) (.slice none 0 0)) from HB.out)
  have HRM := Lib.hid HR.out; have HKM := Lib.hid HK.out
  clear HB HR HK HT hst
  generalize hwz : (w3.setCell ⟨W.heap.size, 6, none⟩ (.int .i64 (n6 : Int))) = wz at *
  clear hwz
  have hu := Tryz.underlying28
  have hi1 : Hid ((Tryz.prog.info? 28).map (·.size) = some (mcells (⟨1, f, t, (n3 : Int), (n4 : Int), (n5 : Int), (n6 : Int), [], 0, 0, 0, false, 0, [], 0, 0⟩ : Msg) (.slice none 0 0)).length) := Lib.hid (by kernel_rfl)
  have hi2 : Hid ((Tryz.prog.info? 28).map (·.size) = some (mcells (⟨1, f, t, (n3 : Int), (n4 : Int), (n5 : Int), (n6 : Int), [], 0, 0, 0, false, 0, [], 0, 0⟩ : Msg) (.slice none 0 0)).toArray.size) := Lib.hid (by kernel_rfl)
  have h1c : Hid ((mcells (⟨1, f, t, (n3 : Int), (n4 : Int), (n5 : Int), (n6 : Int), [], 0, 0, 0, false, 0, [], 0, 0⟩ : Msg) (.slice none 0 0)).toArray.all (·.oneCell') = true) := Lib.hid (by simp [mcells, Value.oneCell'])
  have HUH := Lib.hid hu; clear hu
  have HTH := Lib.hid (show wz.there (W.heap.size + 1) 0 (mcells (⟨1, f, t, (n3 : Int), (n4 : Int), (n5 : Int), (n6 : Int), [], 0, 0, 0, false, 0, [], 0, 0⟩ : Msg) (.slice none 0 0)).toArray.size from HRM.out.there 0 16 (by simp [mcells]))
  have HRG := Lib.hid (range_of HBM.out)
  have HBS := Lib.hid (show Bk (wz.setCells (W.heap.size + 1) 0 (mcells (⟨1, f, t, (n3 : Int), (n4 : Int), (n5 : Int), (n6 : Int), [], 0, 0, 0, false, 0, [], 0, 0⟩ : Msg) (.slice none 0 0))) (W.heap.size + 1) 28 (mcells (⟨1, f, t, (n3 : Int), (n4 : Int), (n5 : Int), (n6 : Int), [], 0, 0, 0, false, 0, [], 0, 0⟩ : Msg) (.slice none 0 0)) from by
    have := Bk.sets (mcells (⟨1, f, t, (n3 : Int), (n4 : Int), (n5 : Int), (n6 : Int), [], 0, 0, 0, false, 0, [], 0, 0⟩ : Msg) (.slice none 0 0)) 0 HRM.out (by simp [mcells])
    simpa [mcells] using this)
  have HKN := Lib.hid (show Kp (One b) W (wz.setCells (W.heap.size + 1) 0 (mcells (⟨1, f, t, (n3 : Int), (n4 : Int), (n5 : Int), (n6 : Int), [], 0, 0, 0, false, 0, [], 0, 0⟩ : Msg) (.slice none 0 0))) from Kp.sets _ 0 HKM.out (.inr (by omega)))
  have HOX := Lib.hid (HO9.out _ (show Kp (One (W.heap.size + 1)) wz (wz.setCells (W.heap.size + 1) 0 (mcells (⟨1, f, t, (n3 : Int), (n4 : Int), (n5 : Int), (n6 : Int), [], 0, 0, 0, false, 0, [], 0, 0⟩ : Msg) (.slice none 0 0))) from Kp.sets _ 0 (Kp.refl _ _) (.inl rfl)))
  have hfin := HP.out _ HOX.out HKN.out
  clear HO9 HOX HKN HP HRM HBM HKM
  have HFIN := Lib.hid hfin; clear hfin
  generalize hcs : mcells (⟨1, f, t, (n3 : Int), (n4 : Int), (n5 : Int), (n6 : Int), [], 0, 0, 0, false, 0, [], 0, 0⟩ : Msg) (.slice none 0 0) = cs at *
  have HCS := Lib.hid hcs; clear hcs
  go_wp2_with (first
    | (refine wpList_load_mid rfl _ _ rfl W.heap.size 0 rfl cs _ HRG.out HUH.out rfl hi1.out ?_)
    | (refine wpList_store_mid rfl _ _ _ rfl (W.heap.size + 1) 0 cs.toArray rfl rfl HTH.out hi2.out h1c.out ?_))
  have B9 := HBS.out
  have hfin := HFIN.out
  clear HBS HFIN
  generalize wz.setCells (W.heap.size + 1) 0 cs = w9 at *
  rw [← HCS.out] at B9 hfin
  clear HRG HTH h1c hi1 hi2 HUH HCS
  have x0 := B9.cell 0
  have x1 := B9.cell 1
  have x2 := B9.cell 2
  have x3 := B9.cell 3
  have x4 := B9.cell 4
  have x5 := B9.cell 5
  have x6 := B9.cell 6
  have x7 := B9.cell 7
  have x8 := B9.cell 8
  have x9 := B9.cell 9
  have x10 := B9.cell 10
  have x11 := B9.cell 11
  have x12 := B9.cell 12
  have x13 := B9.cell 13
  have x14 := B9.cell 14
  have x15 := B9.cell 15
  simp only [mcells, List.getElem?_cons_zero, List.getElem?_cons_succ] at x0 x1 x2 x3 x4 x5 x6 x7 x8 x9 x10 x11 x12 x13 x14 x15
  clear B9
  refine bodyPost_ret (v := .agg (mcells (⟨1, f, t, (n3 : Int), (n4 : Int), (n5 : Int), (n6 : Int), [], 0, 0, 0, false, 0, [], 0, 0⟩ : Msg) (.slice none 0 0)).toArray) (by simp [results, Tryz.results39, go_sem, x0, x1, x2, x3, x4, x5, x6, x7, x8, x9, x10, x11, x12, x13, x14, x15, mcells]) rfl ?_
  exact hfin
end Go.Proofs.YtbnpdghfbiacaaaGreat

/- The document's fields by contract, by ways. No condition beyond what each theorem states. -/
namespace Go.Proofs.YtbnpdghfbiacaaaGreat
open Go Go.RowKit Go.PlainAid

set_option maxRecDepth 100000 in
set_option maxHeartbeats 8000000 in
theorem fld_rep0 (f t : Int) (s : Rd) (n3 : Nat) (s0 : Rd) (n4 : Nat) (s1 : Rd) (s2 : Rd) (n10 : Nat) (s3 : Rd) (n9 : Nat) (s4 : Rd) (e0 : rdNum s = (n3, s0)) (e1 : rdNum s0 = (n4, s1)) (e2 : rdNum s1 = (0, s2)) (e3 : rdNum s2 = (n10, s3)) (e4 : rdNum s3 = (n9, s4)) (b B : Nat) (W : World) (h : TkS W b B s) (hB : B ≤ b) (hm : s.1.length ≤ 1000) :
    Calls Tryz.prog 39 #[.pointer (some ⟨b, 0, none⟩), .agg (mcells (⟨2, f, t, 0, 0, 0, 0, [], 0, 0, 0, false, 0, [], 0, 0⟩ : Msg) (.slice none 0 0)).toArray] W fun e w' => ∃ sv, e = .returned (.agg (mcells (⟨2, f, t, (n3 : Int), (n4 : Int), 0, 0, [], 0, (n9 : Int), (n10 : Int), false, 0, cntsI s4, 0, 0⟩ : Msg) sv).toArray) ∧ w'.ownsRow W.heap.size 3 1 sv (⟨2, f, t, (n3 : Int), (n4 : Int), 0, 0, [], 0, (n9 : Int), (n10 : Int), false, 0, cntsI s4, 0, 0⟩ : Msg).stamp.length (ints (⟨2, f, t, (n3 : Int), (n4 : Int), 0, 0, [], 0, (n9 : Int), (n10 : Int), false, 0, cntsI s4, 0, 0⟩ : Msg).stamp) ∧ Kp (One b) W w' := by
  have hbl := h.lt
  have hnb : ¬ One b W.heap.size := fun e => by
    have e : W.heap.size = b := e
    omega
  have hnr : ¬ One b (W.heap.size + 1) := fun e => by
    have e : W.heap.size + 1 = b := e
    omega
  have hgb : ¬ One W.heap.size b := fun e => by
    have e : b = W.heap.size := e
    omega
  have hgr : ¬ One W.heap.size (W.heap.size + 1) := fun e => by
    have e : W.heap.size + 1 = W.heap.size := e
    omega
  have hgB : ∀ g, One W.heap.size g → B ≤ g := fun g e => by
    have e : g = W.heap.size := e
    omega
  have HB := Lib.hid (show Bk ((W.alloc (.cells (mcells (⟨2, f, t, 0, 0, 0, 0, [], 0, 0, 0, false, 0, [], 0, 0⟩ : Msg) (.slice none 0 0)).toArray 28)).alloc (.cells (mcells {} (.slice none 0 0)).toArray 28)) W.heap.size 28 (mcells (⟨2, f, t, 0, 0, 0, 0, [], 0, 0, 0, false, 0, [], 0, 0⟩ : Msg) (.slice none 0 0)) from (Bk.new' rfl rfl).alloc _)
  have HR := Lib.hid (show Bk ((W.alloc (.cells (mcells (⟨2, f, t, 0, 0, 0, 0, [], 0, 0, 0, false, 0, [], 0, 0⟩ : Msg) (.slice none 0 0)).toArray 28)).alloc (.cells (mcells {} (.slice none 0 0)).toArray 28)) (W.heap.size + 1) 28 (mcells {} (.slice none 0 0)) from Bk.new' (by simp) rfl)
  have HK := Lib.hid (show Kp (One b) W ((W.alloc (.cells (mcells (⟨2, f, t, 0, 0, 0, 0, [], 0, 0, 0, false, 0, [], 0, 0⟩ : Msg) (.slice none 0 0)).toArray 28)).alloc (.cells (mcells {} (.slice none 0 0)).toArray 28)) from ((Kp.refl _ _).alloc _).alloc _)
  have HT := Lib.hid (show TkS ((W.alloc (.cells (mcells (⟨2, f, t, 0, 0, 0, 0, [], 0, 0, 0, false, 0, [], 0, 0⟩ : Msg) (.slice none 0 0)).toArray 28)).alloc (.cells (mcells {} (.slice none 0 0)).toArray 28)) b B s from h.no (((Kp.refl No _).alloc _).alloc _))
  clear h
  have hs0 : s.1.length ≤ 1000 := hm
  clear hm
  have pn := tnum_any b B s ((W.alloc (.cells (mcells (⟨2, f, t, 0, 0, 0, 0, [], 0, 0, 0, false, 0, [], 0, 0⟩ : Msg) (.slice none 0 0)).toArray 28)).alloc (.cells (mcells {} (.slice none 0 0)).toArray 28)) HT.out hB (by unfold maxLen; omega)
  have hs1 : s0.1.length ≤ 1000 := by have := rdNum_le s; rw [e0] at this; simp only at this; omega
  rw [e0] at pn
  simp only at pn
  simp only [mcells] at pn
  simp only [mcells]
  go_enter Tryz.func39, Tryz.ntmps39
  go_wp2_with fail
  refine pn.mono ?_
  rintro e w0 ⟨rfl, t0, k0⟩
  have HB := Lib.hid (HB.out.kp k0 hnb); have HR := Lib.hid (HR.out.kp k0 hnr); have HK := Lib.hid (HK.out.then_ k0 fun _ _ m => m); have HT := Lib.hid t0
  clear t0 k0 pn
  have zc : w0.cell? ⟨W.heap.size, 3, none⟩ = some (.int .i64 (0 : Int)) := HB.out.cell 3
  have yf := HB.out.frozen
  have HB := Lib.hid (show Bk (w0.setCell ⟨W.heap.size, 3, none⟩ (.int .i64 (n3 : Int))) W.heap.size 28 (mcells (⟨2, f, t, (n3 : Int), 0, 0, 0, [], 0, 0, 0, false, 0, [], 0, 0⟩ : Msg) (.slice none 0 0)) from HB.out.set_ 3 _)
  have HR := Lib.hid (HR.out.kp ((Kp.refl (One W.heap.size) w0).set (.inl rfl) 3 (.int .i64 (n3 : Int))) fun e => hgr e)
  have HK := Lib.hid (HK.out.set (.inr (Nat.le_refl _)) 3 (.int .i64 (n3 : Int)))
  have HT := Lib.hid (HT.out.kp ((Kp.refl (One W.heap.size) w0).set (.inl rfl) 3 (.int .i64 (n3 : Int))) hgb hgB)
  have pn := tnum_any b B s0 (w0.setCell ⟨W.heap.size, 3, none⟩ (.int .i64 (n3 : Int))) HT.out hB (by unfold maxLen; omega)
  have hs2 : s1.1.length ≤ 1000 := by have := rdNum_le s0; rw [e1] at this; simp only at this; omega
  rw [e1] at pn
  simp only at pn
  go_wp2_with fail
  refine pn.mono ?_
  rintro e w1 ⟨rfl, t1, k1⟩
  have HB := Lib.hid (HB.out.kp k1 hnb); have HR := Lib.hid (HR.out.kp k1 hnr); have HK := Lib.hid (HK.out.then_ k1 fun _ _ m => m); have HT := Lib.hid t1
  clear t1 k1 pn zc yf
  have zc : w1.cell? ⟨W.heap.size, 4, none⟩ = some (.int .i64 (0 : Int)) := HB.out.cell 4
  have yf := HB.out.frozen
  have HB := Lib.hid (show Bk (w1.setCell ⟨W.heap.size, 4, none⟩ (.int .i64 (n4 : Int))) W.heap.size 28 (mcells (⟨2, f, t, (n3 : Int), (n4 : Int), 0, 0, [], 0, 0, 0, false, 0, [], 0, 0⟩ : Msg) (.slice none 0 0)) from HB.out.set_ 4 _)
  have HR := Lib.hid (HR.out.kp ((Kp.refl (One W.heap.size) w1).set (.inl rfl) 4 (.int .i64 (n4 : Int))) fun e => hgr e)
  have HK := Lib.hid (HK.out.set (.inr (Nat.le_refl _)) 4 (.int .i64 (n4 : Int)))
  have HT := Lib.hid (HT.out.kp ((Kp.refl (One W.heap.size) w1).set (.inl rfl) 4 (.int .i64 (n4 : Int))) hgb hgB)
  have pn := tnum_any b B s1 (w1.setCell ⟨W.heap.size, 4, none⟩ (.int .i64 (n4 : Int))) HT.out hB (by unfold maxLen; omega)
  have hs3 : s2.1.length ≤ 1000 := by have := rdNum_le s1; rw [e2] at this; simp only at this; omega
  rw [e2] at pn
  simp only at pn
  rw [show ((0 : Nat) : Int) = 0 from rfl] at pn
  go_wp2_with fail
  refine pn.mono ?_
  rintro e w2 ⟨rfl, t2, k2⟩
  have HB := Lib.hid (HB.out.kp k2 hnb); have HR := Lib.hid (HR.out.kp k2 hnr); have HK := Lib.hid (HK.out.then_ k2 fun _ _ m => m); have HT := Lib.hid t2
  clear t2 k2 pn zc yf
  have zc : w2.cell? ⟨W.heap.size, 12, none⟩ = some (.int .i64 (0 : Int)) := HB.out.cell 12
  have yf := HB.out.frozen
  have HB := Lib.hid (show Bk (w2.setCell ⟨W.heap.size, 12, none⟩ (.int .i64 (0 : Int))) W.heap.size 28 (mcells (⟨2, f, t, (n3 : Int), (n4 : Int), 0, 0, [], 0, 0, 0, false, 0, [], 0, 0⟩ : Msg) (.slice none 0 0)) from HB.out.set_ 12 _)
  have HR := Lib.hid (HR.out.kp ((Kp.refl (One W.heap.size) w2).set (.inl rfl) 12 (.int .i64 (0 : Int))) fun e => hgr e)
  have HK := Lib.hid (HK.out.set (.inr (Nat.le_refl _)) 12 (.int .i64 (0 : Int)))
  have HT := Lib.hid (HT.out.kp ((Kp.refl (One W.heap.size) w2).set (.inl rfl) 12 (.int .i64 (0 : Int))) hgb hgB)
  have pn := tnum_any b B s2 (w2.setCell ⟨W.heap.size, 12, none⟩ (.int .i64 (0 : Int))) HT.out hB (by unfold maxLen; omega)
  have hs4 : s3.1.length ≤ 1000 := by have := rdNum_le s2; rw [e3] at this; simp only at this; omega
  rw [e3] at pn
  simp only at pn
  go_wp2_with fail
  refine pn.mono ?_
  rintro e w3 ⟨rfl, t3, k3⟩
  have HB := Lib.hid (HB.out.kp k3 hnb); have HR := Lib.hid (HR.out.kp k3 hnr); have HK := Lib.hid (HK.out.then_ k3 fun _ _ m => m); have HT := Lib.hid t3
  clear t3 k3 pn zc yf
  have zc : w3.cell? ⟨W.heap.size, 10, none⟩ = some (.int .i64 (0 : Int)) := HB.out.cell 10
  have yf := HB.out.frozen
  have HB := Lib.hid (show Bk (w3.setCell ⟨W.heap.size, 10, none⟩ (.int .i64 (n10 : Int))) W.heap.size 28 (mcells (⟨2, f, t, (n3 : Int), (n4 : Int), 0, 0, [], 0, 0, (n10 : Int), false, 0, [], 0, 0⟩ : Msg) (.slice none 0 0)) from HB.out.set_ 10 _)
  have HR := Lib.hid (HR.out.kp ((Kp.refl (One W.heap.size) w3).set (.inl rfl) 10 (.int .i64 (n10 : Int))) fun e => hgr e)
  have HK := Lib.hid (HK.out.set (.inr (Nat.le_refl _)) 10 (.int .i64 (n10 : Int)))
  have HT := Lib.hid (HT.out.kp ((Kp.refl (One W.heap.size) w3).set (.inl rfl) 10 (.int .i64 (n10 : Int))) hgb hgB)
  have pn := tnum_any b B s3 (w3.setCell ⟨W.heap.size, 10, none⟩ (.int .i64 (n10 : Int))) HT.out hB (by unfold maxLen; omega)
  have hs5 : s4.1.length ≤ 1000 := by have := rdNum_le s3; rw [e4] at this; simp only at this; omega
  rw [e4] at pn
  simp only at pn
  go_wp2_with fail
  refine pn.mono ?_
  rintro e w4 ⟨rfl, t4, k4⟩
  have HB := Lib.hid (HB.out.kp k4 hnb); have HR := Lib.hid (HR.out.kp k4 hnr); have HK := Lib.hid (HK.out.then_ k4 fun _ _ m => m); have HT := Lib.hid t4
  clear t4 k4 pn zc yf
  have zc : w4.cell? ⟨W.heap.size, 9, none⟩ = some (.int .i64 (0 : Int)) := HB.out.cell 9
  have yf := HB.out.frozen
  have HB := Lib.hid (show Bk (w4.setCell ⟨W.heap.size, 9, none⟩ (.int .i64 (n9 : Int))) W.heap.size 28 (mcells (⟨2, f, t, (n3 : Int), (n4 : Int), 0, 0, [], 0, (n9 : Int), (n10 : Int), false, 0, [], 0, 0⟩ : Msg) (.slice none 0 0)) from HB.out.set_ 9 _)
  have HR := Lib.hid (HR.out.kp ((Kp.refl (One W.heap.size) w4).set (.inl rfl) 9 (.int .i64 (n9 : Int))) fun e => hgr e)
  have HK := Lib.hid (HK.out.set (.inr (Nat.le_refl _)) 9 (.int .i64 (n9 : Int)))
  have HT := Lib.hid (HT.out.kp ((Kp.refl (One W.heap.size) w4).set (.inl rfl) 9 (.int .i64 (n9 : Int))) hgb hgB)
  have pn := tcnts_any b B s4 (w4.setCell ⟨W.heap.size, 9, none⟩ (.int .i64 (n9 : Int))) HT.out hB (by unfold maxLen; omega)
  go_wp2_with fail
  refine pn.mono ?_
  rintro e w5 ⟨cv, rfl, co, t5, k5⟩
  obtain ⟨CA, cc, rfl, _⟩ := own_len co
  have hlo : W.heap.size ≤ (w4.setCell ⟨W.heap.size, 9, none⟩ (.int .i64 (n9 : Int))).heap.size := HK.out.size
  have HO := Lib.hid (own_mono (base' := W.heap.size) co hlo)
  clear co hlo
  have HB := Lib.hid (HB.out.kp k5 hnb); have HR := Lib.hid (HR.out.kp k5 hnr); have HK := Lib.hid (HK.out.then_ k5 fun _ _ m => m); have HT := Lib.hid t5
  clear t5 k5 pn zc yf
  have HBo := HB
  have zc : w5.cell? ⟨W.heap.size, 13, none⟩ = some (.slice none 0 0) := HB.out.cell 13
  have yf := HB.out.frozen
  have HB := Lib.hid (show Bk (w5.setCell ⟨W.heap.size, 13, none⟩ (.slice CA (cntsI s4).length cc)) W.heap.size 28 (mcells (⟨2, f, t, (n3 : Int), (n4 : Int), 0, 0, [], 0, (n9 : Int), (n10 : Int), false, 0, cntsI s4, 0, 0⟩ : Msg) (.slice CA (cntsI s4).length cc)) from HB.out.set_ 13 _)
  have HR := Lib.hid (HR.out.kp ((Kp.refl (One W.heap.size) w5).set (.inl rfl) 13 (.slice CA (cntsI s4).length cc)) fun e => hgr e)
  have HK := Lib.hid (HK.out.set (.inr (Nat.le_refl _)) 13 (.slice CA (cntsI s4).length cc))
  have HT := Lib.hid (HT.out.kp ((Kp.refl (One W.heap.size) w5).set (.inl rfl) 13 (.slice CA (cntsI s4).length cc)) hgb hgB)
  have HO := Lib.hid (own_kp HO.out ((Kp.refl (One W.heap.size) w5).set (.inl rfl) 13 (.slice CA (cntsI s4).length cc)) fun g e m => own_ne HO.out (show Bk w5 W.heap.size 28 _ from HBo.out) (by decide) (by rw [e, show g = W.heap.size from m]))
  go_upto_region 40 with (fail)
  clear zc yf
  have hst : Hid (mcells (⟨2, f, t, (n3 : Int), (n4 : Int), 0, 0, [], 0, (n9 : Int), (n10 : Int), false, 0, cntsI s4, 0, 0⟩ : Msg) (.slice CA (cntsI s4).length cc) = mcells (⟨2, f, t, (n3 : Int), (n4 : Int), 0, 0, [], 0, (n9 : Int), (n10 : Int), false, 0, cntsI s4, 0, 0⟩ : Msg) (.slice CA (cntsI s4).length cc)) := Lib.hid rfl
  have HO9 : Hid (∀ W9 : World, Kp (One (W.heap.size + 1)) (w5.setCell ⟨W.heap.size, 13, none⟩ (.slice CA (cntsI s4).length cc)) W9 → W9.ownsRow W.heap.size 3 1 (.slice CA (cntsI s4).length cc) (⟨2, f, t, (n3 : Int), (n4 : Int), 0, 0, [], 0, (n9 : Int), (n10 : Int), false, 0, cntsI s4, 0, 0⟩ : Msg).stamp.length (ints (⟨2, f, t, (n3 : Int), (n4 : Int), 0, 0, [], 0, (n9 : Int), (n10 : Int), false, 0, cntsI s4, 0, 0⟩ : Msg).stamp)) := Lib.hid (fun W9 k9 => own_kp HO.out k9 fun g e m => own_ne HO.out HR.out (by decide) (by rw [e, show g = W.heap.size + 1 from m]))
  have HP : Hid (∀ W9 : World, W9.ownsRow W.heap.size 3 1 (.slice CA (cntsI s4).length cc) (⟨2, f, t, (n3 : Int), (n4 : Int), 0, 0, [], 0, (n9 : Int), (n10 : Int), false, 0, cntsI s4, 0, 0⟩ : Msg).stamp.length (ints (⟨2, f, t, (n3 : Int), (n4 : Int), 0, 0, [], 0, (n9 : Int), (n10 : Int), false, 0, cntsI s4, 0, 0⟩ : Msg).stamp) → Kp (One b) W W9 → ∃ sv, Ending.returned (.agg (mcells (⟨2, f, t, (n3 : Int), (n4 : Int), 0, 0, [], 0, (n9 : Int), (n10 : Int), false, 0, cntsI s4, 0, 0⟩ : Msg) (.slice CA (cntsI s4).length cc)).toArray) = .returned (.agg (mcells (⟨2, f, t, (n3 : Int), (n4 : Int), 0, 0, [], 0, (n9 : Int), (n10 : Int), false, 0, cntsI s4, 0, 0⟩ : Msg) sv).toArray) ∧ W9.ownsRow W.heap.size 3 1 sv (⟨2, f, t, (n3 : Int), (n4 : Int), 0, 0, [], 0, (n9 : Int), (n10 : Int), false, 0, cntsI s4, 0, 0⟩ : Msg).stamp.length (ints (⟨2, f, t, (n3 : Int), (n4 : Int), 0, 0, [], 0, (n9 : Int), (n10 : Int), false, 0, cntsI s4, 0, 0⟩ : Msg).stamp) ∧ Kp (One b) W W9) := Lib.hid fun W9 o k => ⟨_, rfl, o, k⟩
  have HBM := Lib.hid (show Bk (w5.setCell ⟨W.heap.size, 13, none⟩ (.slice CA (cntsI s4).length cc)) W.heap.size 28 (mcells (⟨2, f, t, (n3 : Int), (n4 : Int), 0, 0, [], 0, (n9 : Int), (n10 : Int), false, 0, cntsI s4, 0, 0⟩ : Msg) (.slice CA (cntsI s4).length cc)) from HB.out)
  have HRM := Lib.hid HR.out; have HKM := Lib.hid HK.out
  clear HB HR HK HT hst
  generalize hwz : (w5.setCell ⟨W.heap.size, 13, none⟩ (.slice CA (cntsI s4).length cc)) = wz at *
  clear hwz
  have hu := Tryz.underlying28
  have hi1 : Hid ((Tryz.prog.info? 28).map (·.size) = some (mcells (⟨2, f, t, (n3 : Int), (n4 : Int), 0, 0, [], 0, (n9 : Int), (n10 : Int), false, 0, cntsI s4, 0, 0⟩ : Msg) (.slice CA (cntsI s4).length cc)).length) := Lib.hid (by kernel_rfl)
  have hi2 : Hid ((Tryz.prog.info? 28).map (·.size) = some (mcells (⟨2, f, t, (n3 : Int), (n4 : Int), 0, 0, [], 0, (n9 : Int), (n10 : Int), false, 0, cntsI s4, 0, 0⟩ : Msg) (.slice CA (cntsI s4).length cc)).toArray.size) := Lib.hid (by kernel_rfl)
  have h1c : Hid ((mcells (⟨2, f, t, (n3 : Int), (n4 : Int), 0, 0, [], 0, (n9 : Int), (n10 : Int), false, 0, cntsI s4, 0, 0⟩ : Msg) (.slice CA (cntsI s4).length cc)).toArray.all (·.oneCell') = true) := Lib.hid (by simp [mcells, Value.oneCell'])
  have HUH := Lib.hid hu; clear hu
  have HTH := Lib.hid (show wz.there (W.heap.size + 1) 0 (mcells (⟨2, f, t, (n3 : Int), (n4 : Int), 0, 0, [], 0, (n9 : Int), (n10 : Int), false, 0, cntsI s4, 0, 0⟩ : Msg) (.slice CA (cntsI s4).length cc)).toArray.size from HRM.out.there 0 16 (by simp [mcells]))
  have HRG := Lib.hid (range_of HBM.out)
  have HBS := Lib.hid (show Bk (wz.setCells (W.heap.size + 1) 0 (mcells (⟨2, f, t, (n3 : Int), (n4 : Int), 0, 0, [], 0, (n9 : Int), (n10 : Int), false, 0, cntsI s4, 0, 0⟩ : Msg) (.slice CA (cntsI s4).length cc))) (W.heap.size + 1) 28 (mcells (⟨2, f, t, (n3 : Int), (n4 : Int), 0, 0, [], 0, (n9 : Int), (n10 : Int), false, 0, cntsI s4, 0, 0⟩ : Msg) (.slice CA (cntsI s4).length cc)) from by
    have := Bk.sets (mcells (⟨2, f, t, (n3 : Int), (n4 : Int), 0, 0, [], 0, (n9 : Int), (n10 : Int), false, 0, cntsI s4, 0, 0⟩ : Msg) (.slice CA (cntsI s4).length cc)) 0 HRM.out (by simp [mcells])
    simpa [mcells] using this)
  have HKN := Lib.hid (show Kp (One b) W (wz.setCells (W.heap.size + 1) 0 (mcells (⟨2, f, t, (n3 : Int), (n4 : Int), 0, 0, [], 0, (n9 : Int), (n10 : Int), false, 0, cntsI s4, 0, 0⟩ : Msg) (.slice CA (cntsI s4).length cc))) from Kp.sets _ 0 HKM.out (.inr (by omega)))
  have HOX := Lib.hid (HO9.out _ (show Kp (One (W.heap.size + 1)) wz (wz.setCells (W.heap.size + 1) 0 (mcells (⟨2, f, t, (n3 : Int), (n4 : Int), 0, 0, [], 0, (n9 : Int), (n10 : Int), false, 0, cntsI s4, 0, 0⟩ : Msg) (.slice CA (cntsI s4).length cc))) from Kp.sets _ 0 (Kp.refl _ _) (.inl rfl)))
  have hfin := HP.out _ HOX.out HKN.out
  clear HO9 HOX HKN HP HRM HBM HKM
  have HFIN := Lib.hid hfin; clear hfin
  generalize hcs : mcells (⟨2, f, t, (n3 : Int), (n4 : Int), 0, 0, [], 0, (n9 : Int), (n10 : Int), false, 0, cntsI s4, 0, 0⟩ : Msg) (.slice CA (cntsI s4).length cc) = cs at *
  have HCS := Lib.hid hcs; clear hcs
  go_wp2_with (first
    | (refine wpList_load_mid rfl _ _ rfl W.heap.size 0 rfl cs _ HRG.out HUH.out rfl hi1.out ?_)
    | (refine wpList_store_mid rfl _ _ _ rfl (W.heap.size + 1) 0 cs.toArray rfl rfl HTH.out hi2.out h1c.out ?_))
  have B9 := HBS.out
  have hfin := HFIN.out
  clear HBS HFIN
  generalize wz.setCells (W.heap.size + 1) 0 cs = w9 at *
  rw [← HCS.out] at B9 hfin
  clear HRG HTH h1c hi1 hi2 HUH HCS
  have x0 := B9.cell 0
  have x1 := B9.cell 1
  have x2 := B9.cell 2
  have x3 := B9.cell 3
  have x4 := B9.cell 4
  have x5 := B9.cell 5
  have x6 := B9.cell 6
  have x7 := B9.cell 7
  have x8 := B9.cell 8
  have x9 := B9.cell 9
  have x10 := B9.cell 10
  have x11 := B9.cell 11
  have x12 := B9.cell 12
  have x13 := B9.cell 13
  have x14 := B9.cell 14
  have x15 := B9.cell 15
  simp only [mcells, List.getElem?_cons_zero, List.getElem?_cons_succ] at x0 x1 x2 x3 x4 x5 x6 x7 x8 x9 x10 x11 x12 x13 x14 x15
  clear B9
  refine bodyPost_ret (v := .agg (mcells (⟨2, f, t, (n3 : Int), (n4 : Int), 0, 0, [], 0, (n9 : Int), (n10 : Int), false, 0, cntsI s4, 0, 0⟩ : Msg) (.slice CA (cntsI s4).length cc)).toArray) (by simp [results, Tryz.results39, go_sem, x0, x1, x2, x3, x4, x5, x6, x7, x8, x9, x10, x11, x12, x13, x14, x15, mcells]) rfl ?_
  exact hfin
end Go.Proofs.YtbnpdghfbiacaaaGreat

/- The document's fields by contract, by ways. No condition beyond what each theorem states. -/
namespace Go.Proofs.YtbnpdghfbiacaaaGreat
open Go Go.RowKit Go.PlainAid

set_option maxRecDepth 100000 in
set_option maxHeartbeats 8000000 in
theorem fld_rep1 (f t : Int) (s : Rd) (n3 : Nat) (s0 : Rd) (n4 : Nat) (s1 : Rd) (n12 : Nat) (s2 : Rd) (e0 : rdNum s = (n3, s0)) (e1 : rdNum s0 = (n4, s1)) (e2 : rdNum s1 = (n12, s2)) (q0 : n12 ≠ 0) (b B : Nat) (W : World) (h : TkS W b B s) (hB : B ≤ b) (hm : s.1.length ≤ 1000) :
    Calls Tryz.prog 39 #[.pointer (some ⟨b, 0, none⟩), .agg (mcells (⟨2, f, t, 0, 0, 0, 0, [], 0, 0, 0, false, 0, [], 0, 0⟩ : Msg) (.slice none 0 0)).toArray] W fun e w' => ∃ sv, e = .returned (.agg (mcells (⟨2, f, t, (n3 : Int), (n4 : Int), 0, 0, [], 0, 0, 0, false, (n12 : Int), [], 0, 0⟩ : Msg) sv).toArray) ∧ w'.ownsRow W.heap.size 3 1 sv (⟨2, f, t, (n3 : Int), (n4 : Int), 0, 0, [], 0, 0, 0, false, (n12 : Int), [], 0, 0⟩ : Msg).stamp.length (ints (⟨2, f, t, (n3 : Int), (n4 : Int), 0, 0, [], 0, 0, 0, false, (n12 : Int), [], 0, 0⟩ : Msg).stamp) ∧ Kp (One b) W w' := by
  have d0 : ((n12 : Int) == 0) = false := by rw [beq_eq_false_iff_ne]; omega
  clear q0
  have hbl := h.lt
  have hnb : ¬ One b W.heap.size := fun e => by
    have e : W.heap.size = b := e
    omega
  have hnr : ¬ One b (W.heap.size + 1) := fun e => by
    have e : W.heap.size + 1 = b := e
    omega
  have hgb : ¬ One W.heap.size b := fun e => by
    have e : b = W.heap.size := e
    omega
  have hgr : ¬ One W.heap.size (W.heap.size + 1) := fun e => by
    have e : W.heap.size + 1 = W.heap.size := e
    omega
  have hgB : ∀ g, One W.heap.size g → B ≤ g := fun g e => by
    have e : g = W.heap.size := e
    omega
  have HB := Lib.hid (show Bk ((W.alloc (.cells (mcells (⟨2, f, t, 0, 0, 0, 0, [], 0, 0, 0, false, 0, [], 0, 0⟩ : Msg) (.slice none 0 0)).toArray 28)).alloc (.cells (mcells {} (.slice none 0 0)).toArray 28)) W.heap.size 28 (mcells (⟨2, f, t, 0, 0, 0, 0, [], 0, 0, 0, false, 0, [], 0, 0⟩ : Msg) (.slice none 0 0)) from (Bk.new' rfl rfl).alloc _)
  have HR := Lib.hid (show Bk ((W.alloc (.cells (mcells (⟨2, f, t, 0, 0, 0, 0, [], 0, 0, 0, false, 0, [], 0, 0⟩ : Msg) (.slice none 0 0)).toArray 28)).alloc (.cells (mcells {} (.slice none 0 0)).toArray 28)) (W.heap.size + 1) 28 (mcells {} (.slice none 0 0)) from Bk.new' (by simp) rfl)
  have HK := Lib.hid (show Kp (One b) W ((W.alloc (.cells (mcells (⟨2, f, t, 0, 0, 0, 0, [], 0, 0, 0, false, 0, [], 0, 0⟩ : Msg) (.slice none 0 0)).toArray 28)).alloc (.cells (mcells {} (.slice none 0 0)).toArray 28)) from ((Kp.refl _ _).alloc _).alloc _)
  have HT := Lib.hid (show TkS ((W.alloc (.cells (mcells (⟨2, f, t, 0, 0, 0, 0, [], 0, 0, 0, false, 0, [], 0, 0⟩ : Msg) (.slice none 0 0)).toArray 28)).alloc (.cells (mcells {} (.slice none 0 0)).toArray 28)) b B s from h.no (((Kp.refl No _).alloc _).alloc _))
  clear h
  have hs0 : s.1.length ≤ 1000 := hm
  clear hm
  have pn := tnum_any b B s ((W.alloc (.cells (mcells (⟨2, f, t, 0, 0, 0, 0, [], 0, 0, 0, false, 0, [], 0, 0⟩ : Msg) (.slice none 0 0)).toArray 28)).alloc (.cells (mcells {} (.slice none 0 0)).toArray 28)) HT.out hB (by unfold maxLen; omega)
  have hs1 : s0.1.length ≤ 1000 := by have := rdNum_le s; rw [e0] at this; simp only at this; omega
  rw [e0] at pn
  simp only at pn
  simp only [mcells] at pn
  simp only [mcells]
  go_enter Tryz.func39, Tryz.ntmps39
  go_wp2_with fail
  refine pn.mono ?_
  rintro e w0 ⟨rfl, t0, k0⟩
  have HB := Lib.hid (HB.out.kp k0 hnb); have HR := Lib.hid (HR.out.kp k0 hnr); have HK := Lib.hid (HK.out.then_ k0 fun _ _ m => m); have HT := Lib.hid t0
  clear t0 k0 pn
  have zc : w0.cell? ⟨W.heap.size, 3, none⟩ = some (.int .i64 (0 : Int)) := HB.out.cell 3
  have yf := HB.out.frozen
  have HB := Lib.hid (show Bk (w0.setCell ⟨W.heap.size, 3, none⟩ (.int .i64 (n3 : Int))) W.heap.size 28 (mcells (⟨2, f, t, (n3 : Int), 0, 0, 0, [], 0, 0, 0, false, 0, [], 0, 0⟩ : Msg) (.slice none 0 0)) from HB.out.set_ 3 _)
  have HR := Lib.hid (HR.out.kp ((Kp.refl (One W.heap.size) w0).set (.inl rfl) 3 (.int .i64 (n3 : Int))) fun e => hgr e)
  have HK := Lib.hid (HK.out.set (.inr (Nat.le_refl _)) 3 (.int .i64 (n3 : Int)))
  have HT := Lib.hid (HT.out.kp ((Kp.refl (One W.heap.size) w0).set (.inl rfl) 3 (.int .i64 (n3 : Int))) hgb hgB)
  have pn := tnum_any b B s0 (w0.setCell ⟨W.heap.size, 3, none⟩ (.int .i64 (n3 : Int))) HT.out hB (by unfold maxLen; omega)
  have hs2 : s1.1.length ≤ 1000 := by have := rdNum_le s0; rw [e1] at this; simp only at this; omega
  rw [e1] at pn
  simp only at pn
  go_wp2_with fail
  refine pn.mono ?_
  rintro e w1 ⟨rfl, t1, k1⟩
  have HB := Lib.hid (HB.out.kp k1 hnb); have HR := Lib.hid (HR.out.kp k1 hnr); have HK := Lib.hid (HK.out.then_ k1 fun _ _ m => m); have HT := Lib.hid t1
  clear t1 k1 pn zc yf
  have zc : w1.cell? ⟨W.heap.size, 4, none⟩ = some (.int .i64 (0 : Int)) := HB.out.cell 4
  have yf := HB.out.frozen
  have HB := Lib.hid (show Bk (w1.setCell ⟨W.heap.size, 4, none⟩ (.int .i64 (n4 : Int))) W.heap.size 28 (mcells (⟨2, f, t, (n3 : Int), (n4 : Int), 0, 0, [], 0, 0, 0, false, 0, [], 0, 0⟩ : Msg) (.slice none 0 0)) from HB.out.set_ 4 _)
  have HR := Lib.hid (HR.out.kp ((Kp.refl (One W.heap.size) w1).set (.inl rfl) 4 (.int .i64 (n4 : Int))) fun e => hgr e)
  have HK := Lib.hid (HK.out.set (.inr (Nat.le_refl _)) 4 (.int .i64 (n4 : Int)))
  have HT := Lib.hid (HT.out.kp ((Kp.refl (One W.heap.size) w1).set (.inl rfl) 4 (.int .i64 (n4 : Int))) hgb hgB)
  have pn := tnum_any b B s1 (w1.setCell ⟨W.heap.size, 4, none⟩ (.int .i64 (n4 : Int))) HT.out hB (by unfold maxLen; omega)
  have hs3 : s2.1.length ≤ 1000 := by have := rdNum_le s1; rw [e2] at this; simp only at this; omega
  rw [e2] at pn
  simp only at pn
  go_wp2_with fail
  refine pn.mono ?_
  rintro e w2 ⟨rfl, t2, k2⟩
  have HB := Lib.hid (HB.out.kp k2 hnb); have HR := Lib.hid (HR.out.kp k2 hnr); have HK := Lib.hid (HK.out.then_ k2 fun _ _ m => m); have HT := Lib.hid t2
  clear t2 k2 pn zc yf
  have zc : w2.cell? ⟨W.heap.size, 12, none⟩ = some (.int .i64 (0 : Int)) := HB.out.cell 12
  have yf := HB.out.frozen
  have HB := Lib.hid (show Bk (w2.setCell ⟨W.heap.size, 12, none⟩ (.int .i64 (n12 : Int))) W.heap.size 28 (mcells (⟨2, f, t, (n3 : Int), (n4 : Int), 0, 0, [], 0, 0, 0, false, (n12 : Int), [], 0, 0⟩ : Msg) (.slice none 0 0)) from HB.out.set_ 12 _)
  have HR := Lib.hid (HR.out.kp ((Kp.refl (One W.heap.size) w2).set (.inl rfl) 12 (.int .i64 (n12 : Int))) fun e => hgr e)
  have HK := Lib.hid (HK.out.set (.inr (Nat.le_refl _)) 12 (.int .i64 (n12 : Int)))
  have HT := Lib.hid (HT.out.kp ((Kp.refl (One W.heap.size) w2).set (.inl rfl) 12 (.int .i64 (n12 : Int))) hgb hgB)
  go_upto_region 40 with (fail)
  clear zc yf
  have hst : Hid (mcells (⟨2, f, t, (n3 : Int), (n4 : Int), 0, 0, [], 0, 0, 0, false, (n12 : Int), [], 0, 0⟩ : Msg) (.slice none 0 0) = mcells (⟨2, f, t, (n3 : Int), (n4 : Int), 0, 0, [], 0, 0, 0, false, (n12 : Int), [], 0, 0⟩ : Msg) (.slice none 0 0)) := Lib.hid rfl
  have HO9 : Hid (∀ W9 : World, Kp (One (W.heap.size + 1)) (w2.setCell ⟨W.heap.size, 12, none⟩ (.int .i64 (n12 : Int))) W9 → W9.ownsRow W.heap.size 3 1 (.slice none 0 0) (⟨2, f, t, (n3 : Int), (n4 : Int), 0, 0, [], 0, 0, 0, false, (n12 : Int), [], 0, 0⟩ : Msg).stamp.length (ints (⟨2, f, t, (n3 : Int), (n4 : Int), 0, 0, [], 0, 0, 0, false, (n12 : Int), [], 0, 0⟩ : Msg).stamp)) := Lib.hid (fun _ _ => nil_own _ _ _ _)
  have HP : Hid (∀ W9 : World, W9.ownsRow W.heap.size 3 1 (.slice none 0 0) (⟨2, f, t, (n3 : Int), (n4 : Int), 0, 0, [], 0, 0, 0, false, (n12 : Int), [], 0, 0⟩ : Msg).stamp.length (ints (⟨2, f, t, (n3 : Int), (n4 : Int), 0, 0, [], 0, 0, 0, false, (n12 : Int), [], 0, 0⟩ : Msg).stamp) → Kp (One b) W W9 → ∃ sv, Ending.returned (.agg (mcells (⟨2, f, t, (n3 : Int), (n4 : Int), 0, 0, [], 0, 0, 0, false, (n12 : Int), [], 0, 0⟩ : Msg) (.slice none 0 0)).toArray) = .returned (.agg (mcells (⟨2, f, t, (n3 : Int), (n4 : Int), 0, 0, [], 0, 0, 0, false, (n12 : Int), [], 0, 0⟩ : Msg) sv).toArray) ∧ W9.ownsRow W.heap.size 3 1 sv (⟨2, f, t, (n3 : Int), (n4 : Int), 0, 0, [], 0, 0, 0, false, (n12 : Int), [], 0, 0⟩ : Msg).stamp.length (ints (⟨2, f, t, (n3 : Int), (n4 : Int), 0, 0, [], 0, 0, 0, false, (n12 : Int), [], 0, 0⟩ : Msg).stamp) ∧ Kp (One b) W W9) := Lib.hid fun W9 o k => ⟨_, rfl, o, k⟩
  have HBM := Lib.hid (show Bk (w2.setCell ⟨W.heap.size, 12, none⟩ (.int .i64 (n12 : Int))) W.heap.size 28 (mcells (⟨2, f, t, (n3 : Int), (n4 : Int), 0, 0, [], 0, 0, 0, false, (n12 : Int), [], 0, 0⟩ : Msg) (.slice none 0 0)) from HB.out)
  have HRM := Lib.hid HR.out; have HKM := Lib.hid HK.out
  clear HB HR HK HT hst
  generalize hwz : (w2.setCell ⟨W.heap.size, 12, none⟩ (.int .i64 (n12 : Int))) = wz at *
  clear hwz
  have hu := Tryz.underlying28
  have hi1 : Hid ((Tryz.prog.info? 28).map (·.size) = some (mcells (⟨2, f, t, (n3 : Int), (n4 : Int), 0, 0, [], 0, 0, 0, false, (n12 : Int), [], 0, 0⟩ : Msg) (.slice none 0 0)).length) := Lib.hid (by kernel_rfl)
  have hi2 : Hid ((Tryz.prog.info? 28).map (·.size) = some (mcells (⟨2, f, t, (n3 : Int), (n4 : Int), 0, 0, [], 0, 0, 0, false, (n12 : Int), [], 0, 0⟩ : Msg) (.slice none 0 0)).toArray.size) := Lib.hid (by kernel_rfl)
  have h1c : Hid ((mcells (⟨2, f, t, (n3 : Int), (n4 : Int), 0, 0, [], 0, 0, 0, false, (n12 : Int), [], 0, 0⟩ : Msg) (.slice none 0 0)).toArray.all (·.oneCell') = true) := Lib.hid (by simp [mcells, Value.oneCell'])
  have HUH := Lib.hid hu; clear hu
  have HTH := Lib.hid (show wz.there (W.heap.size + 1) 0 (mcells (⟨2, f, t, (n3 : Int), (n4 : Int), 0, 0, [], 0, 0, 0, false, (n12 : Int), [], 0, 0⟩ : Msg) (.slice none 0 0)).toArray.size from HRM.out.there 0 16 (by simp [mcells]))
  have HRG := Lib.hid (range_of HBM.out)
  have HBS := Lib.hid (show Bk (wz.setCells (W.heap.size + 1) 0 (mcells (⟨2, f, t, (n3 : Int), (n4 : Int), 0, 0, [], 0, 0, 0, false, (n12 : Int), [], 0, 0⟩ : Msg) (.slice none 0 0))) (W.heap.size + 1) 28 (mcells (⟨2, f, t, (n3 : Int), (n4 : Int), 0, 0, [], 0, 0, 0, false, (n12 : Int), [], 0, 0⟩ : Msg) (.slice none 0 0)) from by
    have := Bk.sets (mcells (⟨2, f, t, (n3 : Int), (n4 : Int), 0, 0, [], 0, 0, 0, false, (n12 : Int), [], 0, 0⟩ : Msg) (.slice none 0 0)) 0 HRM.out (by simp [mcells])
    simpa [mcells] using this)
  have HKN := Lib.hid (show Kp (One b) W (wz.setCells (W.heap.size + 1) 0 (mcells (⟨2, f, t, (n3 : Int), (n4 : Int), 0, 0, [], 0, 0, 0, false, (n12 : Int), [], 0, 0⟩ : Msg) (.slice none 0 0))) from Kp.sets _ 0 HKM.out (.inr (by omega)))
  have HOX := Lib.hid (HO9.out _ (show Kp (One (W.heap.size + 1)) wz (wz.setCells (W.heap.size + 1) 0 (mcells (⟨2, f, t, (n3 : Int), (n4 : Int), 0, 0, [], 0, 0, 0, false, (n12 : Int), [], 0, 0⟩ : Msg) (.slice none 0 0))) from Kp.sets _ 0 (Kp.refl _ _) (.inl rfl)))
  have hfin := HP.out _ HOX.out HKN.out
  clear HO9 HOX HKN HP HRM HBM HKM
  have HFIN := Lib.hid hfin; clear hfin
  generalize hcs : mcells (⟨2, f, t, (n3 : Int), (n4 : Int), 0, 0, [], 0, 0, 0, false, (n12 : Int), [], 0, 0⟩ : Msg) (.slice none 0 0) = cs at *
  have HCS := Lib.hid hcs; clear hcs
  go_wp2_with (first
    | (refine wpList_load_mid rfl _ _ rfl W.heap.size 0 rfl cs _ HRG.out HUH.out rfl hi1.out ?_)
    | (refine wpList_store_mid rfl _ _ _ rfl (W.heap.size + 1) 0 cs.toArray rfl rfl HTH.out hi2.out h1c.out ?_))
  have B9 := HBS.out
  have hfin := HFIN.out
  clear HBS HFIN
  generalize wz.setCells (W.heap.size + 1) 0 cs = w9 at *
  rw [← HCS.out] at B9 hfin
  clear HRG HTH h1c hi1 hi2 HUH HCS
  have x0 := B9.cell 0
  have x1 := B9.cell 1
  have x2 := B9.cell 2
  have x3 := B9.cell 3
  have x4 := B9.cell 4
  have x5 := B9.cell 5
  have x6 := B9.cell 6
  have x7 := B9.cell 7
  have x8 := B9.cell 8
  have x9 := B9.cell 9
  have x10 := B9.cell 10
  have x11 := B9.cell 11
  have x12 := B9.cell 12
  have x13 := B9.cell 13
  have x14 := B9.cell 14
  have x15 := B9.cell 15
  simp only [mcells, List.getElem?_cons_zero, List.getElem?_cons_succ] at x0 x1 x2 x3 x4 x5 x6 x7 x8 x9 x10 x11 x12 x13 x14 x15
  clear B9
  refine bodyPost_ret (v := .agg (mcells (⟨2, f, t, (n3 : Int), (n4 : Int), 0, 0, [], 0, 0, 0, false, (n12 : Int), [], 0, 0⟩ : Msg) (.slice none 0 0)).toArray) (by simp [results, Tryz.results39, go_sem, x0, x1, x2, x3, x4, x5, x6, x7, x8, x9, x10, x11, x12, x13, x14, x15, mcells]) rfl ?_
  exact hfin
end Go.Proofs.YtbnpdghfbiacaaaGreat

/- The document's fields by contract, by ways. No condition beyond what each theorem states. -/
namespace Go.Proofs.YtbnpdghfbiacaaaGreat
open Go Go.RowKit Go.PlainAid

set_option maxRecDepth 100000 in
set_option maxHeartbeats 8000000 in
theorem fld_rec (f t : Int) (s : Rd) (n10 : Nat) (s0 : Rd) (p7 : List UInt8) (s1 : Rd) (n14 : Nat) (s2 : Rd) (n15 : Nat) (s3 : Rd) (e0 : rdNum s = (n10, s0)) (e1 : rdText 200 s0 = (p7, s1)) (e2 : rdNum s1 = (n14, s2)) (e3 : rdNum s2 = (n15, s3)) (b B : Nat) (W : World) (h : TkS W b B s) (hB : B ≤ b) (hm : s.1.length ≤ 1000) :
    Calls Tryz.prog 39 #[.pointer (some ⟨b, 0, none⟩), .agg (mcells (⟨3, f, t, 0, 0, 0, 0, [], 0, 0, 0, false, 0, [], 0, 0⟩ : Msg) (.slice none 0 0)).toArray] W fun e w' => ∃ sv, e = .returned (.agg (mcells (⟨3, f, t, 0, 0, 0, 0, p7, 0, 0, (n10 : Int), false, 0, [], (n14 : Int), (n15 : Int)⟩ : Msg) sv).toArray) ∧ w'.ownsRow W.heap.size 3 1 sv (⟨3, f, t, 0, 0, 0, 0, p7, 0, 0, (n10 : Int), false, 0, [], (n14 : Int), (n15 : Int)⟩ : Msg).stamp.length (ints (⟨3, f, t, 0, 0, 0, 0, p7, 0, 0, (n10 : Int), false, 0, [], (n14 : Int), (n15 : Int)⟩ : Msg).stamp) ∧ Kp (One b) W w' := by
  have hbl := h.lt
  have hnb : ¬ One b W.heap.size := fun e => by
    have e : W.heap.size = b := e
    omega
  have hnr : ¬ One b (W.heap.size + 1) := fun e => by
    have e : W.heap.size + 1 = b := e
    omega
  have hgb : ¬ One W.heap.size b := fun e => by
    have e : b = W.heap.size := e
    omega
  have hgr : ¬ One W.heap.size (W.heap.size + 1) := fun e => by
    have e : W.heap.size + 1 = W.heap.size := e
    omega
  have hgB : ∀ g, One W.heap.size g → B ≤ g := fun g e => by
    have e : g = W.heap.size := e
    omega
  have HB := Lib.hid (show Bk ((W.alloc (.cells (mcells (⟨3, f, t, 0, 0, 0, 0, [], 0, 0, 0, false, 0, [], 0, 0⟩ : Msg) (.slice none 0 0)).toArray 28)).alloc (.cells (mcells {} (.slice none 0 0)).toArray 28)) W.heap.size 28 (mcells (⟨3, f, t, 0, 0, 0, 0, [], 0, 0, 0, false, 0, [], 0, 0⟩ : Msg) (.slice none 0 0)) from (Bk.new' rfl rfl).alloc _)
  have HR := Lib.hid (show Bk ((W.alloc (.cells (mcells (⟨3, f, t, 0, 0, 0, 0, [], 0, 0, 0, false, 0, [], 0, 0⟩ : Msg) (.slice none 0 0)).toArray 28)).alloc (.cells (mcells {} (.slice none 0 0)).toArray 28)) (W.heap.size + 1) 28 (mcells {} (.slice none 0 0)) from Bk.new' (by simp) rfl)
  have HK := Lib.hid (show Kp (One b) W ((W.alloc (.cells (mcells (⟨3, f, t, 0, 0, 0, 0, [], 0, 0, 0, false, 0, [], 0, 0⟩ : Msg) (.slice none 0 0)).toArray 28)).alloc (.cells (mcells {} (.slice none 0 0)).toArray 28)) from ((Kp.refl _ _).alloc _).alloc _)
  have HT := Lib.hid (show TkS ((W.alloc (.cells (mcells (⟨3, f, t, 0, 0, 0, 0, [], 0, 0, 0, false, 0, [], 0, 0⟩ : Msg) (.slice none 0 0)).toArray 28)).alloc (.cells (mcells {} (.slice none 0 0)).toArray 28)) b B s from h.no (((Kp.refl No _).alloc _).alloc _))
  clear h
  have hs0 : s.1.length ≤ 1000 := hm
  clear hm
  have pn := tnum_any b B s ((W.alloc (.cells (mcells (⟨3, f, t, 0, 0, 0, 0, [], 0, 0, 0, false, 0, [], 0, 0⟩ : Msg) (.slice none 0 0)).toArray 28)).alloc (.cells (mcells {} (.slice none 0 0)).toArray 28)) HT.out hB (by unfold maxLen; omega)
  have hs1 : s0.1.length ≤ 1000 := by have := rdNum_le s; rw [e0] at this; simp only at this; omega
  rw [e0] at pn
  simp only at pn
  simp only [mcells] at pn
  simp only [mcells]
  go_enter Tryz.func39, Tryz.ntmps39
  go_wp2_with fail
  refine pn.mono ?_
  rintro e w0 ⟨rfl, t0, k0⟩
  have HB := Lib.hid (HB.out.kp k0 hnb); have HR := Lib.hid (HR.out.kp k0 hnr); have HK := Lib.hid (HK.out.then_ k0 fun _ _ m => m); have HT := Lib.hid t0
  clear t0 k0 pn
  have zc : w0.cell? ⟨W.heap.size, 10, none⟩ = some (.int .i64 (0 : Int)) := HB.out.cell 10
  have yf := HB.out.frozen
  have HB := Lib.hid (show Bk (w0.setCell ⟨W.heap.size, 10, none⟩ (.int .i64 (n10 : Int))) W.heap.size 28 (mcells (⟨3, f, t, 0, 0, 0, 0, [], 0, 0, (n10 : Int), false, 0, [], 0, 0⟩ : Msg) (.slice none 0 0)) from HB.out.set_ 10 _)
  have HR := Lib.hid (HR.out.kp ((Kp.refl (One W.heap.size) w0).set (.inl rfl) 10 (.int .i64 (n10 : Int))) fun e => hgr e)
  have HK := Lib.hid (HK.out.set (.inr (Nat.le_refl _)) 10 (.int .i64 (n10 : Int)))
  have HT := Lib.hid (HT.out.kp ((Kp.refl (One W.heap.size) w0).set (.inl rfl) 10 (.int .i64 (n10 : Int))) hgb hgB)
  have pn := ttext_any b B s0 (w0.setCell ⟨W.heap.size, 10, none⟩ (.int .i64 (n10 : Int))) HT.out hB (by unfold maxLen; omega)
  have hs2 : s1.1.length ≤ 1000 := by have := (rdText_le 200 s0).1; rw [e1] at this; simp only at this; omega
  rw [e1] at pn
  simp only at pn
  go_wp2_with fail
  refine pn.mono ?_
  rintro e w1 ⟨rfl, t1, k1⟩
  have HB := Lib.hid (HB.out.kp k1 hnb); have HR := Lib.hid (HR.out.kp k1 hnr); have HK := Lib.hid (HK.out.then_ k1 fun _ _ m => m); have HT := Lib.hid t1
  clear t1 k1 pn zc yf
  have zc : w1.cell? ⟨W.heap.size, 7, none⟩ = some (.string ⟨([] : List UInt8).toArray⟩) := HB.out.cell 7
  have yf := HB.out.frozen
  have HB := Lib.hid (show Bk (w1.setCell ⟨W.heap.size, 7, none⟩ (.string ⟨p7.toArray⟩)) W.heap.size 28 (mcells (⟨3, f, t, 0, 0, 0, 0, p7, 0, 0, (n10 : Int), false, 0, [], 0, 0⟩ : Msg) (.slice none 0 0)) from HB.out.set_ 7 _)
  have HR := Lib.hid (HR.out.kp ((Kp.refl (One W.heap.size) w1).set (.inl rfl) 7 (.string ⟨p7.toArray⟩)) fun e => hgr e)
  have HK := Lib.hid (HK.out.set (.inr (Nat.le_refl _)) 7 (.string ⟨p7.toArray⟩))
  have HT := Lib.hid (HT.out.kp ((Kp.refl (One W.heap.size) w1).set (.inl rfl) 7 (.string ⟨p7.toArray⟩)) hgb hgB)
  have pn := tnum_any b B s1 (w1.setCell ⟨W.heap.size, 7, none⟩ (.string ⟨p7.toArray⟩)) HT.out hB (by unfold maxLen; omega)
  have hs3 : s2.1.length ≤ 1000 := by have := rdNum_le s1; rw [e2] at this; simp only at this; omega
  rw [e2] at pn
  simp only at pn
  go_wp2_with fail
  refine pn.mono ?_
  rintro e w2 ⟨rfl, t2, k2⟩
  have HB := Lib.hid (HB.out.kp k2 hnb); have HR := Lib.hid (HR.out.kp k2 hnr); have HK := Lib.hid (HK.out.then_ k2 fun _ _ m => m); have HT := Lib.hid t2
  clear t2 k2 pn zc yf
  have zc : w2.cell? ⟨W.heap.size, 14, none⟩ = some (.int .i64 (0 : Int)) := HB.out.cell 14
  have yf := HB.out.frozen
  have HB := Lib.hid (show Bk (w2.setCell ⟨W.heap.size, 14, none⟩ (.int .i64 (n14 : Int))) W.heap.size 28 (mcells (⟨3, f, t, 0, 0, 0, 0, p7, 0, 0, (n10 : Int), false, 0, [], (n14 : Int), 0⟩ : Msg) (.slice none 0 0)) from HB.out.set_ 14 _)
  have HR := Lib.hid (HR.out.kp ((Kp.refl (One W.heap.size) w2).set (.inl rfl) 14 (.int .i64 (n14 : Int))) fun e => hgr e)
  have HK := Lib.hid (HK.out.set (.inr (Nat.le_refl _)) 14 (.int .i64 (n14 : Int)))
  have HT := Lib.hid (HT.out.kp ((Kp.refl (One W.heap.size) w2).set (.inl rfl) 14 (.int .i64 (n14 : Int))) hgb hgB)
  have pn := tnum_any b B s2 (w2.setCell ⟨W.heap.size, 14, none⟩ (.int .i64 (n14 : Int))) HT.out hB (by unfold maxLen; omega)
  have hs4 : s3.1.length ≤ 1000 := by have := rdNum_le s2; rw [e3] at this; simp only at this; omega
  rw [e3] at pn
  simp only at pn
  go_wp2_with fail
  refine pn.mono ?_
  rintro e w3 ⟨rfl, t3, k3⟩
  have HB := Lib.hid (HB.out.kp k3 hnb); have HR := Lib.hid (HR.out.kp k3 hnr); have HK := Lib.hid (HK.out.then_ k3 fun _ _ m => m); have HT := Lib.hid t3
  clear t3 k3 pn zc yf
  have zc : w3.cell? ⟨W.heap.size, 15, none⟩ = some (.int .i64 (0 : Int)) := HB.out.cell 15
  have yf := HB.out.frozen
  have HB := Lib.hid (show Bk (w3.setCell ⟨W.heap.size, 15, none⟩ (.int .i64 (n15 : Int))) W.heap.size 28 (mcells (⟨3, f, t, 0, 0, 0, 0, p7, 0, 0, (n10 : Int), false, 0, [], (n14 : Int), (n15 : Int)⟩ : Msg) (.slice none 0 0)) from HB.out.set_ 15 _)
  have HR := Lib.hid (HR.out.kp ((Kp.refl (One W.heap.size) w3).set (.inl rfl) 15 (.int .i64 (n15 : Int))) fun e => hgr e)
  have HK := Lib.hid (HK.out.set (.inr (Nat.le_refl _)) 15 (.int .i64 (n15 : Int)))
  have HT := Lib.hid (HT.out.kp ((Kp.refl (One W.heap.size) w3).set (.inl rfl) 15 (.int .i64 (n15 : Int))) hgb hgB)
  go_upto_region 40 with (fail)
  clear zc yf
  have hst : Hid (mcells (⟨3, f, t, 0, 0, 0, 0, p7, 0, 0, (n10 : Int), false, 0, [], (n14 : Int), (n15 : Int)⟩ : Msg) (.slice none 0 0) = mcells (⟨3, f, t, 0, 0, 0, 0, p7, 0, 0, (n10 : Int), false, 0, [], (n14 : Int), (n15 : Int)⟩ : Msg) (.slice none 0 0)) := Lib.hid rfl
  have HO9 : Hid (∀ W9 : World, Kp (One (W.heap.size + 1)) (w3.setCell ⟨W.heap.size, 15, none⟩ (.int .i64 (n15 : Int))) W9 → W9.ownsRow W.heap.size 3 1 (.slice none 0 0) (⟨3, f, t, 0, 0, 0, 0, p7, 0, 0, (n10 : Int), false, 0, [], (n14 : Int), (n15 : Int)⟩ : Msg).stamp.length (ints (⟨3, f, t, 0, 0, 0, 0, p7, 0, 0, (n10 : Int), false, 0, [], (n14 : Int), (n15 : Int)⟩ : Msg).stamp)) := Lib.hid (fun _ _ => nil_own _ _ _ _)
  have HP : Hid (∀ W9 : World, W9.ownsRow W.heap.size 3 1 (.slice none 0 0) (⟨3, f, t, 0, 0, 0, 0, p7, 0, 0, (n10 : Int), false, 0, [], (n14 : Int), (n15 : Int)⟩ : Msg).stamp.length (ints (⟨3, f, t, 0, 0, 0, 0, p7, 0, 0, (n10 : Int), false, 0, [], (n14 : Int), (n15 : Int)⟩ : Msg).stamp) → Kp (One b) W W9 → ∃ sv, Ending.returned (.agg (mcells (⟨3, f, t, 0, 0, 0, 0, p7, 0, 0, (n10 : Int), false, 0, [], (n14 : Int), (n15 : Int)⟩ : Msg) (.slice none 0 0)).toArray) = .returned (.agg (mcells (⟨3, f, t, 0, 0, 0, 0, p7, 0, 0, (n10 : Int), false, 0, [], (n14 : Int), (n15 : Int)⟩ : Msg) sv).toArray) ∧ W9.ownsRow W.heap.size 3 1 sv (⟨3, f, t, 0, 0, 0, 0, p7, 0, 0, (n10 : Int), false, 0, [], (n14 : Int), (n15 : Int)⟩ : Msg).stamp.length (ints (⟨3, f, t, 0, 0, 0, 0, p7, 0, 0, (n10 : Int), false, 0, [], (n14 : Int), (n15 : Int)⟩ : Msg).stamp) ∧ Kp (One b) W W9) := Lib.hid fun W9 o k => ⟨_, rfl, o, k⟩
  have HBM := Lib.hid (show Bk (w3.setCell ⟨W.heap.size, 15, none⟩ (.int .i64 (n15 : Int))) W.heap.size 28 (mcells (⟨3, f, t, 0, 0, 0, 0, p7, 0, 0, (n10 : Int), false, 0, [], (n14 : Int), (n15 : Int)⟩ : Msg) (.slice none 0 0)) from HB.out)
  have HRM := Lib.hid HR.out; have HKM := Lib.hid HK.out
  clear HB HR HK HT hst
  generalize hwz : (w3.setCell ⟨W.heap.size, 15, none⟩ (.int .i64 (n15 : Int))) = wz at *
  clear hwz
  have hu := Tryz.underlying28
  have hi1 : Hid ((Tryz.prog.info? 28).map (·.size) = some (mcells (⟨3, f, t, 0, 0, 0, 0, p7, 0, 0, (n10 : Int), false, 0, [], (n14 : Int), (n15 : Int)⟩ : Msg) (.slice none 0 0)).length) := Lib.hid (by kernel_rfl)
  have hi2 : Hid ((Tryz.prog.info? 28).map (·.size) = some (mcells (⟨3, f, t, 0, 0, 0, 0, p7, 0, 0, (n10 : Int), false, 0, [], (n14 : Int), (n15 : Int)⟩ : Msg) (.slice none 0 0)).toArray.size) := Lib.hid (by kernel_rfl)
  have h1c : Hid ((mcells (⟨3, f, t, 0, 0, 0, 0, p7, 0, 0, (n10 : Int), false, 0, [], (n14 : Int), (n15 : Int)⟩ : Msg) (.slice none 0 0)).toArray.all (·.oneCell') = true) := Lib.hid (by simp [mcells, Value.oneCell'])
  have HUH := Lib.hid hu; clear hu
  have HTH := Lib.hid (show wz.there (W.heap.size + 1) 0 (mcells (⟨3, f, t, 0, 0, 0, 0, p7, 0, 0, (n10 : Int), false, 0, [], (n14 : Int), (n15 : Int)⟩ : Msg) (.slice none 0 0)).toArray.size from HRM.out.there 0 16 (by simp [mcells]))
  have HRG := Lib.hid (range_of HBM.out)
  have HBS := Lib.hid (show Bk (wz.setCells (W.heap.size + 1) 0 (mcells (⟨3, f, t, 0, 0, 0, 0, p7, 0, 0, (n10 : Int), false, 0, [], (n14 : Int), (n15 : Int)⟩ : Msg) (.slice none 0 0))) (W.heap.size + 1) 28 (mcells (⟨3, f, t, 0, 0, 0, 0, p7, 0, 0, (n10 : Int), false, 0, [], (n14 : Int), (n15 : Int)⟩ : Msg) (.slice none 0 0)) from by
    have := Bk.sets (mcells (⟨3, f, t, 0, 0, 0, 0, p7, 0, 0, (n10 : Int), false, 0, [], (n14 : Int), (n15 : Int)⟩ : Msg) (.slice none 0 0)) 0 HRM.out (by simp [mcells])
    simpa [mcells] using this)
  have HKN := Lib.hid (show Kp (One b) W (wz.setCells (W.heap.size + 1) 0 (mcells (⟨3, f, t, 0, 0, 0, 0, p7, 0, 0, (n10 : Int), false, 0, [], (n14 : Int), (n15 : Int)⟩ : Msg) (.slice none 0 0))) from Kp.sets _ 0 HKM.out (.inr (by omega)))
  have HOX := Lib.hid (HO9.out _ (show Kp (One (W.heap.size + 1)) wz (wz.setCells (W.heap.size + 1) 0 (mcells (⟨3, f, t, 0, 0, 0, 0, p7, 0, 0, (n10 : Int), false, 0, [], (n14 : Int), (n15 : Int)⟩ : Msg) (.slice none 0 0))) from Kp.sets _ 0 (Kp.refl _ _) (.inl rfl)))
  have hfin := HP.out _ HOX.out HKN.out
  clear HO9 HOX HKN HP HRM HBM HKM
  have HFIN := Lib.hid hfin; clear hfin
  generalize hcs : mcells (⟨3, f, t, 0, 0, 0, 0, p7, 0, 0, (n10 : Int), false, 0, [], (n14 : Int), (n15 : Int)⟩ : Msg) (.slice none 0 0) = cs at *
  have HCS := Lib.hid hcs; clear hcs
  go_wp2_with (first
    | (refine wpList_load_mid rfl _ _ rfl W.heap.size 0 rfl cs _ HRG.out HUH.out rfl hi1.out ?_)
    | (refine wpList_store_mid rfl _ _ _ rfl (W.heap.size + 1) 0 cs.toArray rfl rfl HTH.out hi2.out h1c.out ?_))
  have B9 := HBS.out
  have hfin := HFIN.out
  clear HBS HFIN
  generalize wz.setCells (W.heap.size + 1) 0 cs = w9 at *
  rw [← HCS.out] at B9 hfin
  clear HRG HTH h1c hi1 hi2 HUH HCS
  have x0 := B9.cell 0
  have x1 := B9.cell 1
  have x2 := B9.cell 2
  have x3 := B9.cell 3
  have x4 := B9.cell 4
  have x5 := B9.cell 5
  have x6 := B9.cell 6
  have x7 := B9.cell 7
  have x8 := B9.cell 8
  have x9 := B9.cell 9
  have x10 := B9.cell 10
  have x11 := B9.cell 11
  have x12 := B9.cell 12
  have x13 := B9.cell 13
  have x14 := B9.cell 14
  have x15 := B9.cell 15
  simp only [mcells, List.getElem?_cons_zero, List.getElem?_cons_succ] at x0 x1 x2 x3 x4 x5 x6 x7 x8 x9 x10 x11 x12 x13 x14 x15
  clear B9
  refine bodyPost_ret (v := .agg (mcells (⟨3, f, t, 0, 0, 0, 0, p7, 0, 0, (n10 : Int), false, 0, [], (n14 : Int), (n15 : Int)⟩ : Msg) (.slice none 0 0)).toArray) (by simp [results, Tryz.results39, go_sem, x0, x1, x2, x3, x4, x5, x6, x7, x8, x9, x10, x11, x12, x13, x14, x15, mcells]) rfl ?_
  exact hfin
end Go.Proofs.YtbnpdghfbiacaaaGreat
