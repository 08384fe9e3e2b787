/- Several texts of this claim in one. No condition beyond what each theorem states. -/
import Derived.Test.YtbnpdghfbiacaaaGreatB39
import Derived.Test.YtbnpdghfbiacaaaGreatB07
import Derived.Test.YtbnpdghfbiacaaaGreatB40
import Derived.Test.YtbnpdghfbiacaaaGreatB41
/- The document's fields by contract, by ways. No condition beyond what each theorem states. -/
namespace Go.Proofs.YtbnpdghfbiacaaaGreat
open Go Go.RowKit Go.PlainAid

set_option maxRecDepth 100000 in
set_option maxHeartbeats 8000000 in
theorem fld_don (f t : Int) (s : Rd) (n10 : Nat) (s0 : Rd) (n14 : Nat) (s1 : Rd) (n15 : Nat) (s2 : Rd) (e0 : rdNum s = (n10, s0)) (e1 : rdNum s0 = (n14, s1)) (e2 : rdNum s1 = (n15, s2)) (b B : Nat) (W : World) (h : TkS W b B s) (hB : B ≤ b) (hm : s.1.length ≤ 1000) :
    Calls Tryz.prog 39 #[.pointer (some ⟨b, 0, none⟩), .agg (mcells (⟨4, f, t, 0, 0, 0, 0, [], 0, 0, 0, false, 0, [], 0, 0⟩ : Msg) (.slice none 0 0)).toArray] W fun e w' => ∃ sv, e = .returned (.agg (mcells (⟨4, f, t, 0, 0, 0, 0, [], 0, 0, (n10 : Int), false, 0, [], (n14 : Int), (n15 : Int)⟩ : Msg) sv).toArray) ∧ w'.ownsRow W.heap.size 3 1 sv (⟨4, f, t, 0, 0, 0, 0, [], 0, 0, (n10 : Int), false, 0, [], (n14 : Int), (n15 : Int)⟩ : Msg).stamp.length (ints (⟨4, f, t, 0, 0, 0, 0, [], 0, 0, (n10 : Int), false, 0, [], (n14 : Int), (n15 : Int)⟩ : Msg).stamp) ∧ Kp (One b) W w' := by
  have hbl := h.lt
  have hnb : ¬ One b W.heap.size := fun e => by
    have e : W.heap.size = b := e
    omega
  have hnr : ¬ One b (W.heap.size + 1) := fun e => by
    have e : W.heap.size + 1 = b := e
    omega
  have hgb : ¬ One W.heap.size b := fun e => by
    have e : b = W.heap.size := e
    omega
  have hgr : ¬ One W.heap.size (W.heap.size + 1) := fun e => by
    have e : W.heap.size + 1 = W.heap.size := e
    omega
  have hgB : ∀ g, One W.heap.size g → B ≤ g := fun g e => by
    have e : g = W.heap.size := e
    omega
  have HB := Lib.hid (show Bk ((W.alloc (.cells (mcells (⟨4, f, t, 0, 0, 0, 0, [], 0, 0, 0, false, 0, [], 0, 0⟩ : Msg) (.slice none 0 0)).toArray 28)).alloc (.cells (mcells {} (.slice none 0 0)).toArray 28)) W.heap.size 28 (mcells (⟨4, f, t, 0, 0, 0, 0, [], 0, 0, 0, false, 0, [], 0, 0⟩ : Msg) (.slice none 0 0)) from (Bk.new' rfl rfl).alloc _)
  have HR := Lib.hid (show Bk ((W.alloc (.cells (mcells (⟨4, f, t, 0, 0, 0, 0, [], 0, 0, 0, false, 0, [], 0, 0⟩ : Msg) (.slice none 0 0)).toArray 28)).alloc (.cells (mcells {} (.slice none 0 0)).toArray 28)) (W.heap.size + 1) 28 (mcells {} (.slice none 0 0)) from Bk.new' (by simp) rfl)
  have HK := Lib.hid (show Kp (One b) W ((W.alloc (.cells (mcells (⟨4, f, t, 0, 0, 0, 0, [], 0, 0, 0, false, 0, [], 0, 0⟩ : Msg) (.slice none 0 0)).toArray 28)).alloc (.cells (mcells {} (.slice none 0 0)).toArray 28)) from ((Kp.refl _ _).alloc _).alloc _)
  have HT := Lib.hid (show TkS ((W.alloc (.cells (mcells (⟨4, f, t, 0, 0, 0, 0, [], 0, 0, 0, false, 0, [], 0, 0⟩ : Msg) (.slice none 0 0)).toArray 28)).alloc (.cells (mcells {} (.slice none 0 0)).toArray 28)) b B s from h.no (((Kp.refl No _).alloc _).alloc _))
  clear h
  have hs0 : s.1.length ≤ 1000 := hm
  clear hm
  have pn := tnum_any b B s ((W.alloc (.cells (mcells (⟨4, f, t, 0, 0, 0, 0, [], 0, 0, 0, false, 0, [], 0, 0⟩ : Msg) (.slice none 0 0)).toArray 28)).alloc (.cells (mcells {} (.slice none 0 0)).toArray 28)) HT.out hB (by unfold maxLen; omega)
  have hs1 : s0.1.length ≤ 1000 := by have := rdNum_le s; rw [e0] at this; simp only at this; omega
  rw [e0] at pn
  simp only at pn
  simp only [mcells] at pn
  simp only [mcells]
  go_enter Tryz.func39, Tryz.ntmps39
  go_wp2_with fail
  refine pn.mono ?_
  rintro e w0 ⟨rfl, t0, k0⟩
  have HB := Lib.hid (HB.out.kp k0 hnb); have HR := Lib.hid (HR.out.kp k0 hnr); have HK := Lib.hid (HK.out.then_ k0 fun _ _ m => m); have HT := Lib.hid t0
  clear t0 k0 pn
  have zc : w0.cell? ⟨W.heap.size, 10, none⟩ = some (.int .i64 (0 : Int)) := HB.out.cell 10
  have yf := HB.out.frozen
  have HB := Lib.hid (show Bk (w0.setCell ⟨W.heap.size, 10, none⟩ (.int .i64 (n10 : Int))) W.heap.size 28 (mcells (⟨4, f, t, 0, 0, 0, 0, [], 0, 0, (n10 : Int), false, 0, [], 0, 0⟩ : Msg) (.slice none 0 0)) from HB.out.set_ 10 _)
  have HR := Lib.hid (HR.out.kp ((Kp.refl (One W.heap.size) w0).set (.inl rfl) 10 (.int .i64 (n10 : Int))) fun e => hgr e)
  have HK := Lib.hid (HK.out.set (.inr (Nat.le_refl _)) 10 (.int .i64 (n10 : Int)))
  have HT := Lib.hid (HT.out.kp ((Kp.refl (One W.heap.size) w0).set (.inl rfl) 10 (.int .i64 (n10 : Int))) hgb hgB)
  have pn := tnum_any b B s0 (w0.setCell ⟨W.heap.size, 10, none⟩ (.int .i64 (n10 : Int))) HT.out hB (by unfold maxLen; omega)
  have hs2 : s1.1.length ≤ 1000 := by have := rdNum_le s0; rw [e1] at this; simp only at this; omega
  rw [e1] at pn
  simp only at pn
  go_wp2_with fail
  refine pn.mono ?_
  rintro e w1 ⟨rfl, t1, k1⟩
  have HB := Lib.hid (HB.out.kp k1 hnb); have HR := Lib.hid (HR.out.kp k1 hnr); have HK := Lib.hid (HK.out.then_ k1 fun _ _ m => m); have HT := Lib.hid t1
  clear t1 k1 pn zc yf
  have zc : w1.cell? ⟨W.heap.size, 14, none⟩ = some (.int .i64 (0 : Int)) := HB.out.cell 14
  have yf := HB.out.frozen
  have HB := Lib.hid (show Bk (w1.setCell ⟨W.heap.size, 14, none⟩ (.int .i64 (n14 : Int))) W.heap.size 28 (mcells (⟨4, f, t, 0, 0, 0, 0, [], 0, 0, (n10 : Int), false, 0, [], (n14 : Int), 0⟩ : Msg) (.slice none 0 0)) from HB.out.set_ 14 _)
  have HR := Lib.hid (HR.out.kp ((Kp.refl (One W.heap.size) w1).set (.inl rfl) 14 (.int .i64 (n14 : Int))) fun e => hgr e)
  have HK := Lib.hid (HK.out.set (.inr (Nat.le_refl _)) 14 (.int .i64 (n14 : Int)))
  have HT := Lib.hid (HT.out.kp ((Kp.refl (One W.heap.size) w1).set (.inl rfl) 14 (.int .i64 (n14 : Int))) hgb hgB)
  have pn := tnum_any b B s1 (w1.setCell ⟨W.heap.size, 14, none⟩ (.int .i64 (n14 : Int))) HT.out hB (by unfold maxLen; omega)
  have hs3 : s2.1.length ≤ 1000 := by have := rdNum_le s1; rw [e2] at this; simp only at this; omega
  rw [e2] at pn
  simp only at pn
  go_wp2_with fail
  refine pn.mono ?_
  rintro e w2 ⟨rfl, t2, k2⟩
  have HB := Lib.hid (HB.out.kp k2 hnb); have HR := Lib.hid (HR.out.kp k2 hnr); have HK := Lib.hid (HK.out.then_ k2 fun _ _ m => m); have HT := Lib.hid t2
  clear t2 k2 pn zc yf
  have zc : w2.cell? ⟨W.heap.size, 15, none⟩ = some (.int .i64 (0 : Int)) := HB.out.cell 15
  have yf := HB.out.frozen
  have HB := Lib.hid (show Bk (w2.setCell ⟨W.heap.size, 15, none⟩ (.int .i64 (n15 : Int))) W.heap.size 28 (mcells (⟨4, f, t, 0, 0, 0, 0, [], 0, 0, (n10 : Int), false, 0, [], (n14 : Int), (n15 : Int)⟩ : Msg) (.slice none 0 0)) from HB.out.set_ 15 _)
  have HR := Lib.hid (HR.out.kp ((Kp.refl (One W.heap.size) w2).set (.inl rfl) 15 (.int .i64 (n15 : Int))) fun e => hgr e)
  have HK := Lib.hid (HK.out.set (.inr (Nat.le_refl _)) 15 (.int .i64 (n15 : Int)))
  have HT := Lib.hid (HT.out.kp ((Kp.refl (One W.heap.size) w2).set (.inl rfl) 15 (.int .i64 (n15 : Int))) hgb hgB)
  go_upto_region 40 with (fail)
  clear zc yf
  have hst : Hid (mcells (⟨4, f, t, 0, 0, 0, 0, [], 0, 0, (n10 : Int), false, 0, [], (n14 : Int), (n15 : Int)⟩ : Msg) (.slice none 0 0) = mcells (⟨4, f, t, 0, 0, 0, 0, [], 0, 0, (n10 : Int), false, 0, [], (n14 : Int), (n15 : Int)⟩ : Msg) (.slice none 0 0)) := Lib.hid rfl
  have HO9 : Hid (∀ W9 : World, Kp (One (W.heap.size + 1)) (w2.setCell ⟨W.heap.size, 15, none⟩ (.int .i64 (n15 : Int))) W9 → W9.ownsRow W.heap.size 3 1 (.slice none 0 0) (⟨4, f, t, 0, 0, 0, 0, [], 0, 0, (n10 : Int), false, 0, [], (n14 : Int), (n15 : Int)⟩ : Msg).stamp.length (ints (⟨4, f, t, 0, 0, 0, 0, [], 0, 0, (n10 : Int), false, 0, [], (n14 : Int), (n15 : Int)⟩ : Msg).stamp)) := Lib.hid (fun _ _ => nil_own _ _ _ _)
  have HP : Hid (∀ W9 : World, W9.ownsRow W.heap.size 3 1 (.slice none 0 0) (⟨4, f, t, 0, 0, 0, 0, [], 0, 0, (n10 : Int), false, 0, [], (n14 : Int), (n15 : Int)⟩ : Msg).stamp.length (ints (⟨4, f, t, 0, 0, 0, 0, [], 0, 0, (n10 : Int), false, 0, [], (n14 : Int), (n15 : Int)⟩ : Msg).stamp) → Kp (One b) W W9 → ∃ sv, Ending.returned (.agg (mcells (⟨4, f, t, 0, 0, 0, 0, [], 0, 0, (n10 : Int), false, 0, [], (n14 : Int), (n15 : Int)⟩ : Msg) (.slice none 0 0)).toArray) = .returned (.agg (mcells (⟨4, f, t, 0, 0, 0, 0, [], 0, 0, (n10 : Int), false, 0, [], (n14 : Int), (n15 : Int)⟩ : Msg) sv).toArray) ∧ W9.ownsRow W.heap.size 3 1 sv (⟨4, f, t, 0, 0, 0, 0, [], 0, 0, (n10 : Int), false, 0, [], (n14 : Int), (n15 : Int)⟩ : Msg).stamp.length (ints (⟨4, f, t, 0, 0, 0, 0, [], 0, 0, (n10 : Int), false, 0, [], (n14 : Int), (n15 : Int)⟩ : Msg).stamp) ∧ Kp (One b) W W9) := Lib.hid fun W9 o k => ⟨_, rfl, o, k⟩
  have HBM := Lib.hid (show Bk (w2.setCell ⟨W.heap.size, 15, none⟩ (.int .i64 (n15 : Int))) W.heap.size 28 (mcells (⟨4, f, t, 0, 0, 0, 0, [], 0, 0, (n10 : Int), false, 0, [], (n14 : Int), (n15 : Int)⟩ : Msg) (.slice none 0 0)) from HB.out)
  have HRM := Lib.hid HR.out; have HKM := Lib.hid HK.out
  clear HB HR HK HT hst
  generalize hwz : (w2.setCell ⟨W.heap.size, 15, none⟩ (.int .i64 (n15 : Int))) = wz at *
  clear hwz
  have hu := Tryz.underlying28
  have hi1 : Hid ((Tryz.prog.info? 28).map (·.size) = some (mcells (⟨4, f, t, 0, 0, 0, 0, [], 0, 0, (n10 : Int), false, 0, [], (n14 : Int), (n15 : Int)⟩ : Msg) (.slice none 0 0)).length) := Lib.hid (by kernel_rfl)
  have hi2 : Hid ((Tryz.prog.info? 28).map (·.size) = some (mcells (⟨4, f, t, 0, 0, 0, 0, [], 0, 0, (n10 : Int), false, 0, [], (n14 : Int), (n15 : Int)⟩ : Msg) (.slice none 0 0)).toArray.size) := Lib.hid (by kernel_rfl)
  have h1c : Hid ((mcells (⟨4, f, t, 0, 0, 0, 0, [], 0, 0, (n10 : Int), false, 0, [], (n14 : Int), (n15 : Int)⟩ : Msg) (.slice none 0 0)).toArray.all (·.oneCell') = true) := Lib.hid (by simp [mcells, Value.oneCell'])
  have HUH := Lib.hid hu; clear hu
  have HTH := Lib.hid (show wz.there (W.heap.size + 1) 0 (mcells (⟨4, f, t, 0, 0, 0, 0, [], 0, 0, (n10 : Int), false, 0, [], (n14 : Int), (n15 : Int)⟩ : Msg) (.slice none 0 0)).toArray.size from HRM.out.there 0 16 (by simp [mcells]))
  have HRG := Lib.hid (range_of HBM.out)
  have HBS := Lib.hid (show Bk (wz.setCells (W.heap.size + 1) 0 (mcells (⟨4, f, t, 0, 0, 0, 0, [], 0, 0, (n10 : Int), false, 0, [], (n14 : Int), (n15 : Int)⟩ : Msg) (.slice none 0 0))) (W.heap.size + 1) 28 (mcells (⟨4, f, t, 0, 0, 0, 0, [], 0, 0, (n10 : Int), false, 0, [], (n14 : Int), (n15 : Int)⟩ : Msg) (.slice none 0 0)) from by
    have := Bk.sets (mcells (⟨4, f, t, 0, 0, 0, 0, [], 0, 0, (n10 : Int), false, 0, [], (n14 : Int), (n15 : Int)⟩ : Msg) (.slice none 0 0)) 0 HRM.out (by simp [mcells])
    simpa [mcells] using this)
  have HKN := Lib.hid (show Kp (One b) W (wz.setCells (W.heap.size + 1) 0 (mcells (⟨4, f, t, 0, 0, 0, 0, [], 0, 0, (n10 : Int), false, 0, [], (n14 : Int), (n15 : Int)⟩ : Msg) (.slice none 0 0))) from Kp.sets _ 0 HKM.out (.inr (by omega)))
  have HOX := Lib.hid (HO9.out _ (show Kp (One (W.heap.size + 1)) wz (wz.setCells (W.heap.size + 1) 0 (mcells (⟨4, f, t, 0, 0, 0, 0, [], 0, 0, (n10 : Int), false, 0, [], (n14 : Int), (n15 : Int)⟩ : Msg) (.slice none 0 0))) from Kp.sets _ 0 (Kp.refl _ _) (.inl rfl)))
  have hfin := HP.out _ HOX.out HKN.out
  clear HO9 HOX HKN HP HRM HBM HKM
  have HFIN := Lib.hid hfin; clear hfin
  generalize hcs : mcells (⟨4, f, t, 0, 0, 0, 0, [], 0, 0, (n10 : Int), false, 0, [], (n14 : Int), (n15 : Int)⟩ : Msg) (.slice none 0 0) = cs at *
  have HCS := Lib.hid hcs; clear hcs
  go_wp2_with (first
    | (refine wpList_load_mid rfl _ _ rfl W.heap.size 0 rfl cs _ HRG.out HUH.out rfl hi1.out ?_)
    | (refine wpList_store_mid rfl _ _ _ rfl (W.heap.size + 1) 0 cs.toArray rfl rfl HTH.out hi2.out h1c.out ?_))
  have B9 := HBS.out
  have hfin := HFIN.out
  clear HBS HFIN
  generalize wz.setCells (W.heap.size + 1) 0 cs = w9 at *
  rw [← HCS.out] at B9 hfin
  clear HRG HTH h1c hi1 hi2 HUH HCS
  have x0 := B9.cell 0
  have x1 := B9.cell 1
  have x2 := B9.cell 2
  have x3 := B9.cell 3
  have x4 := B9.cell 4
  have x5 := B9.cell 5
  have x6 := B9.cell 6
  have x7 := B9.cell 7
  have x8 := B9.cell 8
  have x9 := B9.cell 9
  have x10 := B9.cell 10
  have x11 := B9.cell 11
  have x12 := B9.cell 12
  have x13 := B9.cell 13
  have x14 := B9.cell 14
  have x15 := B9.cell 15
  simp only [mcells, List.getElem?_cons_zero, List.getElem?_cons_succ] at x0 x1 x2 x3 x4 x5 x6 x7 x8 x9 x10 x11 x12 x13 x14 x15
  clear B9
  refine bodyPost_ret (v := .agg (mcells (⟨4, f, t, 0, 0, 0, 0, [], 0, 0, (n10 : Int), false, 0, [], (n14 : Int), (n15 : Int)⟩ : Msg) (.slice none 0 0)).toArray) (by simp [results, Tryz.results39, go_sem, x0, x1, x2, x3, x4, x5, x6, x7, x8, x9, x10, x11, x12, x13, x14, x15, mcells]) rfl ?_
  exact hfin
end Go.Proofs.YtbnpdghfbiacaaaGreat

/- The document's fields by contract, by ways. No condition beyond what each theorem states. -/
namespace Go.Proofs.YtbnpdghfbiacaaaGreat
open Go Go.RowKit Go.PlainAid

set_option maxRecDepth 100000 in
set_option maxHeartbeats 8000000 in
theorem fld_op (f t : Int) (s : Rd) (p7 : List UInt8) (s0 : Rd) (n8 : Nat) (s1 : Rd) (e0 : rdText 200 s = (p7, s0)) (e1 : rdNum s0 = (n8, s1)) (b B : Nat) (W : World) (h : TkS W b B s) (hB : B ≤ b) (hm : s.1.length ≤ 1000) :
    Calls Tryz.prog 39 #[.pointer (some ⟨b, 0, none⟩), .agg (mcells (⟨5, f, t, 0, 0, 0, 0, [], 0, 0, 0, false, 0, [], 0, 0⟩ : Msg) (.slice none 0 0)).toArray] W fun e w' => ∃ sv, e = .returned (.agg (mcells (⟨5, f, t, 0, 0, 0, 0, p7, (n8 : Int), 0, 0, false, 0, cntsI s1, 0, 0⟩ : Msg) sv).toArray) ∧ w'.ownsRow W.heap.size 3 1 sv (⟨5, f, t, 0, 0, 0, 0, p7, (n8 : Int), 0, 0, false, 0, cntsI s1, 0, 0⟩ : Msg).stamp.length (ints (⟨5, f, t, 0, 0, 0, 0, p7, (n8 : Int), 0, 0, false, 0, cntsI s1, 0, 0⟩ : Msg).stamp) ∧ Kp (One b) W w' := by
  have hbl := h.lt
  have hnb : ¬ One b W.heap.size := fun e => by
    have e : W.heap.size = b := e
    omega
  have hnr : ¬ One b (W.heap.size + 1) := fun e => by
    have e : W.heap.size + 1 = b := e
    omega
  have hgb : ¬ One W.heap.size b := fun e => by
    have e : b = W.heap.size := e
    omega
  have hgr : ¬ One W.heap.size (W.heap.size + 1) := fun e => by
    have e : W.heap.size + 1 = W.heap.size := e
    omega
  have hgB : ∀ g, One W.heap.size g → B ≤ g := fun g e => by
    have e : g = W.heap.size := e
    omega
  have HB := Lib.hid (show Bk ((W.alloc (.cells (mcells (⟨5, f, t, 0, 0, 0, 0, [], 0, 0, 0, false, 0, [], 0, 0⟩ : Msg) (.slice none 0 0)).toArray 28)).alloc (.cells (mcells {} (.slice none 0 0)).toArray 28)) W.heap.size 28 (mcells (⟨5, f, t, 0, 0, 0, 0, [], 0, 0, 0, false, 0, [], 0, 0⟩ : Msg) (.slice none 0 0)) from (Bk.new' rfl rfl).alloc _)
  have HR := Lib.hid (show Bk ((W.alloc (.cells (mcells (⟨5, f, t, 0, 0, 0, 0, [], 0, 0, 0, false, 0, [], 0, 0⟩ : Msg) (.slice none 0 0)).toArray 28)).alloc (.cells (mcells {} (.slice none 0 0)).toArray 28)) (W.heap.size + 1) 28 (mcells {} (.slice none 0 0)) from Bk.new' (by simp) rfl)
  have HK := Lib.hid (show Kp (One b) W ((W.alloc (.cells (mcells (⟨5, f, t, 0, 0, 0, 0, [], 0, 0, 0, false, 0, [], 0, 0⟩ : Msg) (.slice none 0 0)).toArray 28)).alloc (.cells (mcells {} (.slice none 0 0)).toArray 28)) from ((Kp.refl _ _).alloc _).alloc _)
  have HT := Lib.hid (show TkS ((W.alloc (.cells (mcells (⟨5, f, t, 0, 0, 0, 0, [], 0, 0, 0, false, 0, [], 0, 0⟩ : Msg) (.slice none 0 0)).toArray 28)).alloc (.cells (mcells {} (.slice none 0 0)).toArray 28)) b B s from h.no (((Kp.refl No _).alloc _).alloc _))
  clear h
  have hs0 : s.1.length ≤ 1000 := hm
  clear hm
  have pn := ttext_any b B s ((W.alloc (.cells (mcells (⟨5, f, t, 0, 0, 0, 0, [], 0, 0, 0, false, 0, [], 0, 0⟩ : Msg) (.slice none 0 0)).toArray 28)).alloc (.cells (mcells {} (.slice none 0 0)).toArray 28)) HT.out hB (by unfold maxLen; omega)
  have hs1 : s0.1.length ≤ 1000 := by have := (rdText_le 200 s).1; rw [e0] at this; simp only at this; omega
  rw [e0] at pn
  simp only at pn
  simp only [mcells] at pn
  simp only [mcells]
  go_enter Tryz.func39, Tryz.ntmps39
  go_wp2_with fail
  refine pn.mono ?_
  rintro e w0 ⟨rfl, t0, k0⟩
  have HB := Lib.hid (HB.out.kp k0 hnb); have HR := Lib.hid (HR.out.kp k0 hnr); have HK := Lib.hid (HK.out.then_ k0 fun _ _ m => m); have HT := Lib.hid t0
  clear t0 k0 pn
  have zc : w0.cell? ⟨W.heap.size, 7, none⟩ = some (.string ⟨([] : List UInt8).toArray⟩) := HB.out.cell 7
  have yf := HB.out.frozen
  have HB := Lib.hid (show Bk (w0.setCell ⟨W.heap.size, 7, none⟩ (.string ⟨p7.toArray⟩)) W.heap.size 28 (mcells (⟨5, f, t, 0, 0, 0, 0, p7, 0, 0, 0, false, 0, [], 0, 0⟩ : Msg) (.slice none 0 0)) from HB.out.set_ 7 _)
  have HR := Lib.hid (HR.out.kp ((Kp.refl (One W.heap.size) w0).set (.inl rfl) 7 (.string ⟨p7.toArray⟩)) fun e => hgr e)
  have HK := Lib.hid (HK.out.set (.inr (Nat.le_refl _)) 7 (.string ⟨p7.toArray⟩))
  have HT := Lib.hid (HT.out.kp ((Kp.refl (One W.heap.size) w0).set (.inl rfl) 7 (.string ⟨p7.toArray⟩)) hgb hgB)
  have pn := tnum_any b B s0 (w0.setCell ⟨W.heap.size, 7, none⟩ (.string ⟨p7.toArray⟩)) HT.out hB (by unfold maxLen; omega)
  have hs2 : s1.1.length ≤ 1000 := by have := rdNum_le s0; rw [e1] at this; simp only at this; omega
  rw [e1] at pn
  simp only at pn
  go_wp2_with fail
  refine pn.mono ?_
  rintro e w1 ⟨rfl, t1, k1⟩
  have HB := Lib.hid (HB.out.kp k1 hnb); have HR := Lib.hid (HR.out.kp k1 hnr); have HK := Lib.hid (HK.out.then_ k1 fun _ _ m => m); have HT := Lib.hid t1
  clear t1 k1 pn zc yf
  have zc : w1.cell? ⟨W.heap.size, 8, none⟩ = some (.int .i64 (0 : Int)) := HB.out.cell 8
  have yf := HB.out.frozen
  have HB := Lib.hid (show Bk (w1.setCell ⟨W.heap.size, 8, none⟩ (.int .i64 (n8 : Int))) W.heap.size 28 (mcells (⟨5, f, t, 0, 0, 0, 0, p7, (n8 : Int), 0, 0, false, 0, [], 0, 0⟩ : Msg) (.slice none 0 0)) from HB.out.set_ 8 _)
  have HR := Lib.hid (HR.out.kp ((Kp.refl (One W.heap.size) w1).set (.inl rfl) 8 (.int .i64 (n8 : Int))) fun e => hgr e)
  have HK := Lib.hid (HK.out.set (.inr (Nat.le_refl _)) 8 (.int .i64 (n8 : Int)))
  have HT := Lib.hid (HT.out.kp ((Kp.refl (One W.heap.size) w1).set (.inl rfl) 8 (.int .i64 (n8 : Int))) hgb hgB)
  have pn := tcnts_any b B s1 (w1.setCell ⟨W.heap.size, 8, none⟩ (.int .i64 (n8 : Int))) HT.out hB (by unfold maxLen; omega)
  go_wp2_with fail
  refine pn.mono ?_
  rintro e w2 ⟨cv, rfl, co, t2, k2⟩
  obtain ⟨CA, cc, rfl, _⟩ := own_len co
  have hlo : W.heap.size ≤ (w1.setCell ⟨W.heap.size, 8, none⟩ (.int .i64 (n8 : Int))).heap.size := HK.out.size
  have HO := Lib.hid (own_mono (base' := W.heap.size) co hlo)
  clear co hlo
  have HB := Lib.hid (HB.out.kp k2 hnb); have HR := Lib.hid (HR.out.kp k2 hnr); have HK := Lib.hid (HK.out.then_ k2 fun _ _ m => m); have HT := Lib.hid t2
  clear t2 k2 pn zc yf
  have HBo := HB
  have zc : w2.cell? ⟨W.heap.size, 13, none⟩ = some (.slice none 0 0) := HB.out.cell 13
  have yf := HB.out.frozen
  have HB := Lib.hid (show Bk (w2.setCell ⟨W.heap.size, 13, none⟩ (.slice CA (cntsI s1).length cc)) W.heap.size 28 (mcells (⟨5, f, t, 0, 0, 0, 0, p7, (n8 : Int), 0, 0, false, 0, cntsI s1, 0, 0⟩ : Msg) (.slice CA (cntsI s1).length cc)) from HB.out.set_ 13 _)
  have HR := Lib.hid (HR.out.kp ((Kp.refl (One W.heap.size) w2).set (.inl rfl) 13 (.slice CA (cntsI s1).length cc)) fun e => hgr e)
  have HK := Lib.hid (HK.out.set (.inr (Nat.le_refl _)) 13 (.slice CA (cntsI s1).length cc))
  have HT := Lib.hid (HT.out.kp ((Kp.refl (One W.heap.size) w2).set (.inl rfl) 13 (.slice CA (cntsI s1).length cc)) hgb hgB)
  have HO := Lib.hid (own_kp HO.out ((Kp.refl (One W.heap.size) w2).set (.inl rfl) 13 (.slice CA (cntsI s1).length cc)) fun g e m => own_ne HO.out (show Bk w2 W.heap.size 28 _ from HBo.out) (by decide) (by rw [e, show g = W.heap.size from m]))
  go_upto_region 40 with (fail)
  clear zc yf
  have hst : Hid (mcells (⟨5, f, t, 0, 0, 0, 0, p7, (n8 : Int), 0, 0, false, 0, cntsI s1, 0, 0⟩ : Msg) (.slice CA (cntsI s1).length cc) = mcells (⟨5, f, t, 0, 0, 0, 0, p7, (n8 : Int), 0, 0, false, 0, cntsI s1, 0, 0⟩ : Msg) (.slice CA (cntsI s1).length cc)) := Lib.hid rfl
  have HO9 : Hid (∀ W9 : World, Kp (One (W.heap.size + 1)) (w2.setCell ⟨W.heap.size, 13, none⟩ (.slice CA (cntsI s1).length cc)) W9 → W9.ownsRow W.heap.size 3 1 (.slice CA (cntsI s1).length cc) (⟨5, f, t, 0, 0, 0, 0, p7, (n8 : Int), 0, 0, false, 0, cntsI s1, 0, 0⟩ : Msg).stamp.length (ints (⟨5, f, t, 0, 0, 0, 0, p7, (n8 : Int), 0, 0, false, 0, cntsI s1, 0, 0⟩ : Msg).stamp)) := Lib.hid (fun W9 k9 => own_kp HO.out k9 fun g e m => own_ne HO.out HR.out (by decide) (by rw [e, show g = W.heap.size + 1 from m]))
  have HP : Hid (∀ W9 : World, W9.ownsRow W.heap.size 3 1 (.slice CA (cntsI s1).length cc) (⟨5, f, t, 0, 0, 0, 0, p7, (n8 : Int), 0, 0, false, 0, cntsI s1, 0, 0⟩ : Msg).stamp.length (ints (⟨5, f, t, 0, 0, 0, 0, p7, (n8 : Int), 0, 0, false, 0, cntsI s1, 0, 0⟩ : Msg).stamp) → Kp (One b) W W9 → ∃ sv, Ending.returned (.agg (mcells (⟨5, f, t, 0, 0, 0, 0, p7, (n8 : Int), 0, 0, false, 0, cntsI s1, 0, 0⟩ : Msg) (.slice CA (cntsI s1).length cc)).toArray) = .returned (.agg (mcells (⟨5, f, t, 0, 0, 0, 0, p7, (n8 : Int), 0, 0, false, 0, cntsI s1, 0, 0⟩ : Msg) sv).toArray) ∧ W9.ownsRow W.heap.size 3 1 sv (⟨5, f, t, 0, 0, 0, 0, p7, (n8 : Int), 0, 0, false, 0, cntsI s1, 0, 0⟩ : Msg).stamp.length (ints (⟨5, f, t, 0, 0, 0, 0, p7, (n8 : Int), 0, 0, false, 0, cntsI s1, 0, 0⟩ : Msg).stamp) ∧ Kp (One b) W W9) := Lib.hid fun W9 o k => ⟨_, rfl, o, k⟩
  have HBM := Lib.hid (show Bk (w2.setCell ⟨W.heap.size, 13, none⟩ (.slice CA (cntsI s1).length cc)) W.heap.size 28 (mcells (⟨5, f, t, 0, 0, 0, 0, p7, (n8 : Int), 0, 0, false, 0, cntsI s1, 0, 0⟩ : Msg) (.slice CA (cntsI s1).length cc)) from HB.out)
  have HRM := Lib.hid HR.out; have HKM := Lib.hid HK.out
  clear HB HR HK HT hst
  generalize hwz : (w2.setCell ⟨W.heap.size, 13, none⟩ (.slice CA (cntsI s1).length cc)) = wz at *
  clear hwz
  have hu := Tryz.underlying28
  have hi1 : Hid ((Tryz.prog.info? 28).map (·.size) = some (mcells (⟨5, f, t, 0, 0, 0, 0, p7, (n8 : Int), 0, 0, false, 0, cntsI s1, 0, 0⟩ : Msg) (.slice CA (cntsI s1).length cc)).length) := Lib.hid (by kernel_rfl)
  have hi2 : Hid ((Tryz.prog.info? 28).map (·.size) = some (mcells (⟨5, f, t, 0, 0, 0, 0, p7, (n8 : Int), 0, 0, false, 0, cntsI s1, 0, 0⟩ : Msg) (.slice CA (cntsI s1).length cc)).toArray.size) := Lib.hid (by kernel_rfl)
  have h1c : Hid ((mcells (⟨5, f, t, 0, 0, 0, 0, p7, (n8 : Int), 0, 0, false, 0, cntsI s1, 0, 0⟩ : Msg) (.slice CA (cntsI s1).length cc)).toArray.all (·.oneCell') = true) := Lib.hid (by simp [mcells, Value.oneCell'])
  have HUH := Lib.hid hu; clear hu
  have HTH := Lib.hid (show wz.there (W.heap.size + 1) 0 (mcells (⟨5, f, t, 0, 0, 0, 0, p7, (n8 : Int), 0, 0, false, 0, cntsI s1, 0, 0⟩ : Msg) (.slice CA (cntsI s1).length cc)).toArray.size from HRM.out.there 0 16 (by simp [mcells]))
  have HRG := Lib.hid (range_of HBM.out)
  have HBS := Lib.hid (show Bk (wz.setCells (W.heap.size + 1) 0 (mcells (⟨5, f, t, 0, 0, 0, 0, p7, (n8 : Int), 0, 0, false, 0, cntsI s1, 0, 0⟩ : Msg) (.slice CA (cntsI s1).length cc))) (W.heap.size + 1) 28 (mcells (⟨5, f, t, 0, 0, 0, 0, p7, (n8 : Int), 0, 0, false, 0, cntsI s1, 0, 0⟩ : Msg) (.slice CA (cntsI s1).length cc)) from by
    have := Bk.sets (mcells (⟨5, f, t, 0, 0, 0, 0, p7, (n8 : Int), 0, 0, false, 0, cntsI s1, 0, 0⟩ : Msg) (.slice CA (cntsI s1).length cc)) 0 HRM.out (by simp [mcells])
    simpa [mcells] using this)
  have HKN := Lib.hid (show Kp (One b) W (wz.setCells (W.heap.size + 1) 0 (mcells (⟨5, f, t, 0, 0, 0, 0, p7, (n8 : Int), 0, 0, false, 0, cntsI s1, 0, 0⟩ : Msg) (.slice CA (cntsI s1).length cc))) from Kp.sets _ 0 HKM.out (.inr (by omega)))
  have HOX := Lib.hid (HO9.out _ (show Kp (One (W.heap.size + 1)) wz (wz.setCells (W.heap.size + 1) 0 (mcells (⟨5, f, t, 0, 0, 0, 0, p7, (n8 : Int), 0, 0, false, 0, cntsI s1, 0, 0⟩ : Msg) (.slice CA (cntsI s1).length cc))) from Kp.sets _ 0 (Kp.refl _ _) (.inl rfl)))
  have hfin := HP.out _ HOX.out HKN.out
  clear HO9 HOX HKN HP HRM HBM HKM
  have HFIN := Lib.hid hfin; clear hfin
  generalize hcs : mcells (⟨5, f, t, 0, 0, 0, 0, p7, (n8 : Int), 0, 0, false, 0, cntsI s1, 0, 0⟩ : Msg) (.slice CA (cntsI s1).length cc) = cs at *
  have HCS := Lib.hid hcs; clear hcs
  go_wp2_with (first
    | (refine wpList_load_mid rfl _ _ rfl W.heap.size 0 rfl cs _ HRG.out HUH.out rfl hi1.out ?_)
    | (refine wpList_store_mid rfl _ _ _ rfl (W.heap.size + 1) 0 cs.toArray rfl rfl HTH.out hi2.out h1c.out ?_))
  have B9 := HBS.out
  have hfin := HFIN.out
  clear HBS HFIN
  generalize wz.setCells (W.heap.size + 1) 0 cs = w9 at *
  rw [← HCS.out] at B9 hfin
  clear HRG HTH h1c hi1 hi2 HUH HCS
  have x0 := B9.cell 0
  have x1 := B9.cell 1
  have x2 := B9.cell 2
  have x3 := B9.cell 3
  have x4 := B9.cell 4
  have x5 := B9.cell 5
  have x6 := B9.cell 6
  have x7 := B9.cell 7
  have x8 := B9.cell 8
  have x9 := B9.cell 9
  have x10 := B9.cell 10
  have x11 := B9.cell 11
  have x12 := B9.cell 12
  have x13 := B9.cell 13
  have x14 := B9.cell 14
  have x15 := B9.cell 15
  simp only [mcells, List.getElem?_cons_zero, List.getElem?_cons_succ] at x0 x1 x2 x3 x4 x5 x6 x7 x8 x9 x10 x11 x12 x13 x14 x15
  clear B9
  refine bodyPost_ret (v := .agg (mcells (⟨5, f, t, 0, 0, 0, 0, p7, (n8 : Int), 0, 0, false, 0, cntsI s1, 0, 0⟩ : Msg) (.slice CA (cntsI s1).length cc)).toArray) (by simp [results, Tryz.results39, go_sem, x0, x1, x2, x3, x4, x5, x6, x7, x8, x9, x10, x11, x12, x13, x14, x15, mcells]) rfl ?_
  exact hfin
end Go.Proofs.YtbnpdghfbiacaaaGreat

/- The document's fields by contract, by ways. No condition beyond what each theorem states. -/
namespace Go.Proofs.YtbnpdghfbiacaaaGreat
open Go Go.RowKit Go.PlainAid

set_option maxRecDepth 100000 in
set_option maxHeartbeats 8000000 in
theorem fld_oth (k : Int) (q1 : k ≠ 1) (q2 : k ≠ 2) (q3 : k ≠ 3) (q4 : k ≠ 4) (q5 : k ≠ 5) (f t : Int) (s : Rd) (b B : Nat) (W : World) (h : TkS W b B s) (hB : B ≤ b) (hm : s.1.length ≤ 1000) :
    Calls Tryz.prog 39 #[.pointer (some ⟨b, 0, none⟩), .agg (mcells (⟨k, f, t, 0, 0, 0, 0, [], 0, 0, 0, false, 0, [], 0, 0⟩ : Msg) (.slice none 0 0)).toArray] W fun e w' => ∃ sv, e = .returned (.agg (mcells (⟨k, f, t, 0, 0, 0, 0, [], 0, 0, 0, false, 0, [], 0, 0⟩ : Msg) sv).toArray) ∧ w'.ownsRow W.heap.size 3 1 sv (⟨k, f, t, 0, 0, 0, 0, [], 0, 0, 0, false, 0, [], 0, 0⟩ : Msg).stamp.length (ints (⟨k, f, t, 0, 0, 0, 0, [], 0, 0, 0, false, 0, [], 0, 0⟩ : Msg).stamp) ∧ Kp (One b) W w' := by
  have d1 : (k == 1) = false := by rw [beq_eq_false_iff_ne]; exact q1
  have d2 : (k == 2) = false := by rw [beq_eq_false_iff_ne]; exact q2
  have d3 : (k == 3) = false := by rw [beq_eq_false_iff_ne]; exact q3
  have d4 : (k == 4) = false := by rw [beq_eq_false_iff_ne]; exact q4
  have d5 : (k == 5) = false := by rw [beq_eq_false_iff_ne]; exact q5
  clear q1 q2 q3 q4 q5
  have hbl := h.lt
  have hnb : ¬ One b W.heap.size := fun e => by
    have e : W.heap.size = b := e
    omega
  have hnr : ¬ One b (W.heap.size + 1) := fun e => by
    have e : W.heap.size + 1 = b := e
    omega
  have hgb : ¬ One W.heap.size b := fun e => by
    have e : b = W.heap.size := e
    omega
  have hgr : ¬ One W.heap.size (W.heap.size + 1) := fun e => by
    have e : W.heap.size + 1 = W.heap.size := e
    omega
  have hgB : ∀ g, One W.heap.size g → B ≤ g := fun g e => by
    have e : g = W.heap.size := e
    omega
  have HB := Lib.hid (show Bk ((W.alloc (.cells (mcells (⟨k, f, t, 0, 0, 0, 0, [], 0, 0, 0, false, 0, [], 0, 0⟩ : Msg) (.slice none 0 0)).toArray 28)).alloc (.cells (mcells {} (.slice none 0 0)).toArray 28)) W.heap.size 28 (mcells (⟨k, f, t, 0, 0, 0, 0, [], 0, 0, 0, false, 0, [], 0, 0⟩ : Msg) (.slice none 0 0)) from (Bk.new' rfl rfl).alloc _)
  have HR := Lib.hid (show Bk ((W.alloc (.cells (mcells (⟨k, f, t, 0, 0, 0, 0, [], 0, 0, 0, false, 0, [], 0, 0⟩ : Msg) (.slice none 0 0)).toArray 28)).alloc (.cells (mcells {} (.slice none 0 0)).toArray 28)) (W.heap.size + 1) 28 (mcells {} (.slice none 0 0)) from Bk.new' (by simp) rfl)
  have HK := Lib.hid (show Kp (One b) W ((W.alloc (.cells (mcells (⟨k, f, t, 0, 0, 0, 0, [], 0, 0, 0, false, 0, [], 0, 0⟩ : Msg) (.slice none 0 0)).toArray 28)).alloc (.cells (mcells {} (.slice none 0 0)).toArray 28)) from ((Kp.refl _ _).alloc _).alloc _)
  have HT := Lib.hid (show TkS ((W.alloc (.cells (mcells (⟨k, f, t, 0, 0, 0, 0, [], 0, 0, 0, false, 0, [], 0, 0⟩ : Msg) (.slice none 0 0)).toArray 28)).alloc (.cells (mcells {} (.slice none 0 0)).toArray 28)) b B s from h.no (((Kp.refl No _).alloc _).alloc _))
  clear h
  have hs0 : s.1.length ≤ 1000 := hm
  clear hm
  simp only [mcells]
  go_enter Tryz.func39, Tryz.ntmps39
  go_upto_region 40 with (fail)
  have hst : Hid (mcells (⟨k, f, t, 0, 0, 0, 0, [], 0, 0, 0, false, 0, [], 0, 0⟩ : Msg) (.slice none 0 0) = mcells (⟨k, f, t, 0, 0, 0, 0, [], 0, 0, 0, false, 0, [], 0, 0⟩ : Msg) (.slice none 0 0)) := Lib.hid rfl
  have HO9 : Hid (∀ W9 : World, Kp (One (W.heap.size + 1)) ((W.alloc (.cells (mcells (⟨k, f, t, 0, 0, 0, 0, [], 0, 0, 0, false, 0, [], 0, 0⟩ : Msg) (.slice none 0 0)).toArray 28)).alloc (.cells (mcells {} (.slice none 0 0)).toArray 28)) W9 → W9.ownsRow W.heap.size 3 1 (.slice none 0 0) (⟨k, f, t, 0, 0, 0, 0, [], 0, 0, 0, false, 0, [], 0, 0⟩ : Msg).stamp.length (ints (⟨k, f, t, 0, 0, 0, 0, [], 0, 0, 0, false, 0, [], 0, 0⟩ : Msg).stamp)) := Lib.hid (fun _ _ => nil_own _ _ _ _)
  have HP : Hid (∀ W9 : World, W9.ownsRow W.heap.size 3 1 (.slice none 0 0) (⟨k, f, t, 0, 0, 0, 0, [], 0, 0, 0, false, 0, [], 0, 0⟩ : Msg).stamp.length (ints (⟨k, f, t, 0, 0, 0, 0, [], 0, 0, 0, false, 0, [], 0, 0⟩ : Msg).stamp) → Kp (One b) W W9 → ∃ sv, Ending.returned (.agg (mcells (⟨k, f, t, 0, 0, 0, 0, [], 0, 0, 0, false, 0, [], 0, 0⟩ : Msg) (.slice none 0 0)).toArray) = .returned (.agg (mcells (⟨k, f, t, 0, 0, 0, 0, [], 0, 0, 0, false, 0, [], 0, 0⟩ : Msg) sv).toArray) ∧ W9.ownsRow W.heap.size 3 1 sv (⟨k, f, t, 0, 0, 0, 0, [], 0, 0, 0, false, 0, [], 0, 0⟩ : Msg).stamp.length (ints (⟨k, f, t, 0, 0, 0, 0, [], 0, 0, 0, false, 0, [], 0, 0⟩ : Msg).stamp) ∧ Kp (One b) W W9) := Lib.hid fun W9 o k => ⟨_, rfl, o, k⟩
  have HBM := Lib.hid (show Bk ((W.alloc (.cells (mcells (⟨k, f, t, 0, 0, 0, 0, [], 0, 0, 0, false, 0, [], 0, 0⟩ : Msg) (.slice none 0 0)).toArray 28)).alloc (.cells (mcells {} (.slice none 0 0)).toArray 28)) W.heap.size 28 (mcells (⟨k, f, t, 0, 0, 0, 0, [], 0, 0, 0, false, 0, [], 0, 0⟩ : Msg) (.slice none 0 0)) from HB.out)
  have HRM := Lib.hid HR.out; have HKM := Lib.hid HK.out
  clear HB HR HK HT hst
  generalize hwz : ((W.alloc (.cells (mcells (⟨k, f, t, 0, 0, 0, 0, [], 0, 0, 0, false, 0, [], 0, 0⟩ : Msg) (.slice none 0 0)).toArray 28)).alloc (.cells (mcells {} (.slice none 0 0)).toArray 28)) = wz at *
  simp only [mcells] at hwz
  rw [hwz]
  clear hwz
  have hu := Tryz.underlying28
  have hi1 : Hid ((Tryz.prog.info? 28).map (·.size) = some (mcells (⟨k, f, t, 0, 0, 0, 0, [], 0, 0, 0, false, 0, [], 0, 0⟩ : Msg) (.slice none 0 0)).length) := Lib.hid (by kernel_rfl)
  have hi2 : Hid ((Tryz.prog.info? 28).map (·.size) = some (mcells (⟨k, f, t, 0, 0, 0, 0, [], 0, 0, 0, false, 0, [], 0, 0⟩ : Msg) (.slice none 0 0)).toArray.size) := Lib.hid (by kernel_rfl)
  have h1c : Hid ((mcells (⟨k, f, t, 0, 0, 0, 0, [], 0, 0, 0, false, 0, [], 0, 0⟩ : Msg) (.slice none 0 0)).toArray.all (·.oneCell') = true) := Lib.hid (by simp [mcells, Value.oneCell'])
  have HUH := Lib.hid hu; clear hu
  have HTH := Lib.hid (show wz.there (W.heap.size + 1) 0 (mcells (⟨k, f, t, 0, 0, 0, 0, [], 0, 0, 0, false, 0, [], 0, 0⟩ : Msg) (.slice none 0 0)).toArray.size from HRM.out.there 0 16 (by simp [mcells]))
  have HRG := Lib.hid (range_of HBM.out)
  have HBS := Lib.hid (show Bk (wz.setCells (W.heap.size + 1) 0 (mcells (⟨k, f, t, 0, 0, 0, 0, [], 0, 0, 0, false, 0, [], 0, 0⟩ : Msg) (.slice none 0 0))) (W.heap.size + 1) 28 (mcells (⟨k, f, t, 0, 0, 0, 0, [], 0, 0, 0, false, 0, [], 0, 0⟩ : Msg) (.slice none 0 0)) from by
    have := Bk.sets (mcells (⟨k, f, t, 0, 0, 0, 0, [], 0, 0, 0, false, 0, [], 0, 0⟩ : Msg) (.slice none 0 0)) 0 HRM.out (by simp [mcells])
    simpa [mcells] using this)
  have HKN := Lib.hid (show Kp (One b) W (wz.setCells (W.heap.size + 1) 0 (mcells (⟨k, f, t, 0, 0, 0, 0, [], 0, 0, 0, false, 0, [], 0, 0⟩ : Msg) (.slice none 0 0))) from Kp.sets _ 0 HKM.out (.inr (by omega)))
  have HOX := Lib.hid (HO9.out _ (show Kp (One (W.heap.size + 1)) wz (wz.setCells (W.heap.size + 1) 0 (mcells (⟨k, f, t, 0, 0, 0, 0, [], 0, 0, 0, false, 0, [], 0, 0⟩ : Msg) (.slice none 0 0))) from Kp.sets _ 0 (Kp.refl _ _) (.inl rfl)))
  have hfin := HP.out _ HOX.out HKN.out
  clear HO9 HOX HKN HP HRM HBM HKM
  have HFIN := Lib.hid hfin; clear hfin
  generalize hcs : mcells (⟨k, f, t, 0, 0, 0, 0, [], 0, 0, 0, false, 0, [], 0, 0⟩ : Msg) (.slice none 0 0) = cs at *
  have HCS := Lib.hid hcs; clear hcs
  go_wp2_with (first
    | (refine wpList_load_mid rfl _ _ rfl W.heap.size 0 rfl cs _ HRG.out HUH.out rfl hi1.out ?_)
    | (refine wpList_store_mid rfl _ _ _ rfl (W.heap.size + 1) 0 cs.toArray rfl rfl HTH.out hi2.out h1c.out ?_))
  have B9 := HBS.out
  have hfin := HFIN.out
  clear HBS HFIN
  generalize wz.setCells (W.heap.size + 1) 0 cs = w9 at *
  rw [← HCS.out] at B9 hfin
  clear HRG HTH h1c hi1 hi2 HUH HCS
  have x0 := B9.cell 0
  have x1 := B9.cell 1
  have x2 := B9.cell 2
  have x3 := B9.cell 3
  have x4 := B9.cell 4
  have x5 := B9.cell 5
  have x6 := B9.cell 6
  have x7 := B9.cell 7
  have x8 := B9.cell 8
  have x9 := B9.cell 9
  have x10 := B9.cell 10
  have x11 := B9.cell 11
  have x12 := B9.cell 12
  have x13 := B9.cell 13
  have x14 := B9.cell 14
  have x15 := B9.cell 15
  simp only [mcells, List.getElem?_cons_zero, List.getElem?_cons_succ] at x0 x1 x2 x3 x4 x5 x6 x7 x8 x9 x10 x11 x12 x13 x14 x15
  clear B9
  refine bodyPost_ret (v := .agg (mcells (⟨k, f, t, 0, 0, 0, 0, [], 0, 0, 0, false, 0, [], 0, 0⟩ : Msg) (.slice none 0 0)).toArray) (by simp [results, Tryz.results39, go_sem, x0, x1, x2, x3, x4, x5, x6, x7, x8, x9, x10, x11, x12, x13, x14, x15, mcells]) rfl ?_
  exact hfin
end Go.Proofs.YtbnpdghfbiacaaaGreat

/- The document's fields by contract. No condition beyond what each theorem states. -/
namespace Go.Proofs.YtbnpdghfbiacaaaGreat
open Go Go.RowKit Go.PlainAid

/-- the message that the fields of a kind make -/
def fieldsM (k f t : Nat) (s : Rd) : Msg :=
  if k = 1 then
    let a3 := rdNum s
    let a4 := rdNum a3.2
    let a5 := rdNum a4.2
    let a6 := rdNum a5.2
    if a6.1 = 1 then
      let a7 := rdText 200 a6.2
      let a8 := rdNum a7.2
      let a9 := rdNum a8.2
      { kind := k, from_ := f, dest := t, boot := a3.1, seq := a4.1, low := a5.1, verb := a6.1, path := a7.1, mode := a8.1, term := a9.1 }
    else if a6.1 = 2 then
      let a7 := rdNum a6.2
      let a8 := rdNum a7.2
      let a9 := rdNum a8.2
      { kind := k, from_ := f, dest := t, boot := a3.1, seq := a4.1, low := a5.1, verb := a6.1, id := a7.1, term := a8.1, fresh := decide (a9.1 = 1) }
    else if a6.1 = 3 then
      let a7 := rdNum a6.2
      { kind := k, from_ := f, dest := t, boot := a3.1, seq := a4.1, low := a5.1, verb := a6.1, id := a7.1 }
    else { kind := k, from_ := f, dest := t, boot := a3.1, seq := a4.1, low := a5.1, verb := a6.1 }
  else if k = 2 then
    let a3 := rdNum s
    let a4 := rdNum a3.2
    let a5 := rdNum a4.2
    if a5.1 = 0 then
      let a6 := rdNum a5.2
      let a7 := rdNum a6.2
      let a8 := rdCnts a7.2
      { kind := k, from_ := f, dest := t, boot := a3.1, seq := a4.1, code := a5.1, id := a6.1, term := a7.1, stamp := a8.1.map Int.ofNat }
    else { kind := k, from_ := f, dest := t, boot := a3.1, seq := a4.1, code := a5.1 }
  else if k = 3 then
    let a3 := rdNum s
    let a4 := rdText 200 a3.2
    let a5 := rdNum a4.2
    let a6 := rdNum a5.2
    { kind := k, from_ := f, dest := t, id := a3.1, path := a4.1, origin := a5.1, number := a6.1 }
  else if k = 4 then
    let a3 := rdNum s
    let a4 := rdNum a3.2
    let a5 := rdNum a4.2
    { kind := k, from_ := f, dest := t, id := a3.1, origin := a4.1, number := a5.1 }
  else if k = 5 then
    let a3 := rdText 200 s
    let a4 := rdNum a3.2
    let a5 := rdCnts a4.2
    { kind := k, from_ := f, dest := t, path := a3.1, mode := a4.1, stamp := a5.1.map Int.ofNat }
  else { kind := k, from_ := f, dest := t }
theorem take_fields (b : List UInt8) : takeMsg b = fieldsM (rdNum (b, 0)).1 (rdNum (rdNum (b, 0)).2).1 (rdNum (rdNum (rdNum (b, 0)).2).2).1 (rdNum (rdNum (rdNum (b, 0)).2).2).2 := rfl
set_option maxRecDepth 100000 in
set_option maxHeartbeats 4000000 in
theorem tfields_any (k f t : Nat) (s : Rd) (b B : Nat) (W : World) (h : TkS W b B s) (hB : B ≤ b) (hm : s.1.length ≤ 1000) :
    Calls Tryz.prog 39 #[.pointer (some ⟨b, 0, none⟩), .agg (mcells (⟨(k : Int), (f : Int), (t : Int), 0, 0, 0, 0, [], 0, 0, 0, false, 0, [], 0, 0⟩ : Msg) (.slice none 0 0)).toArray] W fun e w' => ∃ sv, e = .returned (.agg (mcells (fieldsM k f t s) sv).toArray) ∧ w'.ownsRow W.heap.size 3 1 sv (fieldsM k f t s).stamp.length (ints (fieldsM k f t s).stamp) ∧ Kp (One b) W w' := by
  by_cases k1 : k = 1
  · subst k1
    by_cases v1 : (rdNum (rdNum (rdNum (rdNum s).2).2).2).1 = 1
    · skip
      have e : fieldsM 1 f t s = (⟨1, (f : Int), (t : Int), ((rdNum s).1 : Int), ((rdNum (rdNum s).2).1 : Int), ((rdNum (rdNum (rdNum s).2).2).1 : Int), 1, (rdText 200 (rdNum (rdNum (rdNum (rdNum s).2).2).2).2).1, ((rdNum (rdText 200 (rdNum (rdNum (rdNum (rdNum s).2).2).2).2).2).1 : Int), ((rdNum (rdNum (rdText 200 (rdNum (rdNum (rdNum (rdNum s).2).2).2).2).2).2).1 : Int), 0, false, 0, [], 0, 0⟩ : Msg) := by simp [fieldsM, v1]
      rw [e]
      exact fld_ask1  f t s ((rdNum s).1) ((rdNum s).2) ((rdNum (rdNum s).2).1) ((rdNum (rdNum s).2).2) ((rdNum (rdNum (rdNum s).2).2).1) ((rdNum (rdNum (rdNum s).2).2).2) ((rdNum (rdNum (rdNum (rdNum s).2).2).2).2) ((rdText 200 (rdNum (rdNum (rdNum (rdNum s).2).2).2).2).1) ((rdText 200 (rdNum (rdNum (rdNum (rdNum s).2).2).2).2).2) ((rdNum (rdText 200 (rdNum (rdNum (rdNum (rdNum s).2).2).2).2).2).1) ((rdNum (rdText 200 (rdNum (rdNum (rdNum (rdNum s).2).2).2).2).2).2) ((rdNum (rdNum (rdText 200 (rdNum (rdNum (rdNum (rdNum s).2).2).2).2).2).2).1) ((rdNum (rdNum (rdText 200 (rdNum (rdNum (rdNum (rdNum s).2).2).2).2).2).2).2) rfl rfl rfl (Prod.ext v1 rfl) rfl rfl rfl  b B W h hB hm
    by_cases v2 : (rdNum (rdNum (rdNum (rdNum s).2).2).2).1 = 2
    · by_cases f1 : (rdNum (rdNum (rdNum (rdNum (rdNum (rdNum (rdNum s).2).2).2).2).2).2).1 = 1
      · skip
        have e : fieldsM 1 f t s = (⟨1, (f : Int), (t : Int), ((rdNum s).1 : Int), ((rdNum (rdNum s).2).1 : Int), ((rdNum (rdNum (rdNum s).2).2).1 : Int), 2, [], 0, ((rdNum (rdNum (rdNum (rdNum (rdNum (rdNum s).2).2).2).2).2).1 : Int), ((rdNum (rdNum (rdNum (rdNum (rdNum s).2).2).2).2).1 : Int), true, 0, [], 0, 0⟩ : Msg) := by simp [fieldsM, v2, f1]
        rw [e]
        exact fld_ask2a  f t s ((rdNum s).1) ((rdNum s).2) ((rdNum (rdNum s).2).1) ((rdNum (rdNum s).2).2) ((rdNum (rdNum (rdNum s).2).2).1) ((rdNum (rdNum (rdNum s).2).2).2) ((rdNum (rdNum (rdNum (rdNum s).2).2).2).2) ((rdNum (rdNum (rdNum (rdNum (rdNum s).2).2).2).2).1) ((rdNum (rdNum (rdNum (rdNum (rdNum s).2).2).2).2).2) ((rdNum (rdNum (rdNum (rdNum (rdNum (rdNum s).2).2).2).2).2).1) ((rdNum (rdNum (rdNum (rdNum (rdNum (rdNum s).2).2).2).2).2).2) ((rdNum (rdNum (rdNum (rdNum (rdNum (rdNum (rdNum s).2).2).2).2).2).2).2) rfl rfl rfl (Prod.ext v2 rfl) rfl rfl (Prod.ext f1 rfl)  b B W h hB hm
      · skip
        have e : fieldsM 1 f t s = (⟨1, (f : Int), (t : Int), ((rdNum s).1 : Int), ((rdNum (rdNum s).2).1 : Int), ((rdNum (rdNum (rdNum s).2).2).1 : Int), 2, [], 0, ((rdNum (rdNum (rdNum (rdNum (rdNum (rdNum s).2).2).2).2).2).1 : Int), ((rdNum (rdNum (rdNum (rdNum (rdNum s).2).2).2).2).1 : Int), false, 0, [], 0, 0⟩ : Msg) := by simp [fieldsM, v2, f1]
        rw [e]
        exact fld_ask2b  f t s ((rdNum s).1) ((rdNum s).2) ((rdNum (rdNum s).2).1) ((rdNum (rdNum s).2).2) ((rdNum (rdNum (rdNum s).2).2).1) ((rdNum (rdNum (rdNum s).2).2).2) ((rdNum (rdNum (rdNum (rdNum s).2).2).2).2) ((rdNum (rdNum (rdNum (rdNum (rdNum s).2).2).2).2).1) ((rdNum (rdNum (rdNum (rdNum (rdNum s).2).2).2).2).2) ((rdNum (rdNum (rdNum (rdNum (rdNum (rdNum s).2).2).2).2).2).1) ((rdNum (rdNum (rdNum (rdNum (rdNum (rdNum s).2).2).2).2).2).2) ((rdNum (rdNum (rdNum (rdNum (rdNum (rdNum (rdNum s).2).2).2).2).2).2).1) ((rdNum (rdNum (rdNum (rdNum (rdNum (rdNum (rdNum s).2).2).2).2).2).2).2) rfl rfl rfl (Prod.ext v2 rfl) rfl rfl rfl f1 b B W h hB hm
    by_cases v3 : (rdNum (rdNum (rdNum (rdNum s).2).2).2).1 = 3
    · skip
      have e : fieldsM 1 f t s = (⟨1, (f : Int), (t : Int), ((rdNum s).1 : Int), ((rdNum (rdNum s).2).1 : Int), ((rdNum (rdNum (rdNum s).2).2).1 : Int), 3, [], 0, 0, ((rdNum (rdNum (rdNum (rdNum (rdNum s).2).2).2).2).1 : Int), false, 0, [], 0, 0⟩ : Msg) := by simp [fieldsM, v3]
      rw [e]
      exact fld_ask3  f t s ((rdNum s).1) ((rdNum s).2) ((rdNum (rdNum s).2).1) ((rdNum (rdNum s).2).2) ((rdNum (rdNum (rdNum s).2).2).1) ((rdNum (rdNum (rdNum s).2).2).2) ((rdNum (rdNum (rdNum (rdNum s).2).2).2).2) ((rdNum (rdNum (rdNum (rdNum (rdNum s).2).2).2).2).1) ((rdNum (rdNum (rdNum (rdNum (rdNum s).2).2).2).2).2) rfl rfl rfl (Prod.ext v3 rfl) rfl  b B W h hB hm
    · skip
      have e : fieldsM 1 f t s = (⟨1, (f : Int), (t : Int), ((rdNum s).1 : Int), ((rdNum (rdNum s).2).1 : Int), ((rdNum (rdNum (rdNum s).2).2).1 : Int), ((rdNum (rdNum (rdNum (rdNum s).2).2).2).1 : Int), [], 0, 0, 0, false, 0, [], 0, 0⟩ : Msg) := by simp [fieldsM, v1, v2, v3]
      rw [e]
      exact fld_ask4  f t s ((rdNum s).1) ((rdNum s).2) ((rdNum (rdNum s).2).1) ((rdNum (rdNum s).2).2) ((rdNum (rdNum (rdNum s).2).2).1) ((rdNum (rdNum (rdNum s).2).2).2) ((rdNum (rdNum (rdNum (rdNum s).2).2).2).1) ((rdNum (rdNum (rdNum (rdNum s).2).2).2).2) rfl rfl rfl rfl v1 v2 v3 b B W h hB hm
  by_cases k2 : k = 2
  · subst k2
    by_cases c0 : (rdNum (rdNum (rdNum s).2).2).1 = 0
    · skip
      have e : fieldsM 2 f t s = (⟨2, (f : Int), (t : Int), ((rdNum s).1 : Int), ((rdNum (rdNum s).2).1 : Int), 0, 0, [], 0, ((rdNum (rdNum (rdNum (rdNum (rdNum s).2).2).2).2).1 : Int), ((rdNum (rdNum (rdNum (rdNum s).2).2).2).1 : Int), false, 0, (cntsI (rdNum (rdNum (rdNum (rdNum (rdNum s).2).2).2).2).2), 0, 0⟩ : Msg) := by simp [fieldsM, cntsI, c0]
      rw [e]
      exact fld_rep0  f t s ((rdNum s).1) ((rdNum s).2) ((rdNum (rdNum s).2).1) ((rdNum (rdNum s).2).2) ((rdNum (rdNum (rdNum s).2).2).2) ((rdNum (rdNum (rdNum (rdNum s).2).2).2).1) ((rdNum (rdNum (rdNum (rdNum s).2).2).2).2) ((rdNum (rdNum (rdNum (rdNum (rdNum s).2).2).2).2).1) ((rdNum (rdNum (rdNum (rdNum (rdNum s).2).2).2).2).2) rfl rfl (Prod.ext c0 rfl) rfl rfl  b B W h hB hm
    · skip
      have e : fieldsM 2 f t s = (⟨2, (f : Int), (t : Int), ((rdNum s).1 : Int), ((rdNum (rdNum s).2).1 : Int), 0, 0, [], 0, 0, 0, false, ((rdNum (rdNum (rdNum s).2).2).1 : Int), [], 0, 0⟩ : Msg) := by simp [fieldsM, c0]
      rw [e]
      exact fld_rep1  f t s ((rdNum s).1) ((rdNum s).2) ((rdNum (rdNum s).2).1) ((rdNum (rdNum s).2).2) ((rdNum (rdNum (rdNum s).2).2).1) ((rdNum (rdNum (rdNum s).2).2).2) rfl rfl rfl c0 b B W h hB hm
  by_cases k3 : k = 3
  · subst k3
    have e : fieldsM 3 f t s = (⟨3, (f : Int), (t : Int), 0, 0, 0, 0, (rdText 200 (rdNum s).2).1, 0, 0, ((rdNum s).1 : Int), false, 0, [], ((rdNum (rdText 200 (rdNum s).2).2).1 : Int), ((rdNum (rdNum (rdText 200 (rdNum s).2).2).2).1 : Int)⟩ : Msg) := by simp [fieldsM]
    rw [e]
    exact fld_rec  f t s ((rdNum s).1) ((rdNum s).2) ((rdText 200 (rdNum s).2).1) ((rdText 200 (rdNum s).2).2) ((rdNum (rdText 200 (rdNum s).2).2).1) ((rdNum (rdText 200 (rdNum s).2).2).2) ((rdNum (rdNum (rdText 200 (rdNum s).2).2).2).1) ((rdNum (rdNum (rdText 200 (rdNum s).2).2).2).2) rfl rfl rfl rfl  b B W h hB hm
  by_cases k4 : k = 4
  · subst k4
    have e : fieldsM 4 f t s = (⟨4, (f : Int), (t : Int), 0, 0, 0, 0, [], 0, 0, ((rdNum s).1 : Int), false, 0, [], ((rdNum (rdNum s).2).1 : Int), ((rdNum (rdNum (rdNum s).2).2).1 : Int)⟩ : Msg) := by simp [fieldsM]
    rw [e]
    exact fld_don  f t s ((rdNum s).1) ((rdNum s).2) ((rdNum (rdNum s).2).1) ((rdNum (rdNum s).2).2) ((rdNum (rdNum (rdNum s).2).2).1) ((rdNum (rdNum (rdNum s).2).2).2) rfl rfl rfl  b B W h hB hm
  by_cases k5 : k = 5
  · subst k5
    have e : fieldsM 5 f t s = (⟨5, (f : Int), (t : Int), 0, 0, 0, 0, (rdText 200 s).1, ((rdNum (rdText 200 s).2).1 : Int), 0, 0, false, 0, (cntsI (rdNum (rdText 200 s).2).2), 0, 0⟩ : Msg) := by simp [fieldsM, cntsI]
    rw [e]
    exact fld_op  f t s ((rdText 200 s).1) ((rdText 200 s).2) ((rdNum (rdText 200 s).2).1) ((rdNum (rdText 200 s).2).2) rfl rfl  b B W h hB hm
  have e : fieldsM k f t s = (⟨(k : Int), (f : Int), (t : Int), 0, 0, 0, 0, [], 0, 0, 0, false, 0, [], 0, 0⟩ : Msg) := by simp [fieldsM, k1, k2, k3, k4, k5]
  rw [e]
  exact fld_oth (k : Int) (by omega) (by omega) (by omega) (by omega) (by omega) f t s    b B W h hB hm
end Go.Proofs.YtbnpdghfbiacaaaGreat
