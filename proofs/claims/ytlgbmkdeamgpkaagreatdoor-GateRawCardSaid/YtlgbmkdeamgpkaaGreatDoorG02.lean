/- sectors.Look by contract. No condition beyond what each theorem states. -/
import Derived.Test.YtlgbmkdeamgpkaaGreatDoorG01
import Derived.Deep.RegionHeld3
import Derived.Deep.Cut
import Derived.Deep.CutRange
import Derived.Deep.DeepCutAuto
import Derived.Laws.ResultCell
import Derived.IntWalk
namespace Go.Proofs.YtlgbmkdeamgpkaaGreatDoor
open Go Go.RowKit

theorem range_all {w : World} {b : Nat} {t : TypeId} {cs : List Value} (hb : Bk w b t cs) : w.rangeAt b 0 cs := by
  have := hb.range 0 cs.length
  simpa using this
section
variable {P : Program} {fn : Func} {R : Ending → World → Prop} {a : Act} {w : World} {b : Nat} {ty : TypeId} {cs : List Value}
theorem end_cell_tmp {p u : Tmp} (d : TypeDesc) (h : fn.results = #[.cell p ty, .tmp u]) (hp : a.tmps.getD p undef = .pointer (some ⟨b, 0, none⟩)) (hb : Bk w b ty cs) (hu : P.underlying ty = some d) (hd : d.isRow = true) (hi : (P.info? ty).map (·.size) = some cs.length)
    (hdf : a.defers = []) (hR : R (.returned (.tuple #[.agg cs.toArray, a.tmps.getD u undef])) w) : bodyPost P fn R .ret a w := by
  refine bodyPost_ret (w := w) (v := .tuple #[.agg cs.toArray, a.tmps.getD u undef]) ?_ hdf hR
  rw [results_cell_tmp h, hp]
  simp [asAddr, run_loadVar_mid w b 0 ty cs d (range_all hb) hu hd hi]
theorem end_cell {p : Tmp} (d : TypeDesc) (h : fn.results = #[.cell p ty]) (hp : a.tmps.getD p undef = .pointer (some ⟨b, 0, none⟩)) (hb : Bk w b ty cs) (hu : P.underlying ty = some d) (hd : d.isRow = true) (hi : (P.info? ty).map (·.size) = some cs.length)
    (hdf : a.defers = []) (hR : R (.returned (.agg cs.toArray)) w) : bodyPost P fn R .ret a w := by
  refine bodyPost_ret (w := w) (v := .agg cs.toArray) ?_ hdf hR
  simp only [results, h]
  rw [Array.getD_eq_getD_getElem?] at hp
  simp [hp, asAddr, run_loadVar_mid w b 0 ty cs d (range_all hb) hu hd hi]
end
theorem Tryz.infoPart : (Tryz.prog.info? 95).map (·.size) = some 5 := by kernel_rfl
/-- a struct of five cells stored whole -/
theorem Bk.set5 {w : World} {g : Nat} {t : TypeId} {a0 a1 a2 a3 a4 : Value} (h : Bk w g t [a0, a1, a2, a3, a4]) (b0 b1 b2 b3 b4 : Value) :
    Bk (((((w.setCell ⟨g, 0, none⟩ b0).setCell ⟨g, 1, none⟩ b1).setCell ⟨g, 2, none⟩ b2).setCell ⟨g, 3, none⟩ b3).setCell ⟨g, 4, none⟩ b4) g t [b0, b1, b2, b3, b4] :=
  ((((h.set_ 0 b0).set_ 1 b1).set_ 2 b2).set_ 3 b3).set_ 4 b4
theorem Kp.set5 {M : Nat → Prop} {a w : World} {g : Nat} (h : Kp M a w) (hp : M g ∨ a.heap.size ≤ g) (b0 b1 b2 b3 b4 : Value) :
    Kp M a (((((w.setCell ⟨g, 0, none⟩ b0).setCell ⟨g, 1, none⟩ b1).setCell ⟨g, 2, none⟩ b2).setCell ⟨g, 3, none⟩ b3).setCell ⟨g, 4, none⟩ b4) :=
  ((((h.set hp 0 b0).set hp 1 b1).set hp 2 b2).set hp 3 b3).set hp 4 b4
/-- the cells of a part -/
def ptC (gen seq idx parts : Int) (d : Value) : List Value := [.int .i64 gen, .int .i64 seq, .int .i64 idx, .int .i64 parts, d]
def noPt : Value := .agg (ptC 0 0 0 0 (.slice none 0 0)).toArray
def ptV (p : Pt) (d : Value) : Value := .agg (ptC p.gen p.seq p.idx p.parts d).toArray
/-- what Look answers -/
def LookR (w w' : World) (l : List UInt8) (e : Ending) : Prop := Kp No w w' ∧ match lookS l with
  | none => e = .returned (.tuple #[noPt, .int .i64 43])
  | some p => ∃ dv, e = .returned (.tuple #[ptV p dv, .int .i64 0]) ∧ OwnB w' w.heap.size dv p.data

theorem cell_no {w w' : World} {g i : Nat} {v : Value} (h : w.cell? ⟨g, i, none⟩ = some v) (k : Kp No w w') : w'.cell? ⟨g, i, none⟩ = some v := by
  rw [World.cell?_of_block (w := w) (k.block g (World.block_lt_of_cell? w _ h) (fun m => m))]; exact h
theorem far5 {w : World} {q g i : Nat} {v : Value} (h : w.cell? ⟨g, i, none⟩ = some v) (hne : g ≠ q) (b0 b1 b2 b3 b4 : Value) :
    (((((w.setCell ⟨q, 0, none⟩ b0).setCell ⟨q, 1, none⟩ b1).setCell ⟨q, 2, none⟩ b2).setCell ⟨q, 3, none⟩ b3).setCell ⟨q, 4, none⟩ b4).cell? ⟨g, i, none⟩ = some v := by
  have far : ∀ (w : World) (j : Nat) (b : Value), w.cell? ⟨g, i, none⟩ = some v → (w.setCell ⟨q, j, none⟩ b).cell? ⟨g, i, none⟩ = some v := fun w j b h => by
    rw [World.cell?_setCell_other _ _ _ _ (by intro e; injection e with e; exact hne e.symm)]; exact h
  exact far _ _ _ (far _ _ _ (far _ _ _ (far _ _ _ (far _ _ _ h))))
/-- only draws lie between -/
def StillW (w w' : World) : Prop := Kp No w w' ∧ (∀ b i, w'.cell? ⟨b, i, none⟩ = w.cell? ⟨b, i, none⟩) ∧ (∀ b i, w'.frozen? ⟨b, i, none⟩ = w.frozen? ⟨b, i, none⟩)
theorem still_drewN {w w' : World} {m : Nat} (h : w' = w.drewN m) : StillW w w' := by
  subst h; exact ⟨(Kp.refl _ _).drewN _, fun _ _ => rfl, fun _ _ => rfl⟩
/-- a part's own block, made behind the world W -/
def PartAt (B : Nat) (W : World) (cs : List Value) (s : Value) (wx : World) : Prop := ∃ q, s = .pointer (some ⟨q, 0, none⟩) ∧ Bk wx q 95 cs ∧ B < q ∧ Kp No W wx
theorem partAt_1 {B : Nat} {W w1 : World} {a b c d : Int} {e : Value} (hs : B < w1.heap.size) (k : Kp No W w1) : PartAt B W (ptC a b c d e) (.pointer (some ⟨w1.heap.size, 0, none⟩)) (w1.alloc (.cells #[.int .i64 a, .int .i64 b, .int .i64 c, .int .i64 d, e] 95)) :=
  ⟨_, rfl, Bk.new _ _ _, hs, k.alloc _⟩
theorem partAt_2 {B : Nat} {W w1 w2 : World} {a b c d : Int} {e : Value} (hs : B < w1.heap.size) (k : Kp No W w1) (k2 : Kp No (w1.alloc (.cells #[.int .i64 0, .int .i64 0, .int .i64 0, .int .i64 0, .slice none 0 0] 95)) w2) :
    PartAt B W (ptC a b c d e) (.pointer (some ⟨w1.heap.size, 0, none⟩)) (((((w2.setCell ⟨w1.heap.size, 0, none⟩ (.int .i64 a)).setCell ⟨w1.heap.size, 1, none⟩ (.int .i64 b)).setCell ⟨w1.heap.size, 2, none⟩ (.int .i64 c)).setCell ⟨w1.heap.size, 3, none⟩ (.int .i64 d)).setCell ⟨w1.heap.size, 4, none⟩ e) :=
  ⟨_, rfl, Bk.set5 ((Bk.new w1 95 (ptC 0 0 0 0 (.slice none 0 0))).no k2) _ _ _ _ _, hs, Kp.set5 ((k.alloc _).trans k2) (.inr k.size) _ _ _ _ _⟩
/-- is a part as long as it must be? -/
def fullD (b8 b9 b10 : UInt8) : Bool := if b8.toNat + 1 = b9.toNat then decide (b10.toNat ≤ 47 ∧ (0 < b10.toNat ∨ b9.toNat = 1)) else decide (b10.toNat = 47)
def FullB (b8 b9 b10 : UInt8) (s : Value) : Prop := s = .bool (fullD b8 b9 b10)
/-- are its numbers in their ranges? -/
def fitsD (gn sq : Nat) (b8 b9 : UInt8) : Bool := decide (1 ≤ gn ∧ gn ≤ 1073741824 ∧ sq ≤ 1073741824 ∧ b9.toNat ≤ 4 ∧ b8.toNat < b9.toNat)
def FitsB (gn sq : Nat) (b8 b9 : UInt8) (s : Value) : Prop := s = .bool (fitsD gn sq b8 b9)
theorem okPt_split (gn sq : Nat) (b8 b9 b10 : UInt8) (d : List UInt8) (hd : d.length = min b10.toNat 53) :
    okPt ⟨gn, sq, b8.toNat, b9.toNat, d⟩ ↔ fitsD gn sq b8 b9 = true ∧ fullD b8 b9 b10 = true := by
  unfold okPt fitsD fullD
  simp only [hd]
  by_cases h : b8.toNat + 1 = b9.toNat
  · rw [if_pos h, decide_eq_true_eq, decide_eq_true_eq]; omega
  · rw [if_neg h, decide_eq_true_eq, decide_eq_true_eq]; omega
theorem fullD_le {b8 b9 b10 : UInt8} (h : fullD b8 b9 b10 = true) : b10.toNat ≤ 47 := by
  unfold fullD at h
  by_cases hl : b8.toNat + 1 = b9.toNat
  · rw [if_pos hl] at h; exact (of_decide_eq_true h).1
  · rw [if_neg hl] at h; have := of_decide_eq_true h; omega
theorem lookR_none {w w' : World} {l : List UInt8} (hk : Kp No w w') (h : lookS l = none) : LookR w w' l (.returned (.tuple #[noPt, .int .i64 43])) := ⟨hk, by rw [h]⟩
theorem lookR_some {w w' : World} {l : List UInt8} {p : Pt} {dv : Value} (hk : Kp No w w') (h : lookS l = some p) (hd : OwnB w' w.heap.size dv p.data) : LookR w w' l (.returned (.tuple #[ptV p dv, .int .i64 0])) := ⟨hk, by rw [h]; exact ⟨dv, rfl, hd⟩⟩
set_option maxHeartbeats 1000000 in
theorem look_short (A : Option Addr) (n c : Nat) (w : World) (hn : n ≠ 64) :
    Calls Tryz.prog 56 #[.slice A n c] w fun e w' => e = .returned (.tuple #[noPt, .int .i64 43]) ∧ Kp No w w' := by
  have h1 : ((n : Int) != 64) = true := by rw [bne_iff_ne]; omega
  clear hn
  go_enter Tryz.func56, Tryz.ntmps56
  go_wp2_with fail
  go_quiet (fail)
  go_wp2
  have B1 := Bk.set5 ((Bk.new w 95 (ptC 0 0 0 0 (.slice none 0 0))).drewN nq) (.int .i64 0) (.int .i64 0) (.int .i64 0) (.int .i64 0) (.slice none 0 0)
  have K1 := Kp.set5 (M := No) (((Kp.refl No w).alloc (.cells #[.int .i64 0, .int .i64 0, .int .i64 0, .int .i64 0, .slice none 0 0] 95)).drewN nq) (.inr (Nat.le_refl w.heap.size)) (.int .i64 0) (.int .i64 0) (.int .i64 0) (.int .i64 0) (.slice none 0 0)
  exact end_cell_tmp (p := 2) (u := 3) _ (by kernel_rfl) rfl B1 Tryz.underlying95 rfl Tryz.infoPart rfl ⟨rfl, K1⟩

set_option maxRecDepth 100000 in
set_option maxHeartbeats 2000000 in
theorem look_full (g o c : Nat) (l : List UInt8) (w : World) (hv : ArgB w (.slice (some ⟨g, o, none⟩) 64 c) l) (hm : c ≤ maxLen) :
    Calls Tryz.prog 56 #[.slice (some ⟨g, o, none⟩) 64 c] w fun e w' => LookR w w' l e := by
  obtain ⟨hcs, hl64, hc⟩ := hv.cs
  have h60 := (hv.drop 60 (by omega))
  have h4 := (hv.drop 4 (by omega))
  have t60 := (hv.take 60 (by omega))
  have hgl := hv.at_ (by omega)
  obtain ⟨g', o', c', e1, _, hx⟩ := hgl
  injection e1 with e1 e1n e1c
  clear e1n
  injection e1 with e1
  injection e1 with e1 e2
  subst e1 e2 e1c
  have x8 := hx 8 _ (List.getElem?_eq_getElem (by omega))
  have x9 := hx 9 _ (List.getElem?_eq_getElem (by omega))
  have x10 := hx 10 _ (List.getElem?_eq_getElem (by omega))
  clear hx
  have g8 : l.getD 8 0 = l[8]'(by omega) := by simp [List.getD_eq_getElem?_getD, show 8 < l.length by omega]
  have g9 : l.getD 9 0 = l[9]'(by omega) := by simp [List.getD_eq_getElem?_getD, show 9 < l.length by omega]
  have g10 : l.getD 10 0 = l[10]'(by omega) := by simp [List.getD_eq_getElem?_getD, show 10 < l.length by omega]
  rw [← g8] at x8; rw [← g9] at x9; rw [← g10] at x10
  clear g8 g9 g10
  generalize h8 : l.getD 8 0 = b8 at *
  generalize h9 : l.getD 9 0 = b9 at *
  generalize h10 : l.getD 10 0 = b10 at *
  have bb8 := byte_bd b8; have bb9 := byte_bd b9; have bb10 := byte_bd b10
  have E8 := Lib.hid h8; have E9 := Lib.hid h9; have E10 := Lib.hid h10; clear h8 h9 h10
  obtain ⟨W, hW⟩ : ∃ W, W = w.alloc (.cells (ptC 0 0 0 0 (.slice none 0 0)).toArray 95) := ⟨_, rfl⟩
  have B0 : Bk W w.heap.size 95 (ptC 0 0 0 0 (.slice none 0 0)) := by rw [hW]; exact Bk.new w _ _
  have K0 : Kp No w W := by rw [hW]; exact (Kp.refl _ _).alloc _
  have hWs : W.heap.size = w.heap.size + 1 := by rw [hW]; simp
  have W8 : W.cell? ⟨g, o + 8, none⟩ = some (.int .u8 (b8.toNat : Int)) := by rw [World.cell?_of_block (w := w) (K0.block g (World.block_lt_of_cell? w _ x8) (fun m => m))]; exact x8
  have W9 : W.cell? ⟨g, o + 9, none⟩ = some (.int .u8 (b9.toNat : Int)) := by rw [World.cell?_of_block (w := w) (K0.block g (World.block_lt_of_cell? w _ x9) (fun m => m))]; exact x9
  have W10 : W.cell? ⟨g, o + 10, none⟩ = some (.int .u8 (b10.toNat : Int)) := by rw [World.cell?_of_block (w := w) (K0.block g (World.block_lt_of_cell? w _ x10) (fun m => m))]; exact x10
  have HW := Lib.hid hW; have HWs := Lib.hid hWs; clear x8 x9 x10 hW hWs
  have q60 : ∀ n, Calls Tryz.prog 87 #[.slice (some ⟨g, o + 60, none⟩) 4 (c - 60)] (W.drewN n) fun e w' => e = .returned (.int .i64 (ofFour (l.drop 60) : Int)) ∧ ∃ m, w' = W.drewN m := fun n =>
    Calls.quiet_of (secnum_any _ _ _ (h60.no (K0.drewN n)) (by simp; omega) (by simp; unfold maxLen; omega))
  have qs : ∀ n, Calls Tryz.prog 88 #[.slice (some ⟨g, o, none⟩) 60 c] (W.drewN n) fun e w' => e = .returned (.int .u32 (crcI (l.take 60))) ∧ ∃ m, w' = W.drewN m := fun n =>
    (sum_any _ _ _ (t60.no (K0.drewN n)) (by simp; unfold maxLen; omega)).mono fun _ _ ⟨a, b⟩ => ⟨a, n, b.symm⟩
  have hsm := crcI_bd (l.take 60)
  have hnm := ofFour_lt (l.drop 60)
  have HS := Lib.hid (show (ofFour (l.drop 60) = (crcS (l.take 60)).toNat) ↔ ((ofFour (l.drop 60) : Int) = crcI (l.take 60)) by unfold crcI; omega)
  have HR := Lib.hid (show readS l = ⟨ofFour l, ofFour (l.drop 4), b8.toNat, b9.toNat, (l.drop 11).take b10.toNat⟩ by unfold readS; rw [E8.out, E9.out, E10.out])
  have HK := Lib.hid (lookS_eq l)
  rw [E10.out] at HK
  generalize hsv : crcI (l.take 60) = sv at *
  generalize hnv : ofFour (l.drop 60) = nv at *
  clear hsv hnv
  have hcap : ¬ c = 60 := by omega
  have hcap4 : ¬ c = 4 := by omega
  have h60c : (60 : Int) ≤ (c : Int) := by omega
  unfold maxLen at hm
  have HL64 := Lib.hid hl64; clear hl64
  by_cases hsum : (nv : Int) = sv
  · have hne : ((nv : Int) != sv) = false := by rw [bne_eq_false_iff_eq]; exact hsum
    have HN := Lib.hid hsum
    clear hsum
    go_enter Tryz.func56, Tryz.ntmps56
    go_wp2_with fail
    rw [show w.alloc (.cells #[.int .i64 0, .int .i64 0, .int .i64 0, .int .i64 0, .slice none 0 0] 95) = W from HW.out.symm]
    go_quiet ((first | (go_at_call 87; exact q60 _) | (go_at_call 88; exact qs _)))
    go_upto_region 3 with (fail)
    clear q60 qs
    generalize hgn : ofFour l = gn at *
    generalize hsq : ofFour (l.drop 4) = sq at *
    have gb : gn < 4294967296 := by rw [← hgn]; exact ofFour_lt _
    have sb : sq < 4294967296 := by rw [← hsq]; exact ofFour_lt _
    have HGN := Lib.hid hgn; have HSQ := Lib.hid hsq
    clear hgn hsq
    have h4c : (4 : Int) ≤ (c : Int) := by omega
    have K1 : Kp No w (W.drewN nq) := K0.drewN nq
    have B1 : Bk (W.drewN nq) w.heap.size 95 (ptC 0 0 0 0 (.slice none 0 0)) := B0.drewN nq
    have V8 : (W.drewN nq).cell? ⟨g, o + 8, none⟩ = some (.int .u8 (b8.toNat : Int)) := W8
    have V9 : (W.drewN nq).cell? ⟨g, o + 9, none⟩ = some (.int .u8 (b9.toNat : Int)) := W9
    have V10 : (W.drewN nq).cell? ⟨g, o + 10, none⟩ = some (.int .u8 (b10.toNat : Int)) := W10
    clear W8 W9 W10
    generalize W.drewN nq = W1 at *
    have qn : ∀ W', Kp No W1 W' → Calls Tryz.prog 87 #[.slice (some ⟨g, o, none⟩) 64 c] W' fun e w' => e = .returned (.int .i64 (gn : Int)) ∧ W1.heap.size ≤ w'.heap.size ∧ StillW W' w' := fun W' k =>
      by rw [← HGN.out]; exact (secnum_any _ _ _ (hv.no (K1.trans k)) (by have := HL64.out; omega) (by have := HL64.out; unfold maxLen; omega)).mono fun _ _ ⟨a, m, b⟩ => ⟨a, by subst b; exact k.size, still_drewN b⟩
    have qn4 : ∀ W', Kp No W1 W' → Calls Tryz.prog 87 #[.slice (some ⟨g, o + 4, none⟩) 60 (c - 4)] W' fun e w' => e = .returned (.int .i64 (sq : Int)) ∧ W1.heap.size ≤ w'.heap.size ∧ StillW W' w' := fun W' k =>
      by rw [← HSQ.out]; exact (secnum_any _ _ _ (h4.no (K1.trans k)) (by have := HL64.out; simp; omega) (by have := HL64.out; unfold maxLen; simp; omega)).mono fun _ _ ⟨a, m, b⟩ => ⟨a, by subst b; exact k.size, still_drewN b⟩
    have hwW : w.heap.size < W1.heap.size := B1.lt
    have hgW : g < W1.heap.size := World.block_lt_of_cell? W1 _ V8
    go_cut [4] (fun s4 wx => PartAt w.heap.size W1 (ptC gn sq (b8.toNat : Int) (b9.toNat : Int) (.slice none 0 0)) s4 wx)
    case first =>
      have hw8 : IntKind.i64.wrap (b8.toNat : Int) = (b8.toNat : Int) := IntWalk.i64_in _ (by omega)
      have hw9 : IntKind.i64.wrap (b9.toNat : Int) = (b9.toNat : Int) := IntWalk.i64_in _ (by omega)
      go_region_held3 (fun w' => w'.cell? ⟨g, o + 8, none⟩ = some (.int .u8 (b8.toNat : Int)) ∧ w'.cell? ⟨g, o + 9, none⟩ = some (.int .u8 (b9.toNat : Int)) ) (first | (go_keep; done) | exact ⟨far5 (cell_no V8 (by with_reducible repeat (first | assumption | exact Kp.refl _ _ | refine Kp.drew ?_ | refine Kp.drewN ?_ _ | refine Kp.alloc ?_ _ | refine Kp.trans ?_ (by assumption)))) (by omega) _ _ _ _ _, far5 (cell_no V9 (by with_reducible repeat (first | assumption | exact Kp.refl _ _ | refine Kp.drew ?_ | refine Kp.drewN ?_ _ | refine Kp.alloc ?_ _ | refine Kp.trans ?_ (by assumption)))) (by omega) _ _ _ _ _⟩) (first | (go_at_call 87; ((with_reducible refine (qn _ (by with_reducible repeat (first | assumption | exact Kp.refl _ _ | refine Kp.drew ?_ | refine Kp.drewN ?_ _ | refine Kp.alloc ?_ _ | refine Kp.trans ?_ (by assumption)))).mono ?_); rintro e w' ⟨rfl, ks1, k1, kc1, kf1⟩)) | (go_at_call 87; ((with_reducible refine (qn4 _ (by with_reducible repeat (first | assumption | exact Kp.refl _ _ | refine Kp.drew ?_ | refine Kp.drewN ?_ _ | refine Kp.alloc ?_ _ | refine Kp.trans ?_ (by assumption)))).mono ?_); rintro e w' ⟨rfl, ks1, k1, kc1, kf1⟩)))
      all_goals
        go_wp2_with fail
        go_meet
        first | (with_reducible refine partAt_1 (by omega) ?_; exact (by with_reducible repeat (first | assumption | exact Kp.refl _ _ | refine Kp.drew ?_ | refine Kp.drewN ?_ _ | refine Kp.alloc ?_ _ | refine Kp.trans ?_ (by assumption)))) | (with_reducible refine partAt_2 (by omega) ?_ ?_ <;> exact (by with_reducible repeat (first | assumption | exact Kp.refl _ _ | refine Kp.drew ?_ | refine Kp.drewN ?_ _ | refine Kp.alloc ?_ _ | refine Kp.trans ?_ (by assumption))))
    case rest =>
      obtain ⟨q, rfl, hq, hqs, hk1⟩ := hcut
      clear qn qn4 V8 V9
      obtain ⟨n10, hn10⟩ : ∃ n : Int, n = (b10.toNat : Int) := ⟨_, rfl⟩
      have V10' : wc.cell? ⟨g, o + 10, none⟩ = some (.int .u8 n10) := by rw [hn10]; exact cell_no V10 hk1
      have bn10 : 0 ≤ n10 ∧ n10 < 256 := by rw [hn10]; exact bb10
      have HN10 := Lib.hid hn10
      clear V10 bb10 hn10
      have p0 : wc.cell? ⟨q, 0, none⟩ = some (.int .i64 gn) := hq.cell 0
      have p1 : wc.cell? ⟨q, 1, none⟩ = some (.int .i64 sq) := hq.cell 1
      have p2 : wc.cell? ⟨q, 2, none⟩ = some (.int .i64 (b8.toNat : Int)) := hq.cell 2
      have p3 : wc.cell? ⟨q, 3, none⟩ = some (.int .i64 (b9.toNat : Int)) := hq.cell 3
      have m0 : -1 ≤ (b9.toNat : Int) - 1 := by omega
      go_upto_if 47 with (fail)
      go_cut [6] (fun s wx => FullB b8 b9 b10 s ∧ wc = wx)
      case first =>
        by_cases hlast : (b8.toNat : Int) = (b9.toNat : Int) - 1
        · have hb : ((b8.toNat : Int) == (b9.toNat : Int) - 1) = true := beq_iff_eq.2 hlast
          have HLA := Lib.hid hlast; clear hlast
          by_cases h47 : n10 ≤ 47
          · have d47 : decide (n10 ≤ 47) = true := decide_eq_true h47
            by_cases hpos : (0 : Int) < n10
            · have dpos : decide ((0 : Int) < n10) = true := decide_eq_true hpos
              have HF := Lib.hid (show fullD b8 b9 b10 = true by have := HLA.out; have := HN10.out; unfold fullD; rw [if_pos (by omega)]; exact decide_eq_true ⟨by omega, .inl (by omega)⟩)
              go_wp2
              go_meet
              exact ⟨by unfold FullB; first | (rw [HF.out]; done) | rw [HF.out, d47], by first | trivial | rfl⟩
            · have dpos : decide ((0 : Int) < n10) = false := decide_eq_false hpos
              by_cases hp1 : (b9.toNat : Int) = 1
              · have d1 : ((b9.toNat : Int) == 1) = true := beq_iff_eq.2 hp1
                have HP1 := Lib.hid hp1; clear hp1
                have HF := Lib.hid (show fullD b8 b9 b10 = true by have := HLA.out; have := HN10.out; have := HP1.out; unfold fullD; rw [if_pos (by omega)]; exact decide_eq_true ⟨by omega, .inr (by omega)⟩)
                go_wp2
                go_meet
                exact ⟨by unfold FullB; first | (rw [HF.out]; done) | rw [HF.out, d47], by first | trivial | rfl⟩
              · have d1 : ((b9.toNat : Int) == 1) = false := beq_eq_false_iff_ne.2 hp1
                have HP1 := Lib.hid hp1; clear hp1
                have HF := Lib.hid (show fullD b8 b9 b10 = false by have := HLA.out; have := HN10.out; have := HP1.out; unfold fullD; rw [if_pos (by omega)]; exact decide_eq_false (fun h => by rcases h.2 with h | h <;> omega))
                go_wp2
                go_meet
                exact ⟨by unfold FullB; first | (rw [HF.out]; done) | rw [HF.out, d47], by first | trivial | rfl⟩
          · have d47 : decide (n10 ≤ 47) = false := decide_eq_false h47
            have HF := Lib.hid (show fullD b8 b9 b10 = false by have := HLA.out; have := HN10.out; unfold fullD; rw [if_pos (by omega)]; exact decide_eq_false (fun h => by have := h.1; omega))
            go_wp2
            go_meet
            exact ⟨by unfold FullB; first | (rw [HF.out]; done) | rw [HF.out, d47], by first | trivial | rfl⟩
        · have hb : ((b8.toNat : Int) == (b9.toNat : Int) - 1) = false := beq_eq_false_iff_ne.2 hlast
          have HLA := Lib.hid hlast; clear hlast
          by_cases h47 : n10 = 47
          · have d47 : (n10 == 47) = true := beq_iff_eq.2 h47
            have H47 := Lib.hid h47; clear h47
            have HF := Lib.hid (show fullD b8 b9 b10 = true by have := HLA.out; have := HN10.out; have := H47.out; unfold fullD; rw [if_neg (by omega)]; exact decide_eq_true (by omega))
            go_wp2
            go_meet
            exact ⟨by unfold FullB; first | (rw [HF.out]; done) | rw [HF.out, d47], by first | trivial | rfl⟩
          · have d47 : (n10 == 47) = false := beq_eq_false_iff_ne.2 h47
            have H47 := Lib.hid h47; clear h47
            have HF := Lib.hid (show fullD b8 b9 b10 = false by have := HLA.out; have := HN10.out; have := H47.out; unfold fullD; rw [if_neg (by omega)]; exact decide_eq_false (by omega))
            go_wp2
            go_meet
            exact ⟨by unfold FullB; first | (rw [HF.out]; done) | rw [HF.out, d47], by first | trivial | rfl⟩
      case rest =>
        obtain ⟨hfb, rfl⟩ := hcut
        unfold FullB at hfb
        subst hfb
        go_upto_region 8 with (fail)
        go_cut [7] (fun s wx => FitsB gn sq b8 b9 s ∧ wc = wx)
        case first =>
          by_cases f1 : (1 : Int) ≤ (gn : Int)
          · have d1 : decide ((1 : Int) ≤ (gn : Int)) = true := decide_eq_true f1
            by_cases f2 : (gn : Int) ≤ 1073741824
            · have d2 : decide ((gn : Int) ≤ 1073741824) = true := decide_eq_true f2
              by_cases f3 : (sq : Int) ≤ 1073741824
              · have d3 : decide ((sq : Int) ≤ 1073741824) = true := decide_eq_true f3
                by_cases f4 : (b9.toNat : Int) ≤ 4
                · have d4 : decide ((b9.toNat : Int) ≤ 4) = true := decide_eq_true f4
                  by_cases f5 : (b8.toNat : Int) < (b9.toNat : Int)
                  · have d5 : decide ((b8.toNat : Int) < (b9.toNat : Int)) = true := decide_eq_true f5
                    have HF := Lib.hid (show fitsD gn sq b8 b9 = true from decide_eq_true ⟨by omega, by omega, by omega, by omega, by omega⟩)
                    go_wp2
                    go_meet
                    exact ⟨by unfold FitsB; rw [HF.out], by first | trivial | rfl⟩
                  · have d5 : decide ((b8.toNat : Int) < (b9.toNat : Int)) = false := decide_eq_false f5
                    have HF := Lib.hid (show fitsD gn sq b8 b9 = false from decide_eq_false (fun h => by obtain ⟨h1, h2, h3, h4, h5⟩ := h; omega))
                    go_wp2
                    go_meet
                    exact ⟨by unfold FitsB; rw [HF.out], by first | trivial | rfl⟩
                · have d4 : decide ((b9.toNat : Int) ≤ 4) = false := decide_eq_false f4
                  have HF := Lib.hid (show fitsD gn sq b8 b9 = false from decide_eq_false (fun h => by obtain ⟨h1, h2, h3, h4, h5⟩ := h; omega))
                  go_wp2
                  go_meet
                  exact ⟨by unfold FitsB; rw [HF.out], by first | trivial | rfl⟩
              · have d3 : decide ((sq : Int) ≤ 1073741824) = false := decide_eq_false f3
                have HF := Lib.hid (show fitsD gn sq b8 b9 = false from decide_eq_false (fun h => by obtain ⟨h1, h2, h3, h4, h5⟩ := h; omega))
                go_wp2
                go_meet
                exact ⟨by unfold FitsB; rw [HF.out], by first | trivial | rfl⟩
            · have d2 : decide ((gn : Int) ≤ 1073741824) = false := decide_eq_false f2
              have HF := Lib.hid (show fitsD gn sq b8 b9 = false from decide_eq_false (fun h => by obtain ⟨h1, h2, h3, h4, h5⟩ := h; omega))
              go_wp2
              go_meet
              exact ⟨by unfold FitsB; rw [HF.out], by first | trivial | rfl⟩
          · have d1 : decide ((1 : Int) ≤ (gn : Int)) = false := decide_eq_false f1
            have HF := Lib.hid (show fitsD gn sq b8 b9 = false from decide_eq_false (fun h => by obtain ⟨h1, h2, h3, h4, h5⟩ := h; omega))
            go_wp2
            go_meet
            exact ⟨by unfold FitsB; rw [HF.out], by first | trivial | rfl⟩
        case rest =>
          obtain ⟨hfb, rfl⟩ := hcut
          unfold FitsB at hfb
          subst hfb
          have B2 : Bk wc w.heap.size 95 (ptC 0 0 0 0 (.slice none 0 0)) := B1.no hk1
          have K2 : Kp No w wc := K1.trans hk1
          have z0 : wc.cell? ⟨w.heap.size, 0, none⟩ = some (.int .i64 0) := B2.cell 0
          have z1 : wc.cell? ⟨w.heap.size, 1, none⟩ = some (.int .i64 0) := B2.cell 1
          have z2 : wc.cell? ⟨w.heap.size, 2, none⟩ = some (.int .i64 0) := B2.cell 2
          have z3 : wc.cell? ⟨w.heap.size, 3, none⟩ = some (.int .i64 0) := B2.cell 3
          have z4 : wc.cell? ⟨w.heap.size, 4, none⟩ = some (.slice none 0 0) := B2.cell 4
          have zf := B2.frozen
          have HO := Lib.hid (okPt_split gn sq b8 b9 b10 ((l.drop 11).take b10.toNat) (by have := HL64.out; simp; omega))
          cases hfi : fitsD gn sq b8 b9 with
          | false =>
            have HFI := Lib.hid hfi; clear hfi
            have HL0 := Lib.hid (show lookS l = none by rw [HK.out, if_neg (fun h => by have := h.2.2.1; rw [HR.out] at this; have := (HO.out.1 this).1; rw [HFI.out] at this; cases this)])
            go_wp2
            refine end_cell_tmp (p := 2) (u := 3) _ (by kernel_rfl) ?_ (Bk.set5 B2 _ _ _ _ _) Tryz.underlying95 rfl Tryz.infoPart ?_ ?_
            · rfl
            · rfl
            exact lookR_none (Kp.set5 K2 (.inr (Nat.le_refl w.heap.size)) _ _ _ _ _) HL0.out
          | true =>
            have HFI := Lib.hid hfi; clear hfi
            cases hfu : fullD b8 b9 b10 with
            | false =>
              have HFU := Lib.hid hfu; clear hfu
              have HL0 := Lib.hid (show lookS l = none by rw [HK.out, if_neg (fun h => by have := h.2.2.1; rw [HR.out] at this; have := (HO.out.1 this).2; rw [HFU.out] at this; cases this)])
              go_wp2
              refine end_cell_tmp (p := 2) (u := 3) _ (by kernel_rfl) ?_ (Bk.set5 B2 _ _ _ _ _) Tryz.underlying95 rfl Tryz.infoPart ?_ ?_
              · rfl
              · rfl
              exact lookR_none (Kp.set5 K2 (.inr (Nat.le_refl w.heap.size)) _ _ _ _ _) HL0.out
            | true =>
              have HFU := Lib.hid hfu; clear hfu
              have h47 : b10.toNat ≤ 47 := fullD_le HFU.out
              have e10 := HN10.out
              generalize hn : b10.toNat = n at *
              subst e10
              have n0 : (0 : Int) ≤ (n : Int) := by omega
              have n1 : (n : Int) ≤ 47 := by omega
              have hT := ((t60.drop (11 + n) (by have := HL64.out; simp; omega)).no K2)
              obtain ⟨l', hl'⟩ : ∃ l', (l.take 60).drop (11 + n) = l' := ⟨_, rfl⟩
              have hll : l'.length = 60 - (11 + n) := by rw [← hl']; have := HL64.out; simp; omega
              have HZ := Lib.hid (show (l.drop (11 + n)).take (49 - n) = l' by rw [← hl', List.drop_take]; congr 1; omega)
              rw [hl'] at hT
              clear hl'
              have cc : ¬ c = 11 + n := by omega
              have c2 : (11 : Int) + (n : Int) ≤ 60 := by omega
              have c3 : (60 : Int) ≤ (c : Int) := by omega
              have cm : c - (11 + n) ≤ maxLen := by unfold maxLen; omega
              rw [← hll] at hT
              by_cases hz : zeroS l'
              · have tz := trim_zero _ _ _ _ hT cm hz
                rw [hll] at tz
                clear hll hT
                have hd := (((hv.drop 11 (by have := HL64.out; omega)).take n (by have := HL64.out; simp; omega)).no K2)
                obtain ⟨d, hdd⟩ : ∃ d, (l.drop 11).take n = d := ⟨_, rfl⟩
                have hdl : d.length = n := by rw [← hdd]; have := HL64.out; simp; omega
                have HP := Lib.hid (show lookS l = some ⟨gn, sq, b8.toNat, b9.toNat, d⟩ by
                  have hr := HR.out
                  rw [hdd] at hr
                  rw [HK.out, hr]
                  refine if_pos ⟨HL64.out.symm, HS.out.2 HN.out, (okPt_split gn sq b8 b9 b10 d (by rw [hdl, hn]; omega)).2 ⟨HFI.out, HFU.out⟩, ?_⟩
                  rw [HZ.out]; exact hz)
                rw [hdd] at hd
                have HDL := Lib.hid hdl
                clear hdd hdl hn
                have hq0 : ¬ w.heap.size = q := by omega
                have HQ := Lib.hid hq; have HB2 := Lib.hid B2; clear hq B2 p0 p1 p2 p3 z0 z1 z2 z3 z4 zf
                go_wp2_with (first | (go_at_call 89; refine tz.mono ?_; rintro e w' ⟨rfl, m, rfl⟩) | (at_builtin; refine (wpList_appV _ rfl _ _ 69 rfl w.heap.size 5 _ 1 Tryz.underlying69 Tryz.infoByte rfl _ 0 [] rfl (nil_own _ _ _ _) _ _ _ (u8s d) rfl (by rw [u8s_length, HDL.out]; first | rfl | omega) ((hd.no ((Kp.refl _ _).drewN _)).cs.1) (u8s_one _) (by omega) (by omega) (by have := K2.size; simpa using this) ?_)))
                intro v' w1 o1 k1 _
                have OD : OwnB w1 w.heap.size v' d := own_of (l := []) o1 rfl
                have K3 : Kp No wc w1 := ((Kp.refl No wc).drewN m).trans (k1.mono (fun _ _ h => by cases h))
                obtain ⟨A9, n9, c9, hv9⟩ : ∃ A9 n9 c9, v' = .slice A9 n9 c9 := by obtain ⟨A9, c9, h, _⟩ := own_len o1; exact ⟨_, _, _, h⟩
                subst hv9
                clear o1 k1 tz
                have Q3 := HQ.out.no K3
                have B3 := HB2.out.no K3
                have p0 : w1.cell? ⟨q, 0, none⟩ = some (.int .i64 gn) := Q3.cell 0
                have p1 : w1.cell? ⟨q, 1, none⟩ = some (.int .i64 sq) := Q3.cell 1
                have p2 : w1.cell? ⟨q, 2, none⟩ = some (.int .i64 (b8.toNat : Int)) := Q3.cell 2
                have p3 : w1.cell? ⟨q, 3, none⟩ = some (.int .i64 (b9.toNat : Int)) := Q3.cell 3
                have p4 : w1.cell? ⟨q, 4, none⟩ = some (.slice none 0 0) := Q3.cell 4
                have pf := Q3.frozen
                have z0 : w1.cell? ⟨w.heap.size, 0, none⟩ = some (.int .i64 0) := B3.cell 0
                have z1 : w1.cell? ⟨w.heap.size, 1, none⟩ = some (.int .i64 0) := B3.cell 1
                have z2 : w1.cell? ⟨w.heap.size, 2, none⟩ = some (.int .i64 0) := B3.cell 2
                have z3 : w1.cell? ⟨w.heap.size, 3, none⟩ = some (.int .i64 0) := B3.cell 3
                have z4 : w1.cell? ⟨w.heap.size, 4, none⟩ = some (.slice none 0 0) := B3.cell 4
                have zf := B3.frozen
                have HQ3 := Lib.hid Q3; have HB3 := Lib.hid B3; have HK3 := Lib.hid K3; clear Q3 B3 K3
                have hq1 : ¬ q = w.heap.size := by omega
                go_wp2
                have KS : Kp (fun k => k = q ∨ k = w.heap.size) w1 (w1.setCell ⟨q, 4, none⟩ (.slice A9 n9 c9)) := (Kp.refl _ _).set (.inl (.inl rfl)) 4 _
                have KW : Kp No w (w1.setCell ⟨q, 4, none⟩ (.slice A9 n9 c9)) := (K2.trans HK3.out).set (.inr (by omega)) 4 _
                have BS : Bk (w1.setCell ⟨q, 4, none⟩ (.slice A9 n9 c9)) w.heap.size 95 (ptC 0 0 0 0 (.slice none 0 0)) := HB3.out.far (p := ⟨q, 4, none⟩) hq0 _
                refine end_cell_tmp (p := 2) (u := 3) _ (by kernel_rfl) ?_ (Bk.set5 BS _ _ _ _ _) Tryz.underlying95 rfl Tryz.infoPart ?_ ?_
                · rfl
                · rfl
                exact lookR_some (Kp.set5 KW (.inr (Nat.le_refl w.heap.size)) _ _ _ _ _) HP.out (OD.kp (Kp.set5 KS (.inl (.inr rfl)) _ _ _ _ _) (fun g0 h0 h1 => by
                  rcases h1 with h1 | h1
                  · exact own_ne OD HQ3.out (by decide) (h1 ▸ h0)
                  · exact own_ne OD HB3.out (by decide) (h1 ▸ h0)))
              · obtain ⟨A3, k3, c3', hv3, hk3⟩ := trimV_len g (o + (11 + n)) (c - (11 + n)) l' hz
                have tz := trim_some _ _ _ _ _ hT cm hz
                rw [hll, hv3] at tz
                clear hll hT
                have HL0 := Lib.hid (show lookS l = none by rw [HK.out, if_neg (fun h => by have := h.2.2.2; rw [HZ.out] at this; exact hz this)])
                have hk4 : (0 : Int) < (k3 : Int) := by omega
                go_wp2_with (go_at_call 89; refine tz.mono ?_; rintro e w' ⟨rfl, m, rfl⟩)
                refine end_cell_tmp (p := 2) (u := 3) _ (by kernel_rfl) ?_ (Bk.set5 (B2.drewN m) _ _ _ _ _) Tryz.underlying95 rfl Tryz.infoPart ?_ ?_
                · rfl
                · rfl
                exact lookR_none (Kp.set5 (K2.drewN m) (.inr (Nat.le_refl w.heap.size)) _ _ _ _ _) HL0.out
  · have hne : ((nv : Int) != sv) = true := by rw [bne_iff_ne]; exact hsum
    have HN := Lib.hid hsum
    clear hsum
    go_enter Tryz.func56, Tryz.ntmps56
    go_wp2_with fail
    rw [show w.alloc (.cells #[.int .i64 0, .int .i64 0, .int .i64 0, .int .i64 0, .slice none 0 0] 95) = W from HW.out.symm]
    go_quiet ((first | (go_at_call 87; exact q60 _) | (go_at_call 88; exact qs _)))
    have z0 : W.cell? ⟨w.heap.size, 0, none⟩ = some (.int .i64 0) := B0.cell 0
    have z1 : W.cell? ⟨w.heap.size, 1, none⟩ = some (.int .i64 0) := B0.cell 1
    have z2 : W.cell? ⟨w.heap.size, 2, none⟩ = some (.int .i64 0) := B0.cell 2
    have z3 : W.cell? ⟨w.heap.size, 3, none⟩ = some (.int .i64 0) := B0.cell 3
    have z4 : W.cell? ⟨w.heap.size, 4, none⟩ = some (.slice none 0 0) := B0.cell 4
    have zf := B0.frozen
    go_wp2
    have B1 := Bk.set5 (B0.drewN nq) (.int .i64 0) (.int .i64 0) (.int .i64 0) (.int .i64 0) (.slice none 0 0)
    have K1 := Kp.set5 (M := No) (K0.drewN nq) (.inr (Nat.le_refl w.heap.size)) (.int .i64 0) (.int .i64 0) (.int .i64 0) (.int .i64 0) (.slice none 0 0)
    refine end_cell_tmp (p := 2) (u := 3) _ (by kernel_rfl) ?_ B1 Tryz.underlying95 rfl Tryz.infoPart ?_ ?_
    · rfl
    · rfl
    exact lookR_none K1 (by rw [HK.out, if_neg (fun h => HN.out (HS.out.1 h.2.1))])

theorem look_any (A : Option Addr) (n c : Nat) (l : List UInt8) (w : World) (hv : ArgB w (.slice A n c) l) (hm : c ≤ maxLen) :
    Calls Tryz.prog 56 #[.slice A n c] w fun e w' => LookR w w' l e := by
  by_cases h : n = 64
  · subst h
    obtain ⟨hcs, hl, hc⟩ := hv.cs
    obtain ⟨g, o, c', e, _, _⟩ := hv.at_ (by omega)
    injection e with e _ _
    subst e
    exact look_full g o c l w hv hm
  · refine (look_short A n c w h).mono ?_
    rintro e w' ⟨rfl, hk⟩
    exact lookR_none hk (by rw [lookS_eq, if_neg (fun hh => h (by rw [(hv.cs).2.1]; exact hh.1))])
end Go.Proofs.YtlgbmkdeamgpkaaGreatDoor
