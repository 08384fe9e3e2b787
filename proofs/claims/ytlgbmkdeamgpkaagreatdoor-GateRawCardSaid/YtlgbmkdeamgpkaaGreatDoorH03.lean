/- The reference's Look by contract. No condition beyond what each theorem states. -/
import Derived.Test.YtlgbmkdeamgpkaaGreatDoorH02
import Derived.Test.YtlgbmkdeamgpkaaGreatDoorG04
import Derived.Deep.RegionLaw
import Derived.Deep.RegionHeld3
namespace Go.Proofs.YtlgbmkdeamgpkaaGreatDoor
open Go Go.RowKit

/-- does a part's numbers stand in their ranges, its length's byte too? -/
def headD (gn sq i n k : Nat) : Bool := decide (1 ≤ gn ∧ gn ≤ 1073741824 ∧ sq ≤ 1073741824 ∧ n ≤ 4 ∧ i < n ∧ k ≤ 47)
def HeadB (gn sq i n k : Nat) (s : Value) : Prop := s = .bool (!headD gn sq i n k)
/-- is it too short, or too long, for its place? -/
def tailD (i n k : Nat) : Bool := if i + 1 = n then decide (0 < k ∨ n ≤ 1) else decide (k = 47)
def TailB (i n k : Nat) (s : Value) : Prop := s = .bool (!tailD i n k)
theorem okPt_split2 (gn sq i n k : Nat) (d : List UInt8) (hd : d.length = min k 53) : okPt ⟨gn, sq, i, n, d⟩ ↔ headD gn sq i n k = true ∧ tailD i n k = true := by
  unfold okPt headD tailD
  simp only [hd]
  by_cases h : i + 1 = n
  · rw [if_pos h, decide_eq_true_eq, decide_eq_true_eq]; omega
  · rw [if_neg h, decide_eq_true_eq, decide_eq_true_eq]; omega
theorem rlook_short_r {w w' : World} {l : List UInt8} (hn : l.length ≠ 64) (hk : Kp No w w') : LookR w w' l (.returned (.tuple #[noPt, .int .i64 43])) := lookR_none hk (by unfold lookS; rw [if_neg (fun h => hn h.1)])
set_option maxHeartbeats 1000000 in
theorem rlook_short (A : Option Addr) (n c : Nat) (w : World) (hn : n ≠ 64) :
    Calls Tryz.prog 126 #[.slice A n c] w fun e w' => e = .returned (.tuple #[noPt, .int .i64 43]) ∧ Kp No w w' := by
  have h1 : ((n : Int) != 64) = true := by rw [bne_iff_ne]; omega
  clear hn
  go_enter Tryz.func126, Tryz.ntmps126
  go_wp2
  have B1 := (Bk.new w 95 (ptC 0 0 0 0 (.slice none 0 0))).alloc (.cells #[.int .i64 0, .int .i64 0, .int .i64 0, .int .i64 0, .slice none 0 0] 95)
  have K1 := ((Kp.refl No w).alloc (.cells #[.int .i64 0, .int .i64 0, .int .i64 0, .int .i64 0, .slice none 0 0] 95)).alloc (.cells #[.int .i64 0, .int .i64 0, .int .i64 0, .int .i64 0, .slice none 0 0] 95)
  exact end_cell_tmp (p := 2) (u := 3) _ (by kernel_rfl) rfl B1 Tryz.underlying95 rfl Tryz.infoPart rfl ⟨rfl, K1⟩

/-- what the loop of the reference's Look keeps -/
def RLkInv (w : World) (q : Nat) (gn sq i8 i9 : Int) (l : List UInt8) (n : Nat) (i : Value) (wr : World) : Prop :=
  ∃ (k : Nat) (A : Option Addr) (c : Nat), k ≤ n ∧ i = .int .i64 k ∧ Bk wr q 95 (ptC gn sq i8 i9 (.slice A k c)) ∧ OwnB wr w.heap.size (.slice A k c) ((l.drop 11).take k) ∧ Kp No w wr ∧
    Bk wr w.heap.size 95 (ptC 0 0 0 0 (.slice none 0 0)) ∧ Bk wr (w.heap.size + 1) 95 (ptC 0 0 0 0 (.slice none 0 0))

set_option maxRecDepth 100000 in
set_option maxHeartbeats 2000000 in
theorem rlook_full (g o c : Nat) (l : List UInt8) (w : World) (hv : ArgB w (.slice (some ⟨g, o, none⟩) 64 c) l) :
    Calls Tryz.prog 126 #[.slice (some ⟨g, o, none⟩) 64 c] w fun e w' => LookR w w' l e := by
  obtain ⟨hcs, hl64, hc⟩ := hv.cs
  have h4 := (hv.drop 4 (by omega))
  have hgl := hv.at_ (by omega)
  obtain ⟨g', o', c', e1, _, hx⟩ := hgl
  injection e1 with e1 e1n e1c
  clear e1n
  injection e1 with e1
  injection e1 with e1 e2
  subst e1 e2 e1c
  have x8 := hx 8 _ (List.getElem?_eq_getElem (by omega))
  have x9 := hx 9 _ (List.getElem?_eq_getElem (by omega))
  have x10 := hx 10 _ (List.getElem?_eq_getElem (by omega))
  have g8 : l.getD 8 0 = l[8]'(by omega) := by simp [List.getD_eq_getElem?_getD, show 8 < l.length by omega]
  have g9 : l.getD 9 0 = l[9]'(by omega) := by simp [List.getD_eq_getElem?_getD, show 9 < l.length by omega]
  have g10 : l.getD 10 0 = l[10]'(by omega) := by simp [List.getD_eq_getElem?_getD, show 10 < l.length by omega]
  rw [← g8] at x8; rw [← g9] at x9; rw [← g10] at x10
  clear g8 g9 g10
  have HX := Lib.hid hx; clear hx
  generalize h8 : l.getD 8 0 = b8 at *
  generalize h9 : l.getD 9 0 = b9 at *
  generalize h10 : l.getD 10 0 = b10 at *
  have bb8 := byte_bd b8; have bb9 := byte_bd b9; have bb10 := byte_bd b10
  have E8 := Lib.hid h8; have E9 := Lib.hid h9; have E10 := Lib.hid h10; clear h8 h9 h10
  have HR := Lib.hid (show readS l = ⟨ofFour l, ofFour (l.drop 4), b8.toNat, b9.toNat, (l.drop 11).take b10.toNat⟩ by unfold readS; rw [E8.out, E9.out, E10.out])
  have q0 : ∀ W, Kp No w W → Calls Tryz.prog 174 #[.slice (some ⟨g, o, none⟩) 64 c] W fun e w' => e = .returned (.tuple #[.int .u32 (ofFour l : Int), .bool true]) ∧ W = w' := fun W k => rofFour_any _ _ _ (hv.no k) (by omega) (by unfold maxLen; omega)
  have q4 : ∀ W, Kp No w W → Calls Tryz.prog 174 #[.slice (some ⟨g, o + 4, none⟩) 60 (c - 4)] W fun e w' => e = .returned (.tuple #[.int .u32 (ofFour (l.drop 4) : Int), .bool true]) ∧ W = w' := fun W k => rofFour_any _ _ _ (h4.no k) (by simp; omega) (by simp; unfold maxLen; omega)
  generalize hgn : ofFour l = gn at *
  generalize hsq : ofFour (l.drop 4) = sq at *
  have gb : gn < 4294967296 := by rw [← hgn]; exact ofFour_lt _
  have sb : sq < 4294967296 := by rw [← hsq]; exact ofFour_lt _
  clear hgn hsq
  have h4c : (4 : Int) ≤ (c : Int) := by omega
  have hcap4 : ¬ c = 4 := by omega
  have HL64 := Lib.hid hl64; have HV := Lib.hid hv; clear hl64 hv hcs hc h4
  have wg : IntKind.i64.wrap (gn : Int) = (gn : Int) := IntWalk.i64_in _ (by omega)
  have wq : IntKind.i64.wrap (sq : Int) = (sq : Int) := IntWalk.i64_in _ (by omega)
  have w8 : IntKind.i64.wrap (b8.toNat : Int) = (b8.toNat : Int) := IntWalk.i64_in _ (by omega)
  have w9 : IntKind.i64.wrap (b9.toNat : Int) = (b9.toNat : Int) := IntWalk.i64_in _ (by omega)
  have w10 : IntKind.i64.wrap (b10.toNat : Int) = (b10.toNat : Int) := IntWalk.i64_in _ (by omega)
  go_enter Tryz.func126, Tryz.ntmps126
  go_wp2_with fail
  have B0 : Bk ((w.alloc (.cells #[.int .i64 0, .int .i64 0, .int .i64 0, .int .i64 0, .slice none 0 0] 95)).alloc (.cells #[.int .i64 0, .int .i64 0, .int .i64 0, .int .i64 0, .slice none 0 0] 95)) w.heap.size 95 (ptC 0 0 0 0 (.slice none 0 0)) := (Bk.new w _ _).alloc _
  have B1 : Bk ((w.alloc (.cells #[.int .i64 0, .int .i64 0, .int .i64 0, .int .i64 0, .slice none 0 0] 95)).alloc (.cells #[.int .i64 0, .int .i64 0, .int .i64 0, .int .i64 0, .slice none 0 0] 95)) (w.heap.size + 1) 95 (ptC 0 0 0 0 (.slice none 0 0)) := Bk.new' (by simp) rfl
  have K0 : Kp No w ((w.alloc (.cells #[.int .i64 0, .int .i64 0, .int .i64 0, .int .i64 0, .slice none 0 0] 95)).alloc (.cells #[.int .i64 0, .int .i64 0, .int .i64 0, .int .i64 0, .slice none 0 0] 95)) := ((Kp.refl _ _).alloc _).alloc _
  generalize (w.alloc (.cells #[.int .i64 0, .int .i64 0, .int .i64 0, .int .i64 0, .slice none 0 0] 95)).alloc (.cells #[.int .i64 0, .int .i64 0, .int .i64 0, .int .i64 0, .slice none 0 0] 95) = W at *
  have V8 := cell_no x8 K0; have V9 := cell_no x9 K0; have V10 := cell_no x10 K0
  have HB0 := Lib.hid B0; have HB1 := Lib.hid B1; have HK0 := Lib.hid K0; clear B0 B1 K0 x8 x9 x10
  refine (q0 W HK0.out).mono ?_
  rintro e W' ⟨rfl, rfl⟩
  go_wp2_with fail
  refine (q4 W HK0.out).mono ?_
  rintro e W' ⟨rfl, rfl⟩
  clear q0 q4
  have hgW : g < W.heap.size := World.block_lt_of_cell? W _ V8
  have hgn : ¬ g = W.heap.size := by omega
  go_upto_region 6 with (fail)
  go_cut [9] (fun s9 wx => PartAt (w.heap.size + 1) W (ptC gn sq (b8.toNat : Int) (b9.toNat : Int) (.slice none 0 0)) s9 wx)
  case first =>
   as_aux_lemma =>
    have hF : (fun w' => w'.cell? ⟨g, o + 8, none⟩ = some (.int .u8 (b8.toNat : Int)) ∧ w'.cell? ⟨g, o + 9, none⟩ = some (.int .u8 (b9.toNat : Int))) W.drew := ⟨V8, V9⟩
    refine rg_begin (fun w' => w'.cell? ⟨g, o + 8, none⟩ = some (.int .u8 (b8.toNat : Int)) ∧ w'.cell? ⟨g, o + 9, none⟩ = some (.int .u8 (b9.toNat : Int))) 14 (by kernel_rfl) ?_
    refine rg_take (i := 0) (v := ?v0) (by simp only [List.getElem?_toArray, List.getElem?_cons_zero]; rfl) (by kernel_rfl) (by exact fun _ _ _ h => h) (by rfl) ?r0 hF ?s0
    case r0 => (intro W hW; clear hW; go_simp; try with_reducible rfl)
    try simp only [Act.put, List.setIfInBounds_toArray, List.set_cons_zero, List.set_cons_succ]
    refine rg_take (i := 1) (v := ?v1) (by simp only [List.getElem?_toArray, List.getElem?_cons_succ, List.getElem?_cons_zero]; rfl) (by kernel_rfl) (by exact fun _ _ _ h => h) (by rfl) ?r1 hF ?s1
    case r1 => (intro W hW; obtain ⟨f1, f2⟩ := hW; go_simp; try with_reducible rfl)
    try simp only [Act.put, List.setIfInBounds_toArray, List.set_cons_zero, List.set_cons_succ]
    refine rg_take (i := 2) (v := ?v2) (by simp only [List.getElem?_toArray, List.getElem?_cons_succ, List.getElem?_cons_zero]; rfl) (by kernel_rfl) (by exact fun _ _ _ h => h) (by rfl) ?r2 hF ?s2
    case r2 => (intro W hW; clear hW; go_simp; try with_reducible rfl)
    try simp only [Act.put, List.setIfInBounds_toArray, List.set_cons_zero, List.set_cons_succ]
    refine rg_take (i := 3) (v := ?v3) (by simp only [List.getElem?_toArray, List.getElem?_cons_succ, List.getElem?_cons_zero]; rfl) (by kernel_rfl) (by exact fun _ _ _ h => h) (by rfl) ?r3 hF ?s3
    case r3 => (intro W hW; obtain ⟨f1, f2⟩ := hW; go_simp; try with_reducible rfl)
    try simp only [Act.put, List.setIfInBounds_toArray, List.set_cons_zero, List.set_cons_succ]
    refine rg_take (i := 4) (v := ?v4) (by simp only [List.getElem?_toArray, List.getElem?_cons_succ, List.getElem?_cons_zero]; rfl) (by kernel_rfl) (by exact fun _ _ _ h => h) (by rfl) ?r4 hF ?s4
    case r4 => (intro W hW; clear hW; go_simp; try with_reducible rfl)
    try simp only [Act.put, List.setIfInBounds_toArray, List.set_cons_zero, List.set_cons_succ]
    refine rg_take (i := 5) (v := ?v5) (by simp only [List.getElem?_toArray, List.getElem?_cons_succ, List.getElem?_cons_zero]; rfl) (by kernel_rfl) (by exact fun _ _ _ h => h) (by rfl) ?r5 hF ?s5
    case r5 => (intro W hW; clear hW; go_simp; try with_reducible rfl)
    try simp only [Act.put, List.setIfInBounds_toArray, List.set_cons_zero, List.set_cons_succ]
    refine rg_take (i := 6) (v := ?v6) (by simp only [List.getElem?_toArray, List.getElem?_cons_succ, List.getElem?_cons_zero]; rfl) (by kernel_rfl) (by exact fun _ _ _ h => h) (by rfl) ?r6 hF ?s6
    case r6 => (intro W hW; obtain ⟨f1, f2⟩ := hW; go_simp; try with_reducible rfl)
    try simp only [Act.put, List.setIfInBounds_toArray, List.set_cons_zero, List.set_cons_succ]
    refine rg_take (i := 7) (v := ?v7) (by simp only [List.getElem?_toArray, List.getElem?_cons_succ, List.getElem?_cons_zero]; rfl) (by kernel_rfl) (by exact fun _ _ _ h => h) (by rfl) ?r7 hF ?s7
    case r7 => (intro W hW; obtain ⟨f1, f2⟩ := hW; go_simp; try with_reducible rfl)
    try simp only [Act.put, List.setIfInBounds_toArray, List.set_cons_zero, List.set_cons_succ]
    refine rg_take (i := 8) (v := ?v8) (by simp only [List.getElem?_toArray, List.getElem?_cons_succ, List.getElem?_cons_zero]; rfl) (by kernel_rfl) (by exact fun _ _ _ h => h) (by rfl) ?r8 hF ?s8
    case r8 => (intro W hW; clear hW; go_simp; try with_reducible rfl)
    try simp only [Act.put, List.setIfInBounds_toArray, List.set_cons_zero, List.set_cons_succ]
    refine rg_take (i := 9) (v := ?v9) (by simp only [List.getElem?_toArray, List.getElem?_cons_succ, List.getElem?_cons_zero]; rfl) (by kernel_rfl) (by exact fun _ _ _ h => h) (by rfl) ?r9 hF ?s9
    case r9 => (intro W hW; clear hW; go_simp; try with_reducible rfl)
    try simp only [Act.put, List.setIfInBounds_toArray, List.set_cons_zero, List.set_cons_succ]
    refine rg_take (i := 10) (v := ?v10) (by simp only [List.getElem?_toArray, List.getElem?_cons_succ, List.getElem?_cons_zero]; rfl) (by kernel_rfl) (by exact fun _ _ _ h => h) (by rfl) ?r10 hF ?s10
    case r10 => (intro W hW; obtain ⟨f1, f2⟩ := hW; go_simp; try with_reducible rfl)
    try simp only [Act.put, List.setIfInBounds_toArray, List.set_cons_zero, List.set_cons_succ]
    refine rg_take (i := 11) (v := ?v11) (by simp only [List.getElem?_toArray, List.getElem?_cons_succ, List.getElem?_cons_zero]; rfl) (by kernel_rfl) (by exact fun _ _ _ h => h) (by rfl) ?r11 hF ?s11
    case r11 => (intro W hW; obtain ⟨f1, f2⟩ := hW; go_simp; try with_reducible rfl)
    try simp only [Act.put, List.setIfInBounds_toArray, List.set_cons_zero, List.set_cons_succ]
    refine rg_take (i := 12) (v := ?v12) (by simp only [List.getElem?_toArray, List.getElem?_cons_succ, List.getElem?_cons_zero]; rfl) (by kernel_rfl) (by exact fun _ _ _ h => h) (by rfl) ?r12 hF ?s12
    case r12 => (intro W hW; clear hW; go_simp; try with_reducible rfl)
    try simp only [Act.put, List.setIfInBounds_toArray, List.set_cons_zero, List.set_cons_succ]
    refine rg_one (i := 13) (oi := ?o13) ?a13 ?b13 ?c13 ?d13
    case a13 => (simp only [List.getElem?_toArray, List.getElem?_cons_succ, List.getElem?_cons_zero]; rfl)
    case b13 => kernel_rfl
    case c13 => rfl
    intro K hK
    go_simp
    refine rg_use hK (⟨cell_no hF.1 ((Kp.refl _ _).alloc _), cell_no hF.2 ((Kp.refl _ _).alloc _)⟩) (fun hF => ?_)
    clear hK K
    try simp only [Act.put, List.setIfInBounds_toArray, List.set_cons_zero, List.set_cons_succ]
    refine rg_one (i := 14) (oi := ?o14) ?a14 ?b14 ?c14 ?d14
    case a14 => (simp only [List.getElem?_toArray, List.getElem?_cons_succ, List.getElem?_cons_zero]; rfl)
    case b14 => kernel_rfl
    case c14 => rfl
    intro K hK
    go_simp
    refine hK _ _ (fun h => absurd rfl h) ?_
    clear hK K
    try simp only [Act.put, List.setIfInBounds_toArray, List.set_cons_zero, List.set_cons_succ]
    refine rg_done (by kernel_rfl) ?_
    go_wp2_with fail
    go_meet
    exact ⟨W.heap.size, rfl, (Bk.new W 95 (ptC gn sq (b8.toNat : Int) (b9.toNat : Int) (.slice none 0 0))).drew, HB1.out.lt, ((Kp.refl _ _).alloc _).drew⟩
  case rest =>
    obtain ⟨q, rfl, hq, hqs, hk1⟩ := hcut
    clear V8 V9 w8 w9 w10 wg wq hgW hgn
    have HQ := Lib.hid hq
    have HK1 := Lib.hid (HK0.out.trans hk1)
    have HBN := Lib.hid (HB0.out.no hk1)
    have HBO := Lib.hid (HB1.out.no hk1)
    obtain ⟨n10, hn10⟩ : ∃ n : Int, n = (b10.toNat : Int) := ⟨_, rfl⟩
    have V10' : wc.cell? ⟨g, o + 10, none⟩ = some (.int .u8 n10) := by rw [hn10]; exact cell_no V10 hk1
    have bn10 : 0 ≤ n10 ∧ n10 < 256 := by rw [hn10]; exact bb10
    have HN10 := Lib.hid hn10
    clear V10 bb10 hn10 hk1
    have p0 : wc.cell? ⟨q, 0, none⟩ = some (.int .i64 gn) := hq.cell 0
    have p1 : wc.cell? ⟨q, 1, none⟩ = some (.int .i64 sq) := hq.cell 1
    have p2 : wc.cell? ⟨q, 2, none⟩ = some (.int .i64 (b8.toNat : Int)) := hq.cell 2
    have p3 : wc.cell? ⟨q, 3, none⟩ = some (.int .i64 (b9.toNat : Int)) := hq.cell 3
    clear hq
    go_upto_region 8 with (fail)
    go_cut [80] (fun s wx => HeadB gn sq b8.toNat b9.toNat b10.toNat s ∧ wc = wx)
    case first =>
     as_aux_lemma =>
      by_cases f1 : (gn : Int) < 1
      · have df1 : decide ((gn : Int) < 1) = true := decide_eq_true f1
        have HF := Lib.hid (show headD gn sq b8.toNat b9.toNat b10.toNat = false from decide_eq_false (fun h => by have := HN10.out; obtain ⟨h1, h2, h3, h4, h5, h6⟩ := h; omega))
        go_wp2
        go_meet
        exact ⟨by unfold HeadB; rw [HF.out]; rfl, by first | trivial | rfl⟩
      · have df1 : decide ((gn : Int) < 1) = false := decide_eq_false f1
        by_cases f2 : (1073741824 : Int) < (gn : Int)
        · have df2 : decide ((1073741824 : Int) < (gn : Int)) = true := decide_eq_true f2
          have HF := Lib.hid (show headD gn sq b8.toNat b9.toNat b10.toNat = false from decide_eq_false (fun h => by have := HN10.out; obtain ⟨h1, h2, h3, h4, h5, h6⟩ := h; omega))
          go_wp2
          go_meet
          exact ⟨by unfold HeadB; rw [HF.out]; rfl, by first | trivial | rfl⟩
        · have df2 : decide ((1073741824 : Int) < (gn : Int)) = false := decide_eq_false f2
          by_cases f3 : (1073741824 : Int) < (sq : Int)
          · have df3 : decide ((1073741824 : Int) < (sq : Int)) = true := decide_eq_true f3
            have HF := Lib.hid (show headD gn sq b8.toNat b9.toNat b10.toNat = false from decide_eq_false (fun h => by have := HN10.out; obtain ⟨h1, h2, h3, h4, h5, h6⟩ := h; omega))
            go_wp2
            go_meet
            exact ⟨by unfold HeadB; rw [HF.out]; rfl, by first | trivial | rfl⟩
          · have df3 : decide ((1073741824 : Int) < (sq : Int)) = false := decide_eq_false f3
            by_cases f4 : (b9.toNat : Int) < 1
            · have df4 : decide ((b9.toNat : Int) < 1) = true := decide_eq_true f4
              have HF := Lib.hid (show headD gn sq b8.toNat b9.toNat b10.toNat = false from decide_eq_false (fun h => by have := HN10.out; obtain ⟨h1, h2, h3, h4, h5, h6⟩ := h; omega))
              go_wp2
              go_meet
              exact ⟨by unfold HeadB; rw [HF.out]; rfl, by first | trivial | rfl⟩
            · have df4 : decide ((b9.toNat : Int) < 1) = false := decide_eq_false f4
              by_cases f5 : (4 : Int) < (b9.toNat : Int)
              · have df5 : decide ((4 : Int) < (b9.toNat : Int)) = true := decide_eq_true f5
                have HF := Lib.hid (show headD gn sq b8.toNat b9.toNat b10.toNat = false from decide_eq_false (fun h => by have := HN10.out; obtain ⟨h1, h2, h3, h4, h5, h6⟩ := h; omega))
                go_wp2
                go_meet
                exact ⟨by unfold HeadB; rw [HF.out]; rfl, by first | trivial | rfl⟩
              · have df5 : decide ((4 : Int) < (b9.toNat : Int)) = false := decide_eq_false f5
                by_cases f6 : (b9.toNat : Int) ≤ (b8.toNat : Int)
                · have df6 : decide ((b9.toNat : Int) ≤ (b8.toNat : Int)) = true := decide_eq_true f6
                  have HF := Lib.hid (show headD gn sq b8.toNat b9.toNat b10.toNat = false from decide_eq_false (fun h => by have := HN10.out; obtain ⟨h1, h2, h3, h4, h5, h6⟩ := h; omega))
                  go_wp2
                  go_meet
                  exact ⟨by unfold HeadB; rw [HF.out]; rfl, by first | trivial | rfl⟩
                · have df6 : decide ((b9.toNat : Int) ≤ (b8.toNat : Int)) = false := decide_eq_false f6
                  by_cases f7 : (47 : Int) < n10
                  · have df7 : decide ((47 : Int) < n10) = true := decide_eq_true f7
                    have HF := Lib.hid (show headD gn sq b8.toNat b9.toNat b10.toNat = false from decide_eq_false (fun h => by have := HN10.out; obtain ⟨h1, h2, h3, h4, h5, h6⟩ := h; omega))
                    go_wp2
                    go_meet
                    exact ⟨by unfold HeadB; rw [HF.out]; rfl, by first | trivial | rfl⟩
                  · have df7 : decide ((47 : Int) < n10) = false := decide_eq_false f7
                    have HF := Lib.hid (show headD gn sq b8.toNat b9.toNat b10.toNat = true from decide_eq_true (by have := HN10.out; omega))
                    go_wp2
                    go_meet
                    exact ⟨by unfold HeadB; rw [HF.out]; rfl, by first | trivial | rfl⟩
    case rest =>
      obtain ⟨hfb, rfl⟩ := hcut
      unfold HeadB at hfb
      subst hfb
      have z0 : wc.cell? ⟨w.heap.size, 0, none⟩ = some (.int .i64 0) := HBN.out.cell 0
      have z1 : wc.cell? ⟨w.heap.size, 1, none⟩ = some (.int .i64 0) := HBN.out.cell 1
      have z2 : wc.cell? ⟨w.heap.size, 2, none⟩ = some (.int .i64 0) := HBN.out.cell 2
      have z3 : wc.cell? ⟨w.heap.size, 3, none⟩ = some (.int .i64 0) := HBN.out.cell 3
      have z4 : wc.cell? ⟨w.heap.size, 4, none⟩ = some (.slice none 0 0) := HBN.out.cell 4
      have zf := HBN.out.frozen
      have y0 : wc.cell? ⟨w.heap.size + 1, 0, none⟩ = some (.int .i64 0) := HBO.out.cell 0
      have y1 : wc.cell? ⟨w.heap.size + 1, 1, none⟩ = some (.int .i64 0) := HBO.out.cell 1
      have y2 : wc.cell? ⟨w.heap.size + 1, 2, none⟩ = some (.int .i64 0) := HBO.out.cell 2
      have y3 : wc.cell? ⟨w.heap.size + 1, 3, none⟩ = some (.int .i64 0) := HBO.out.cell 3
      have y4 : wc.cell? ⟨w.heap.size + 1, 4, none⟩ = some (.slice none 0 0) := HBO.out.cell 4
      have HO := Lib.hid (okPt_split2 gn sq b8.toNat b9.toNat b10.toNat ((l.drop 11).take b10.toNat) (by have := HL64.out; simp; omega))
      have HLN := Lib.hid (show ¬ (headD gn sq b8.toNat b9.toNat b10.toNat = true ∧ tailD b8.toNat b9.toNat b10.toNat = true) → lookS l = none from fun h => by
        unfold lookS
        rw [if_neg]
        rintro ⟨_, h2, _⟩
        rw [HR.out] at h2
        exact h (HO.out.1 h2))
      cases hfi : headD gn sq b8.toNat b9.toNat b10.toNat with
      | false =>
        have HFI := Lib.hid hfi; clear hfi
        go_wp2
        refine end_cell_tmp (p := 2) (u := 3) _ (by kernel_rfl) ?_ (Bk.set5 HBN.out _ _ _ _ _) Tryz.underlying95 rfl Tryz.infoPart ?_ ?_
        · rfl
        · rfl
        exact lookR_none (Kp.set5 HK1.out (.inr (Nat.le_refl w.heap.size)) _ _ _ _ _) (HLN.out (fun h => by rw [HFI.out] at h; cases h.1))
      | true =>
        have HFI := Lib.hid hfi; clear hfi
        have m0 : -1 ≤ (b9.toNat : Int) - 1 := by omega
        go_upto_region 11 with (fail)
        go_cut [11, 105] (fun _ s wx => TailB b8.toNat b9.toNat b10.toNat s ∧ wc = wx)
        case first =>
         as_aux_lemma =>
          by_cases hlast : (b8.toNat : Int) = (b9.toNat : Int) - 1
          · have hb : ((b8.toNat : Int) == (b9.toNat : Int) - 1) = true := beq_iff_eq.2 hlast
            have HLA := Lib.hid hlast; clear hlast
            by_cases hz : n10 = 0
            · have dz : (n10 == 0) = true := beq_iff_eq.2 hz
              have HZ := Lib.hid hz; clear hz
              by_cases h1 : (1 : Int) < (b9.toNat : Int)
              · have d1 : decide ((1 : Int) < (b9.toNat : Int)) = true := decide_eq_true h1
                have HF := Lib.hid (show tailD b8.toNat b9.toNat b10.toNat = false by have := HLA.out; have := HN10.out; have := HZ.out; unfold tailD; rw [if_pos (by omega)]; exact decide_eq_false (by omega))
                go_wp2
                go_meet
                exact ⟨by unfold TailB; rw [HF.out]; rfl, by first | trivial | rfl⟩
              · have d1 : decide ((1 : Int) < (b9.toNat : Int)) = false := decide_eq_false h1
                have HF := Lib.hid (show tailD b8.toNat b9.toNat b10.toNat = true by have := HLA.out; have := HN10.out; have := HZ.out; unfold tailD; rw [if_pos (by omega)]; exact decide_eq_true (by omega))
                go_wp2
                go_meet
                exact ⟨by unfold TailB; rw [HF.out]; rfl, by first | trivial | rfl⟩
            · have dz : (n10 == 0) = false := beq_eq_false_iff_ne.2 hz
              have HZ := Lib.hid hz; clear hz
              have HF := Lib.hid (show tailD b8.toNat b9.toNat b10.toNat = true by have := HLA.out; have := HN10.out; have := HZ.out; unfold tailD; rw [if_pos (by omega)]; exact decide_eq_true (by omega))
              go_wp2
              go_meet
              exact ⟨by unfold TailB; rw [HF.out]; rfl, by first | trivial | rfl⟩
          · have hb : ((b8.toNat : Int) == (b9.toNat : Int) - 1) = false := beq_eq_false_iff_ne.2 hlast
            have HLA := Lib.hid hlast; clear hlast
            by_cases h47 : n10 = 47
            · have d47 : (n10 != 47) = false := by rw [bne_eq_false_iff_eq]; exact h47
              have H47 := Lib.hid h47; clear h47
              have HF := Lib.hid (show tailD b8.toNat b9.toNat b10.toNat = true by have := HLA.out; have := HN10.out; have := H47.out; unfold tailD; rw [if_neg (by omega)]; exact decide_eq_true (by omega))
              go_wp2
              go_meet
              exact ⟨by unfold TailB; rw [HF.out]; rfl, by first | trivial | rfl⟩
            · have d47 : (n10 != 47) = true := by rw [bne_iff_ne]; exact h47
              have H47 := Lib.hid h47; clear h47
              have HF := Lib.hid (show tailD b8.toNat b9.toNat b10.toNat = false by have := HLA.out; have := HN10.out; have := H47.out; unfold tailD; rw [if_neg (by omega)]; exact decide_eq_false (by omega))
              go_wp2
              go_meet
              exact ⟨by unfold TailB; rw [HF.out]; rfl, by first | trivial | rfl⟩
        case rest =>
          obtain ⟨hfb, rfl⟩ := hcut
          unfold TailB at hfb
          subst hfb
          cases hfu : tailD b8.toNat b9.toNat b10.toNat with
          | false =>
            have HFU := Lib.hid hfu; clear hfu
            go_wp2
            refine end_cell_tmp (p := 2) (u := 3) _ (by kernel_rfl) ?_ (Bk.set5 HBN.out _ _ _ _ _) Tryz.underlying95 rfl Tryz.infoPart ?_ ?_
            · rfl
            · rfl
            exact lookR_none (Kp.set5 HK1.out (.inr (Nat.le_refl w.heap.size)) _ _ _ _ _) (HLN.out (fun h => by rw [HFU.out] at h; cases h.2))
          | true =>
            have HFU := Lib.hid hfu; clear hfu
            have h47 : b10.toNat ≤ 47 := by have := of_decide_eq_true HFI.out; omega
            have e10 := HN10.out
            have HOK := Lib.hid (HO.out.2 ⟨HFI.out, HFU.out⟩)
            have h84 : b8.toNat < 256 ∧ b9.toNat < 256 := by omega
            clear p0 p1 p2 p3 z0 z1 z2 z3 z4 zf y0 y1 y2 y3 y4 m0
            generalize hn : b10.toNat = n at *
            subst e10
            clear hn V10' bn10
            obtain ⟨d, hd⟩ : ∃ d, (l.drop 11).take n = d := ⟨_, rfl⟩
            have hdl : d.length = n := by rw [← hd]; have := HL64.out; simp; omega
            have HD := Lib.hid hd
            rw [hd] at HOK
            have HRD := Lib.hid (HR.out.trans (by rw [hd]))
            have HDL := Lib.hid hdl; clear hd hdl
            go_wp2
            go_loopw [12] (fun i wr => RLkInv w q gn sq (b8.toNat : Int) (b9.toNat : Int) l n i wr) (fun i _ => n - (intOf i).toNat)
            case atStart => exact ⟨0, none, 0, Nat.zero_le _, rfl, HQ.out, OwnB.nil _ _, HK1.out, HBN.out, HBO.out⟩
            case round =>
              obtain ⟨k, A, c0, hk, rfl, hbq, hod, hkw, hbn, hbo⟩ := hrel
              have hqr : q < wr.heap.size := hbq.lt
              have hwr : w.heap.size ≤ wr.heap.size := hkw.size
              by_cases hlt : k < n
              · as_aux_lemma =>
                have hlt' : (k : Int) < (n : Int) := by omega
                have hk0 : (0 : Int) ≤ (k : Int) := by omega
                have hx1 : 11 + k < l.length := by have := HL64.out; omega
                have hxw := HX.out (11 + k) _ (List.getElem?_eq_getElem hx1)
                have hnext : (l.drop 11).take (k + 1) = (l.drop 11).take k ++ [l[11 + k]] := by
                  rw [List.take_add_one, List.getElem?_drop, List.getElem?_eq_getElem hx1]; rfl
                have hlk : ((l.drop 11).take k).length = k := by have := HL64.out; simp; omega
                have HNX := Lib.hid hnext; have HLK := Lib.hid hlk; clear hnext hlk
                generalize l[11 + k] = x at *
                clear hx1
                have hgw : g < w.heap.size := World.block_lt_of_cell? w _ hxw
                have C4 : wr.cell? ⟨q, 4, none⟩ = some (.slice A k c0) := hbq.cell 4
                have CX : wr.cell? ⟨g, o + (11 + k), none⟩ = some (.int .u8 (x.toNat : Int)) := cell_no hxw hkw
                have wk : IntKind.i64.wrap (11 + (k : Int)) = 11 + (k : Int) := IntWalk.i64_in _ (by omega)
                have tk : (11 + (k : Int)).toNat = 11 + k := by omega
                have i1 : (0 : Int) ≤ 11 + (k : Int) := by omega
                have i2 : 11 + (k : Int) < 64 := by omega
                have bx := byte_bd x
                have HXW := Lib.hid hxw; have HBQ := Lib.hid hbq; have HOD := Lib.hid hod; have HKW := Lib.hid hkw; have HN2 := Lib.hid hbn; have HO2 := Lib.hid hbo
                clear hxw hbq hod hkw hbn hbo
                have hgq : ¬ g = q := by omega
                go_upto_region 16 with (fail)
                have hF : (fun W => W.cell? ⟨q, 4, none⟩ = some (.slice A k c0) ∧ W.cell? ⟨g, o + (11 + k), none⟩ = some (.int .u8 (x.toNat : Int))) wr.drew := ⟨C4, CX⟩
                refine rg_begin (fun W => W.cell? ⟨q, 4, none⟩ = some (.slice A k c0) ∧ W.cell? ⟨g, o + (11 + k), none⟩ = some (.int .u8 (x.toNat : Int))) 10 (by kernel_rfl) ?_
                refine rg_take (i := 0) (v := ?vz0) (by simp only [List.getElem?_toArray, List.getElem?_cons_zero]; rfl) (by kernel_rfl) (by exact fun _ _ _ h => h) (by rfl) ?rz0 hF ?sz0
                case rz0 => (intro W hW; clear hW; go_simp; try with_reducible rfl)
                try simp only [Act.put, List.setIfInBounds_toArray, List.set_cons_zero, List.set_cons_succ]
                refine rg_take (i := 1) (v := ?vz1) (by simp only [List.getElem?_toArray, List.getElem?_cons_succ, List.getElem?_cons_zero]; rfl) (by kernel_rfl) (by exact fun _ _ _ h => h) (by rfl) ?rz1 hF ?sz1
                case rz1 => (intro W hW; obtain ⟨f1, f2⟩ := hW; go_simp; try with_reducible rfl)
                try simp only [Act.put, List.setIfInBounds_toArray, List.set_cons_zero, List.set_cons_succ]
                refine rg_take (i := 2) (v := ?vz2) (by simp only [List.getElem?_toArray, List.getElem?_cons_succ, List.getElem?_cons_zero]; rfl) (by kernel_rfl) (by exact fun _ _ _ h => h) (by rfl) ?rz2 hF ?sz2
                case rz2 => (intro W hW; clear hW; go_simp; try with_reducible rfl)
                try simp only [Act.put, List.setIfInBounds_toArray, List.set_cons_zero, List.set_cons_succ]
                refine rg_take (i := 3) (v := ?vz3) (by simp only [List.getElem?_toArray, List.getElem?_cons_succ, List.getElem?_cons_zero]; rfl) (by kernel_rfl) (by exact fun _ _ _ h => h) (by rfl) ?rz3 hF ?sz3
                case rz3 => (intro W hW; clear hW; go_simp; try with_reducible rfl)
                try simp only [Act.put, List.setIfInBounds_toArray, List.set_cons_zero, List.set_cons_succ]
                refine rg_take (i := 4) (v := ?vz4) (by simp only [List.getElem?_toArray, List.getElem?_cons_succ, List.getElem?_cons_zero]; rfl) (by kernel_rfl) (by exact fun _ _ _ h => h) (by rfl) ?rz4 hF ?sz4
                case rz4 => (intro W hW; clear hW; go_simp; try with_reducible rfl)
                try simp only [Act.put, List.setIfInBounds_toArray, List.set_cons_zero, List.set_cons_succ]
                refine rg_take (i := 5) (v := ?vz5) (by simp only [List.getElem?_toArray, List.getElem?_cons_succ, List.getElem?_cons_zero]; rfl) (by kernel_rfl) (by exact fun _ _ _ h => h) (by rfl) ?rz5 hF ?sz5
                case rz5 => (intro W hW; clear hW; go_simp; try with_reducible rfl)
                try simp only [Act.put, List.setIfInBounds_toArray, List.set_cons_zero, List.set_cons_succ]
                refine rg_take (i := 6) (v := ?vz6) (by simp only [List.getElem?_toArray, List.getElem?_cons_succ, List.getElem?_cons_zero]; rfl) (by kernel_rfl) (by exact fun _ _ _ h => h) (by rfl) ?rz6 hF ?sz6
                case rz6 => (intro W hW; obtain ⟨f1, f2⟩ := hW; go_simp; try with_reducible rfl)
                try simp only [Act.put, List.setIfInBounds_toArray, List.set_cons_zero, List.set_cons_succ]
                refine rg_one (i := 7) (oi := ?oz7) ?az7 ?bz7 ?cz7 ?dz7
                case az7 => (simp only [List.getElem?_toArray, List.getElem?_cons_succ, List.getElem?_cons_zero]; rfl)
                case bz7 => kernel_rfl
                case cz7 => rfl
                intro K hK
                go_simp
                refine rg_use hK (⟨cell_no hF.1 ((Kp.refl _ _).alloc _), cell_no hF.2 ((Kp.refl _ _).alloc _)⟩) (fun hF => ?_)
                clear hK K
                try simp only [Act.put, List.setIfInBounds_toArray, List.set_cons_zero, List.set_cons_succ]
                refine rg_one (i := 8) (oi := ?oz8) ?az8 ?bz8 ?cz8 ?dz8
                case az8 => (simp only [List.getElem?_toArray, List.getElem?_cons_succ, List.getElem?_cons_zero]; rfl)
                case bz8 => kernel_rfl
                case cz8 => rfl
                intro K hK
                (refine wp_appB _ (.tmp 113) (.tmp 119) (by rfl) w.heap.size (.slice A k c0) ((l.drop 11).take k) (by rfl) (HOD.out.no ((Kp.refl No wr).drew.alloc (.cells #[.int .u8 (x.toNat : Int)] 5))) _ _ _ [x] (by rfl) (by rfl) (cs_new (xs := u8s [x]) (by rfl) (by rfl)) (by rw [HLK.out]; omega) (by simp; omega) ?_; intro A' n' c' w3 o3 k3 k3'; have B3 := (HBQ.out.no ((Kp.refl No wr).drew.alloc (.cells #[.int .u8 (x.toNat : Int)] 5))).kp k3' (own_ne (HOD.out.no ((Kp.refl No wr).drew.alloc (.cells #[.int .u8 (x.toNat : Int)] 5))) (HBQ.out.no ((Kp.refl No wr).drew.alloc (.cells #[.int .u8 (x.toNat : Int)] 5))) (by decide)); have K3 := k3 w (Nat.le_refl _) (HKW.out.trans ((Kp.refl No wr).drew.alloc (.cells #[.int .u8 (x.toNat : Int)] 5))); have N3 := (HN2.out.no ((Kp.refl No wr).drew.alloc (.cells #[.int .u8 (x.toNat : Int)] 5))).kp k3' (own_ne (HOD.out.no ((Kp.refl No wr).drew.alloc (.cells #[.int .u8 (x.toNat : Int)] 5))) (HN2.out.no ((Kp.refl No wr).drew.alloc (.cells #[.int .u8 (x.toNat : Int)] 5))) (by decide)); have O3 := (HO2.out.no ((Kp.refl No wr).drew.alloc (.cells #[.int .u8 (x.toNat : Int)] 5))).kp k3' (own_ne (HOD.out.no ((Kp.refl No wr).drew.alloc (.cells #[.int .u8 (x.toNat : Int)] 5))) (HO2.out.no ((Kp.refl No wr).drew.alloc (.cells #[.int .u8 (x.toNat : Int)] 5))) (by decide)); have V3 := cell_no HXW.out K3; have p4 := B3.cell 4; have pf := B3.frozen 4; have HO3 := Lib.hid o3; have HB3 := Lib.hid B3; have HK3 := Lib.hid K3; have HN3 := Lib.hid N3; have HO3' := Lib.hid O3; clear o3 k3 k3' B3 K3 N3 O3)
                refine rg_use hK (⟨HB3.out.cell 4, V3⟩) (fun hF => ?_)
                clear hK K
                try simp only [Act.put, List.setIfInBounds_toArray, List.set_cons_zero, List.set_cons_succ]
                refine rg_take (i := 9) (v := ?vz9) (by simp only [List.getElem?_toArray, List.getElem?_cons_succ, List.getElem?_cons_zero]; rfl) (by kernel_rfl) (by exact fun _ _ _ h => h) (by rfl) ?rz9 hF ?sz9
                case rz9 => (intro W hW; clear hW; go_simp; try with_reducible rfl)
                try simp only [Act.put, List.setIfInBounds_toArray, List.set_cons_zero, List.set_cons_succ]
                refine rg_one (i := 10) (oi := ?oz10) ?az10 ?bz10 ?cz10 ?dz10
                case az10 => (simp only [List.getElem?_toArray, List.getElem?_cons_succ, List.getElem?_cons_zero]; rfl)
                case bz10 => kernel_rfl
                case cz10 => rfl
                intro K hK
                go_simp
                refine hK _ _ (fun h => absurd rfl h) ?_
                clear hK K
                try simp only [Act.put]
                refine rg_done (by kernel_rfl) ?_
                obtain ⟨_, hn', _⟩ := (own_argB HO3.out).cs
                have hn'' : n' = k + 1 := by rw [hn', List.length_append, HLK.out]; rfl
                subst hn''
                clear hn'
                have hqn : ¬ q = w.heap.size := by omega
                go_wp2
                go_roundw
                case rel =>
                  have ks : Kp (One q) w3 (w3.setCell ⟨q, 4, none⟩ (.slice A' (k + 1) c')) := (Kp.refl _ _).set (.inl (One.self _)) 4 _
                  refine ⟨k + 1, A', c', by omega, by go_num, HB3.out.set_ 4 _, ?_, HK3.out.set (.inr (by omega)) 4 _, HN3.out.kp ks (fun e => hqn (Eq.symm e)), HO3'.out.kp ks (fun e => by have : w.heap.size + 1 = q := e; omega)⟩
                  rw [HNX.out]
                  exact HO3.out.kp ks (fun g0 h0 h1 => own_ne HO3.out HB3.out (by decide) (by rw [h0, show g0 = q from h1]))
                case measure => simp [intOf]; omega
              · as_aux_lemma =>
                obtain rfl : k = n := by omega
                have hge : ¬ (k : Int) < (k : Int) := by omega
                have HOD := Lib.hid (show OwnB wr w.heap.size (.slice A k c0) d by rw [← HD.out]; exact hod)
                have HKW := Lib.hid hkw
                have p0 : wr.cell? ⟨q, 0, none⟩ = some (.int .i64 gn) := hbq.cell 0
                have p1 : wr.cell? ⟨q, 1, none⟩ = some (.int .i64 sq) := hbq.cell 1
                have p2 : wr.cell? ⟨q, 2, none⟩ = some (.int .i64 (b8.toNat : Int)) := hbq.cell 2
                have p3 : wr.cell? ⟨q, 3, none⟩ = some (.int .i64 (b9.toNat : Int)) := hbq.cell 3
                have p4 : wr.cell? ⟨q, 4, none⟩ = some (.slice A k c0) := hbq.cell 4
                have rl := rlay_any ⟨gn, sq, b8.toNat, b9.toNat, d⟩ A c0 wr (by have := own_argB HOD.out; rw [← HDL.out] at this; exact this) (by simp only; omega) (by simp only; omega) (by simp only; omega) (by simp only; omega) (by simp only; have := HDL.out; omega)
                simp only at rl
                rw [HDL.out] at rl
                have HBQ := Lib.hid hbq; have HN2 := Lib.hid hbn; have HO2 := Lib.hid hbo
                clear hod hkw hbq hbn hbo
                go_wp2_with fail
                refine rl.mono ?_
                clear rl
                rintro e w5 ⟨v5, rfl, o5, k5⟩
                obtain ⟨b, hb⟩ : ∃ b, layS ⟨gn, sq, b8.toNat, b9.toNat, d⟩ = b := ⟨_, rfl⟩
                rw [hb] at o5
                have HB := Lib.hid hb; clear hb
                have a5 := own_argB o5
                obtain ⟨A5, c5, e5, _⟩ := own_len o5
                subst e5
                have sx : (convert 69 9 (.slice A5 b.length c5)).run Tryz.prog w5 = .ok (.string ⟨b.toArray⟩) w5 := a5.str _ 5 _ Tryz.underlying69 Tryz.underlying5 Tryz.underlying9
                have sy : (convert 69 9 (.slice (some ⟨g, o, none⟩) 64 c)).run Tryz.prog w5 = .ok (.string ⟨l.toArray⟩) w5 := (HV.out.no (HKW.out.trans k5)).str _ 5 _ Tryz.underlying69 Tryz.underlying5 Tryz.underlying9
                have Q5 := HBQ.out.no k5; have N5 := HN2.out.no k5; have O5 := HO2.out.no k5
                have HK5 := Lib.hid (HKW.out.trans k5); have HD5 := Lib.hid (HOD.out.no k5)
                clear p0 p1 p2 p3 p4 a5 o5 k5
                have p0 : w5.cell? ⟨q, 0, none⟩ = some (.int .i64 gn) := Q5.cell 0
                have p1 : w5.cell? ⟨q, 1, none⟩ = some (.int .i64 sq) := Q5.cell 1
                have p2 : w5.cell? ⟨q, 2, none⟩ = some (.int .i64 (b8.toNat : Int)) := Q5.cell 2
                have p3 : w5.cell? ⟨q, 3, none⟩ = some (.int .i64 (b9.toNat : Int)) := Q5.cell 3
                have p4 : w5.cell? ⟨q, 4, none⟩ = some (.slice A k c0) := Q5.cell 4
                have z0 : w5.cell? ⟨w.heap.size, 0, none⟩ = some (.int .i64 0) := N5.cell 0
                have z1 : w5.cell? ⟨w.heap.size, 1, none⟩ = some (.int .i64 0) := N5.cell 1
                have z2 : w5.cell? ⟨w.heap.size, 2, none⟩ = some (.int .i64 0) := N5.cell 2
                have z3 : w5.cell? ⟨w.heap.size, 3, none⟩ = some (.int .i64 0) := N5.cell 3
                have z4 : w5.cell? ⟨w.heap.size, 4, none⟩ = some (.slice none 0 0) := N5.cell 4
                have zf := N5.frozen
                have y0 : w5.cell? ⟨w.heap.size + 1, 0, none⟩ = some (.int .i64 0) := O5.cell 0
                have y1 : w5.cell? ⟨w.heap.size + 1, 1, none⟩ = some (.int .i64 0) := O5.cell 1
                have y2 : w5.cell? ⟨w.heap.size + 1, 2, none⟩ = some (.int .i64 0) := O5.cell 2
                have y3 : w5.cell? ⟨w.heap.size + 1, 3, none⟩ = some (.int .i64 0) := O5.cell 3
                have y4 : w5.cell? ⟨w.heap.size + 1, 4, none⟩ = some (.slice none 0 0) := O5.cell 4
                have HN5 := Lib.hid N5; clear N5 Q5 O5
                have HLE := Lib.hid (show lookS l = if layS ⟨gn, sq, b8.toNat, b9.toNat, d⟩ = l then some ⟨gn, sq, b8.toNat, b9.toNat, d⟩ else none by
                  unfold lookS
                  rw [HRD.out]
                  by_cases h : layS ⟨gn, sq, b8.toNat, b9.toNat, d⟩ = l
                  · rw [if_pos ⟨HL64.out.symm, HOK.out, h⟩, if_pos h]
                  · rw [if_neg (fun hh => h hh.2.2), if_neg h])
                rw [HB.out] at HLE
                by_cases hlr : (b == l) = true
                · have HP := Lib.hid (show lookS l = some ⟨gn, sq, b8.toNat, b9.toNat, d⟩ by rw [HLE.out, if_pos (eq_of_beq hlr)])
                  go_wp2
                  refine end_cell_tmp (p := 2) (u := 3) _ (by kernel_rfl) ?_ (Bk.set5 HN5.out _ _ _ _ _) Tryz.underlying95 rfl Tryz.infoPart ?_ ?_
                  · rfl
                  · rfl
                  have hh := HD5.out
                  exact lookR_some (Kp.set5 HK5.out (.inr (Nat.le_refl w.heap.size)) _ _ _ _ _) HP.out (hh.kp (M := One w.heap.size) (Kp.set5 (Kp.refl _ _) (.inl (One.self _)) _ _ _ _ _) (fun g0 h0 h1 => own_ne hh HN5.out (by decide) (by rw [h0, show g0 = w.heap.size from h1])))
                · have hlr' : (b == l) = false := by simpa using hlr
                  have HP := Lib.hid (show lookS l = none by rw [HLE.out, if_neg (fun h => by rw [h] at hlr'; simp at hlr')])
                  clear hlr
                  go_wp2
                  refine end_cell_tmp (p := 2) (u := 3) _ (by kernel_rfl) ?_ (Bk.set5 HN5.out _ _ _ _ _) Tryz.underlying95 rfl Tryz.infoPart ?_ ?_
                  · rfl
                  · rfl
                  exact lookR_none (Kp.set5 HK5.out (.inr (Nat.le_refl w.heap.size)) _ _ _ _ _) HP.out
theorem rlook_any (A : Option Addr) (n c : Nat) (l : List UInt8) (w : World) (hv : ArgB w (.slice A n c) l) :
    Calls Tryz.prog 126 #[.slice A n c] w fun e w' => LookR w w' l e := by
  by_cases h : n = 64
  · subst h
    obtain ⟨hcs, hl, hc⟩ := hv.cs
    obtain ⟨g, o, c', e, _, _⟩ := hv.at_ (by omega)
    injection e with e _ _
    subst e
    exact rlook_full g o c l w hv
  · refine (rlook_short A n c w h).mono ?_
    rintro e w' ⟨rfl, hk⟩
    exact rlook_short_r (fun hh => h (by rw [(hv.cs).2.1]; exact hh)) hk
end Go.Proofs.YtlgbmkdeamgpkaaGreatDoor
