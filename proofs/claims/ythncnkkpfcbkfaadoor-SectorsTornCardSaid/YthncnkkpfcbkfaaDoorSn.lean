/- The scanner's part, record and Scan by contracts: a panic that is recovered. No condition beyond what each theorem states. -/
import Derived.Test.YthncnkkpfcbkfaaDoorLo
import Derived.Test.YthncnkkpfcbkfaaDoorRw
import Derived.Recover
namespace Go.Proofs.YthncnkkpfcbkfaaDoor
open Go Go.RowKit

/-- what a scan gives up with -/
def brkV : Value := .iface 65 (.agg #[])
def brk : List PanicEntry := [{ v := brkV, recovered := false }]
/-- the scanner's cells -/
def snC (lv : Value) (gen used : Int) : List Value := [lv, .int .i64 gen, .int .i64 used]
/-- what part answers -/
def PartR (w w' : World) (r : Option Pt) (e : Ending) : Prop := Kp No w w' ∧ match r with
  | none => e = .panicked brk
  | some p => ∃ A c, e = .returned (ptV p (.slice A p.data.length c)) ∧ OwnB w' w.heap.size (.slice A p.data.length c) p.data

set_option maxRecDepth 100000 in
set_option maxHeartbeats 2000000 in
theorem part_end (sc : Nat) (lv : Value) (gen used : Int) (L : List (List UInt8)) (at_ seq idx parts : Nat) (w : World) (hs : Bk w sc 63 (snC lv gen used)) (hl : CapR w lv L) (h : L.length ≤ at_) :
    Calls Tryd.prog 45 #[.pointer (some ⟨sc, 0, none⟩), .int .i64 (at_ : Int), .int .i64 (seq : Int), .int .i64 (idx : Int), .int .i64 (parts : Int)] w fun e w' => PartR w w' none e := by
  obtain ⟨A, c, e, hc, hcm, hx⟩ := hl.at_
  subst e
  clear hx hl
  have z0 : w.cell? ⟨sc, 0, none⟩ = some (.slice A L.length c) := hs.cell 0
  have hge : (L.length : Int) ≤ (at_ : Int) := by omega
  have hsl := hs.lt
  have hsn : ¬ sc = w.heap.size := by omega
  clear hs
  go_enter Tryd.func45, Tryd.ntmps45
  go_wp2
  exact ⟨rfl, (Kp.refl _ _).alloc _, rfl⟩

set_option maxRecDepth 100000 in
set_option maxHeartbeats 4000000 in
theorem part_at (sc : Nat) (lv : Value) (gen used : Int) (L : List (List UInt8)) (at_ seq idx parts : Nat) (w : World) (hs : Bk w sc 63 (snC lv gen used)) (hl : CapR w lv L) (h : at_ < L.length) :
    Calls Tryd.prog 45 #[.pointer (some ⟨sc, 0, none⟩), .int .i64 (at_ : Int), .int .i64 (seq : Int), .int .i64 (idx : Int), .int .i64 (parts : Int)] w fun e w' => PartR w w' (partS L gen at_ seq idx parts) e := by
  obtain ⟨A, c, e, hc, hcm, hx⟩ := hl.at_
  subst e
  obtain ⟨g, o, a, k, rfl, hcell, hk, harg⟩ := hx at_ h
  have HP := Lib.hid (show partS L gen at_ seq idx parts = match lookS L[at_] with | none => none | some p => if (p.gen : Int) = gen ∧ p.seq = seq ∧ p.idx = idx ∧ (0 < parts → p.parts = parts) then some p else none by
    unfold partS; rw [List.getElem?_eq_getElem h]; rfl)
  obtain ⟨l, hll⟩ : ∃ l, L[at_] = l := ⟨_, rfl⟩
  rw [hll] at HP hcell harg
  clear hx hl hll
  have z0 : w.cell? ⟨sc, 0, none⟩ = some (.slice (some ⟨g, o, none⟩) L.length c) := hs.cell 0
  have z1 : w.cell? ⟨sc, 1, none⟩ = some (.int .i64 gen) := hs.cell 1
  have hlt : (at_ : Int) < (L.length : Int) := by omega
  have h0 : (0 : Int) ≤ (at_ : Int) := by omega
  have hsl := hs.lt
  have hsn : ¬ sc = w.heap.size := by omega
  have hgl : g < w.heap.size := World.block_lt_of_cell? w _ hcell
  have hgn : ¬ g = w.heap.size := by omega
  clear hs
  have K0 : Kp No w (w.alloc (.cells #[.int .i64 0, .int .i64 0, .int .i64 0, .int .i64 0, .slice none 0 0] 33)) := (Kp.refl _ _).alloc _
  have lk := look_any a l.length k l _ (harg.no K0) hk
  go_enter Tryd.func45, Tryd.ntmps45
  go_wp2_with fail
  refine lk.mono ?_
  clear lk
  rintro e w1 ⟨k1, hr⟩
  cases hlo : lookS l with
  | none =>
    rw [hlo] at hr HP
    simp only at hr HP
    rw [show noPt = .agg #[.int .i64 0, .int .i64 0, .int .i64 0, .int .i64 0, .slice none 0 0] from rfl] at hr
    subst hr
    have HK := Lib.hid (K0.trans k1); clear K0 k1 hlo
    go_wp2_with fail
    go_quiet (fail)
    go_wp2
    exact ⟨rfl, (HK.out.alloc _).drewN _, by rw [HP.out]; rfl⟩
  | some p =>
    rw [hlo] at hr HP
    simp only at hr HP
    obtain ⟨dv, hr, hd⟩ := hr
    obtain ⟨Ad, cd, hdv, _⟩ := own_len hd
    subst hdv
    rw [show ptV p (.slice Ad p.data.length cd) = .agg #[.int .i64 (p.gen : Int), .int .i64 (p.seq : Int), .int .i64 (p.idx : Int), .int .i64 (p.parts : Int), .slice Ad p.data.length cd] from rfl] at hr
    subst hr
    have z1' : w1.cell? ⟨sc, 1, none⟩ = some (.int .i64 gen) := cell_no z1 (K0.trans k1)
    have hw1 : w.heap.size < w1.heap.size := by have := k1.size; simp at this; omega
    have hsn1 : ¬ sc = w1.heap.size := by omega
    have hsl1 : sc < w1.heap.size := by omega
    have z1a : (w1.alloc (.cells #[.int .i64 (p.gen : Int), .int .i64 (p.seq : Int), .int .i64 (p.idx : Int), .int .i64 (p.parts : Int), .slice Ad p.data.length cd] 33)).cell? ⟨sc, 1, none⟩ = some (.int .i64 gen) := cell_no z1' ((Kp.refl _ _).alloc _)
    have hrs : ¬ w.heap.size = w1.heap.size := by omega
    have B0 : Bk (w.alloc (.cells #[.int .i64 0, .int .i64 0, .int .i64 0, .int .i64 0, .slice none 0 0] 33)) w.heap.size 33 (ptC 0 0 0 0 (.slice none 0 0)) := Bk.new w _ _
    have HB := Lib.hid (B0.no k1)
    have HD := Lib.hid (OwnB.mono hd K0.size)
    have HK := Lib.hid (K0.trans k1); clear K0 k1 hlo B0 hd z1
    by_cases c1 : (p.gen : Int) = gen
    · have d1 : ((p.gen : Int) != gen) = false := by rw [bne_eq_false_iff_eq]; exact c1
      have C1 := Lib.hid c1; clear c1
      by_cases c2 : p.seq = seq
      · have d2 : ((p.seq : Int) != (seq : Int)) = false := by rw [bne_eq_false_iff_eq]; omega
        have C2 := Lib.hid c2; clear c2
        by_cases c3 : p.idx = idx
        · have d3 : ((p.idx : Int) != (idx : Int)) = false := by rw [bne_eq_false_iff_eq]; omega
          have C3 := Lib.hid c3; clear c3
          by_cases c4 : 0 < parts
          · have d4 : decide ((0 : Int) < (parts : Int)) = true := decide_eq_true (by omega)
            by_cases c5 : p.parts = parts
            · have d5 : ((p.parts : Int) != (parts : Int)) = false := by rw [bne_eq_false_iff_eq]; omega
              have C5 := Lib.hid c5; clear c5
              have HQ := Lib.hid (HP.out.trans (if_pos ⟨C1.out, C2.out, C3.out, fun _ => C5.out⟩))
              go_wp2_with fail
              go_quiet (fail)
              have B2 := (HB.out.alloc (.cells #[.int .i64 (p.gen : Int), .int .i64 (p.seq : Int), .int .i64 (p.idx : Int), .int .i64 (p.parts : Int), .slice Ad p.data.length cd] 33)).drewN nq
              have P2 := (Bk.new w1 33 (ptC p.gen p.seq p.idx p.parts (.slice Ad p.data.length cd))).drewN nq
              have K2 : Kp No w1 ((w1.alloc (.cells #[.int .i64 (p.gen : Int), .int .i64 (p.seq : Int), .int .i64 (p.idx : Int), .int .i64 (p.parts : Int), .slice Ad p.data.length cd] 33)).drewN nq) := ((Kp.refl _ _).alloc _).drewN _
              rw [show (ptC p.gen p.seq p.idx p.parts (.slice Ad p.data.length cd)).toArray = #[.int .i64 (p.gen : Int), .int .i64 (p.seq : Int), .int .i64 (p.idx : Int), .int .i64 (p.parts : Int), .slice Ad p.data.length cd] from rfl] at P2
              clear z1a z1'
              generalize (w1.alloc (.cells #[.int .i64 (p.gen : Int), .int .i64 (p.seq : Int), .int .i64 (p.idx : Int), .int .i64 (p.parts : Int), .slice Ad p.data.length cd] 33)).drewN nq = w2 at *
              have y0 : w2.cell? ⟨w1.heap.size, 0, none⟩ = some (.int .i64 (p.gen : Int)) := P2.cell 0
              have y1 : w2.cell? ⟨w1.heap.size, 1, none⟩ = some (.int .i64 (p.seq : Int)) := P2.cell 1
              have y2 : w2.cell? ⟨w1.heap.size, 2, none⟩ = some (.int .i64 (p.idx : Int)) := P2.cell 2
              have y3 : w2.cell? ⟨w1.heap.size, 3, none⟩ = some (.int .i64 (p.parts : Int)) := P2.cell 3
              have y4 : w2.cell? ⟨w1.heap.size, 4, none⟩ = some (.slice Ad p.data.length cd) := P2.cell 4
              have x0 : w2.cell? ⟨w.heap.size, 0, none⟩ = some (.int .i64 0) := B2.cell 0
              have x1 : w2.cell? ⟨w.heap.size, 1, none⟩ = some (.int .i64 0) := B2.cell 1
              have x2 : w2.cell? ⟨w.heap.size, 2, none⟩ = some (.int .i64 0) := B2.cell 2
              have x3 : w2.cell? ⟨w.heap.size, 3, none⟩ = some (.int .i64 0) := B2.cell 3
              have x4 : w2.cell? ⟨w.heap.size, 4, none⟩ = some (.slice none 0 0) := B2.cell 4
              have xf := B2.frozen
              have HB2 := Lib.hid B2; have HK2 := Lib.hid K2; clear B2 P2 K2
              go_wp2
              refine end_cell (p := 10) _ (by kernel_rfl) ?_ (Bk.set5 HB2.out _ _ _ _ _) Tryd.underlying33 rfl Tryd.infoPart ?_ ?_
              · rfl
              · rfl
              refine ⟨Kp.set5 (HK.out.trans HK2.out) (.inr (Nat.le_refl w.heap.size)) _ _ _ _ _, ?_⟩
              rw [HQ.out]
              exact ⟨Ad, cd, rfl, (HD.out.no HK2.out).kp (M := One w.heap.size) (Kp.set5 (Kp.refl _ _) (.inl (One.self _)) _ _ _ _ _) (fun g0 h0 h1 => own_ne (HD.out.no HK2.out) HB2.out (by decide) (by rw [h0, show g0 = w.heap.size from h1]))⟩
            · have d5 : ((p.parts : Int) != (parts : Int)) = true := by rw [bne_iff_ne]; omega
              have HQ := Lib.hid (HP.out.trans (if_neg (fun h => c5 (h.2.2.2 c4))))
              go_wp2_with fail
              go_quiet (fail)
              go_wp2
              exact ⟨rfl, (HK.out.alloc _).drewN _, by rw [HQ.out]; rfl⟩
          · have HQ := Lib.hid (HP.out.trans (if_pos ⟨C1.out, C2.out, C3.out, fun h => absurd h c4⟩))
            obtain rfl : parts = 0 := by omega
            clear c4
            go_wp2_with fail
            go_quiet (fail)
            have B2 := (HB.out.alloc (.cells #[.int .i64 (p.gen : Int), .int .i64 (p.seq : Int), .int .i64 (p.idx : Int), .int .i64 (p.parts : Int), .slice Ad p.data.length cd] 33)).drewN nq
            have P2 := (Bk.new w1 33 (ptC p.gen p.seq p.idx p.parts (.slice Ad p.data.length cd))).drewN nq
            have K2 : Kp No w1 ((w1.alloc (.cells #[.int .i64 (p.gen : Int), .int .i64 (p.seq : Int), .int .i64 (p.idx : Int), .int .i64 (p.parts : Int), .slice Ad p.data.length cd] 33)).drewN nq) := ((Kp.refl _ _).alloc _).drewN _
            rw [show (ptC p.gen p.seq p.idx p.parts (.slice Ad p.data.length cd)).toArray = #[.int .i64 (p.gen : Int), .int .i64 (p.seq : Int), .int .i64 (p.idx : Int), .int .i64 (p.parts : Int), .slice Ad p.data.length cd] from rfl] at P2
            clear z1a z1'
            generalize (w1.alloc (.cells #[.int .i64 (p.gen : Int), .int .i64 (p.seq : Int), .int .i64 (p.idx : Int), .int .i64 (p.parts : Int), .slice Ad p.data.length cd] 33)).drewN nq = w2 at *
            have y0 : w2.cell? ⟨w1.heap.size, 0, none⟩ = some (.int .i64 (p.gen : Int)) := P2.cell 0
            have y1 : w2.cell? ⟨w1.heap.size, 1, none⟩ = some (.int .i64 (p.seq : Int)) := P2.cell 1
            have y2 : w2.cell? ⟨w1.heap.size, 2, none⟩ = some (.int .i64 (p.idx : Int)) := P2.cell 2
            have y3 : w2.cell? ⟨w1.heap.size, 3, none⟩ = some (.int .i64 (p.parts : Int)) := P2.cell 3
            have y4 : w2.cell? ⟨w1.heap.size, 4, none⟩ = some (.slice Ad p.data.length cd) := P2.cell 4
            have x0 : w2.cell? ⟨w.heap.size, 0, none⟩ = some (.int .i64 0) := B2.cell 0
            have x1 : w2.cell? ⟨w.heap.size, 1, none⟩ = some (.int .i64 0) := B2.cell 1
            have x2 : w2.cell? ⟨w.heap.size, 2, none⟩ = some (.int .i64 0) := B2.cell 2
            have x3 : w2.cell? ⟨w.heap.size, 3, none⟩ = some (.int .i64 0) := B2.cell 3
            have x4 : w2.cell? ⟨w.heap.size, 4, none⟩ = some (.slice none 0 0) := B2.cell 4
            have xf := B2.frozen
            have HB2 := Lib.hid B2; have HK2 := Lib.hid K2; clear B2 P2 K2
            go_wp2
            refine end_cell (p := 10) _ (by kernel_rfl) ?_ (Bk.set5 HB2.out _ _ _ _ _) Tryd.underlying33 rfl Tryd.infoPart ?_ ?_
            · rfl
            · rfl
            refine ⟨Kp.set5 (HK.out.trans HK2.out) (.inr (Nat.le_refl w.heap.size)) _ _ _ _ _, ?_⟩
            rw [HQ.out]
            exact ⟨Ad, cd, rfl, (HD.out.no HK2.out).kp (M := One w.heap.size) (Kp.set5 (Kp.refl _ _) (.inl (One.self _)) _ _ _ _ _) (fun g0 h0 h1 => own_ne (HD.out.no HK2.out) HB2.out (by decide) (by rw [h0, show g0 = w.heap.size from h1]))⟩
        · have d3 : ((p.idx : Int) != (idx : Int)) = true := by rw [bne_iff_ne]; omega
          have HQ := Lib.hid (HP.out.trans (if_neg (fun h => c3 h.2.2.1)))
          go_wp2_with fail
          go_quiet (fail)
          go_wp2
          exact ⟨rfl, (HK.out.alloc _).drewN _, by rw [HQ.out]; rfl⟩
      · have d2 : ((p.seq : Int) != (seq : Int)) = true := by rw [bne_iff_ne]; omega
        have HQ := Lib.hid (HP.out.trans (if_neg (fun h => c2 h.2.1)))
        go_wp2_with fail
        go_quiet (fail)
        go_wp2
        exact ⟨rfl, (HK.out.alloc _).drewN _, by rw [HQ.out]; rfl⟩
    · have d1 : ((p.gen : Int) != gen) = true := by rw [bne_iff_ne]; exact c1
      have HQ := Lib.hid (HP.out.trans (if_neg (fun h => c1 h.1)))
      go_wp2_with fail
      go_quiet (fail)
      go_wp2
      exact ⟨rfl, (HK.out.alloc _).drewN _, by rw [HQ.out]; rfl⟩

theorem part_any (sc : Nat) (lv : Value) (gen used : Int) (L : List (List UInt8)) (at_ seq idx parts : Nat) (w : World) (hs : Bk w sc 63 (snC lv gen used)) (hl : CapR w lv L) :
    Calls Tryd.prog 45 #[.pointer (some ⟨sc, 0, none⟩), .int .i64 (at_ : Int), .int .i64 (seq : Int), .int .i64 (idx : Int), .int .i64 (parts : Int)] w fun e w' => PartR w w' (partS L gen at_ seq idx parts) e := by
  by_cases h : at_ < L.length
  · exact part_at sc lv gen used L at_ seq idx parts w hs hl h
  · have hp : partS L gen at_ seq idx parts = none := by unfold partS; rw [List.getElem?_eq_none (by omega)]
    rw [hp]
    exact part_end sc lv gen used L at_ seq idx parts w hs hl (by omega)
end Go.Proofs.YthncnkkpfcbkfaaDoor
