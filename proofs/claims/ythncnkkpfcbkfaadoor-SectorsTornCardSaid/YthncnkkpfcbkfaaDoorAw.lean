/- awake: the document's examples hold. No condition beyond what each theorem states. -/
import Derived.Test.YthncnkkpfcbkfaaDoorSp
import Derived.Test.YthncnkkpfcbkfaaDoorRm
import Derived.Lib.SlBytesConst
namespace Go.Proofs.YthncnkkpfcbkfaaDoor
open Go Go.RowKit

theorem Rows.at_ {w : World} {B : Nat} {v : Value} {L : List (List UInt8)} (h : Rows w B v L) (hn : 0 < L.length) : ∃ g c, v = .slice (some ⟨g, 0, Option.none⟩) L.length c ∧ B ≤ g ∧ ∀ i (hi : i < L.length), ∃ a k, w.cell? ⟨g, i, Option.none⟩ = some (.slice a L[i].length k) ∧ k ≤ maxLen ∧ ArgB w (.slice a L[i].length k) L[i] := by
  obtain ⟨xs, hown, hr⟩ := h
  obtain ⟨g, c, hv, _, hb, _⟩ := own_form hown hn
  subst hv
  refine ⟨g, c, rfl, hb, fun i hi => ?_⟩
  obtain ⟨x, hx, hox⟩ := hr i hi
  obtain ⟨a, k, hxv, _, hk⟩ := own_cap hox
  subst hxv
  have := hown.cells (g := g) rfl i _ hx
  rw [Addr.add_mid, Nat.zero_add] at this
  exact ⟨a, k, this, hk, own_argB hox⟩
def z100 : List UInt8 := List.replicate 100 0
def ab : List UInt8 := [97, 98]
def awP : Pt := ⟨1, 2, 2, 3, List.replicate 6 0⟩
theorem awP_ok : okPt awP := by decide
set_option maxRecDepth 100000 in
theorem aw_pack (v : Value) (A : Option Addr) (n c : Nat) (W : World) (hv : ArgB W (.slice A n c) z100) (hm : c ≤ maxLen) :
    Calls Tryd.prog 11 #[.int .i64 1, .int .i64 2, .slice A n c] W fun e w' => ∃ g c a0 k0 a2 k2, e = .returned (.tuple #[.slice (some ⟨g, 0, none⟩) 3 c, .int .i64 0]) ∧ Kp No W w' ∧ W.heap.size ≤ g ∧ w'.cell? ⟨g, 0, none⟩ = some (.slice a0 64 k0) ∧ w'.cell? ⟨g, 2, none⟩ = some (.slice a2 64 k2) ∧ k2 ≤ maxLen ∧ ArgB w' (.slice a2 64 k2) (layS awP) := by
  refine (pack_any 1 2 A n c z100 W hv hm).mono ?_
  rintro e w' ⟨v, rfl, hr, hk⟩
  have hp : packS 1 2 z100 = (partsS 1 2 z100, 0) := by unfold packS; rw [if_neg (by omega), if_neg (by decide)]; rfl
  rw [hp] at hr ⊢
  have hl : (partsS 1 2 z100).length = 3 := by rw [partsS_length]; rfl
  obtain ⟨g, c', rfl, hb, hx⟩ := hr.at_ (by simp only [hl]; omega)
  obtain ⟨a0, k0, h0, _, _⟩ := hx 0 (by simp only [hl]; omega)
  obtain ⟨a2, k2, h2, hm2, ha2⟩ := hx 2 (by simp only [hl]; omega)
  have e2 : (partsS 1 2 z100)[2]'(by rw [hl]; omega) = layS awP := by simp only [partsS, List.getElem_map, List.getElem_range]; rfl
  have l0 : ((partsS 1 2 z100)[0]'(by rw [hl]; omega)).length = 64 := by simp only [partsS, List.getElem_map, List.getElem_range]; exact layS_length _ (by decide)
  have l2 : (layS awP).length = 64 := layS_length _ (by decide)
  simp only at h0 h2 ha2
  rw [l0] at h0
  rw [e2, l2] at h2 ha2
  simp only [hl]
  exact ⟨g, c', a0, k0, a2, k2, rfl, hk, hb, h0, h2, hm2, ha2⟩
set_option maxRecDepth 100000 in
theorem aw_look (A : Option Addr) (c : Nat) (W : World) (hv : ArgB W (.slice A 64 c) (layS awP)) (hm : c ≤ maxLen) :
    Calls Tryd.prog 15 #[.slice A 64 c] W fun e w' => ∃ Ad cd, e = .returned (.tuple #[.agg #[.int .i64 1, .int .i64 2, .int .i64 2, .int .i64 3, .slice Ad 6 cd], .int .i64 0]) ∧ Kp No W w' := by
  refine (look_any A 64 c (layS awP) W hv hm).mono ?_
  rintro e w' ⟨hk, hr⟩
  rw [lookS_layS _ awP_ok] at hr
  obtain ⟨dv, rfl, hd⟩ := hr
  obtain ⟨Ad, cd, rfl, _⟩ := own_len hd
  exact ⟨Ad, cd, rfl, hk⟩
set_option maxRecDepth 100000 in
theorem aw_pack2 (A : Option Addr) (n c : Nat) (W : World) (hv : ArgB W (.slice A n c) ab) (hm : c ≤ maxLen) :
    Calls Tryd.prog 11 #[.int .i64 1, .int .i64 0, .slice A n c] W fun e w' => ∃ v, e = .returned (.tuple #[v, .int .i64 0]) ∧ Rows w' W.heap.size v (partsS 1 0 ab) ∧ Kp No W w' := by
  refine (pack_any 1 0 A n c ab W hv hm).mono ?_
  rintro e w' ⟨v, rfl, hr, hk⟩
  have hp : packS 1 0 ab = (partsS 1 0 ab, 0) := by unfold packS; rw [if_neg (by omega), if_neg (by decide)]; rfl
  rw [hp] at hr ⊢
  exact ⟨v, rfl, hr, hk⟩
set_option maxRecDepth 100000 in
theorem aw_scan (lv : Value) (W : World) (hv : CapR W lv (partsS 1 0 ab)) :
    Calls Tryd.prog 18 #[lv, .int .i64 1] W fun e w' => ∃ g c a k, e = .returned (.tuple #[.slice (some ⟨g, 0, none⟩) 1 c, .int .i64 1]) ∧ Kp No W w' ∧ w'.cell? ⟨g, 0, none⟩ = some (.slice a 2 k) ∧ ArgB w' (.slice a 2 k) ab := by
  refine (scan_any lv 1 (partsS 1 0 ab) W hv (by rw [partsS_length]; decide)).mono ?_
  rintro e w' ⟨v, rfl, hr, hk⟩
  have hs : scanS (partsS 1 0 ab) ((1 : Nat) : Int) = ([ab], 1) := by
    have h := scanS_packL 1 (by omega) (by omega) [ab] [] (by intro d hd; rw [List.mem_singleton.1 hd]; decide) (by decide) (oneS_out (by simp))
    simpa [packL, partsS_length, chunkN, ab] using h
  have hs' : scanS (partsS 1 0 ab) (1 : Int) = ([ab], 1) := hs
  rw [hs'] at hr ⊢
  obtain ⟨g, c, rfl, hb, hx⟩ := hr.at_ (by decide)
  obtain ⟨a, k, h0, _, ha⟩ := hx 0 (by decide)
  exact ⟨g, c, a, k, rfl, hk, h0, ha⟩

theorem ab_arg (W : World) (e : TypeId) (f : Nat × Nat) : ArgB (W.alloc (.cells #[.int .u8 97, .int .u8 98] e f)) (.slice (some ⟨W.heap.size, 0, none⟩) 2 2) ab :=
  ⟨_, 2, rfl, Nat.le_refl _, fun _ => ⟨W.heap.size, 0, rfl, fun j v hv => by
    rw [Nat.zero_add]
    rcases j with _ | _ | j
    · simp only [ab, u8s, List.map_cons, List.getElem?_cons_zero, Option.some.injEq] at hv
      subst hv
      have e : (W.alloc (.cells #[.int .u8 97, .int .u8 98] e f)).heap[W.heap.size]? = some (.cells #[.int .u8 97, .int .u8 98] e f) := by
        show (W.heap.push _)[W.heap.size]? = _
        simp
      unfold World.cell?
      rw [e]
      rfl
    · simp only [ab, u8s, List.map_cons, List.getElem?_cons_zero, List.getElem?_cons_succ, Option.some.injEq] at hv
      subst hv
      have e : (W.alloc (.cells #[.int .u8 97, .int .u8 98] e f)).heap[W.heap.size]? = some (.cells #[.int .u8 97, .int .u8 98] e f) := by
        show (W.heap.push _)[W.heap.size]? = _
        simp
      unfold World.cell?
      rw [e]
      rfl
    · simp [ab, u8s] at hv⟩⟩
set_option maxRecDepth 100000 in
set_option maxHeartbeats 2000000 in
theorem awake_any (w : World) : Calls Tryd.prog 12 #[] w fun e w' => e = .returned (.bool true) ∧ Kp No w w' := by
  have hmk : ∀ W : World, (Instr.makeSlice 26 (.int .i64 100) (.int .i64 100)).run Tryd.prog W = .ok (.slice (some ⟨W.heap.size, 0, none⟩) 100 100) (W.alloc (.cells (u8s z100).toArray 5)) := fun W => by
    have h := mk_bytes 100 (by omega) W
    rw [← u8s_zero] at h
    exact h
  go_enter Tryd.func12, Tryd.ntmps12
  go_wp2_with fail
  have c1 := aw_pack (.slice none 0 0) (some ⟨w.heap.size, 0, none⟩) 100 100 (w.alloc (.cells (u8s z100).toArray 5)) (bk_argB' (Bk.new w _ _) (c := 100) (by decide)) (by unfold maxLen; omega)
  refine c1.mono ?_
  clear c1
  rintro e w1 ⟨g1, cc1, a0, k0, a2, k2, rfl, kw1, hg1, h0, h2, hm2, ha2⟩
  have K1 := Lib.hid ((Kp.refl No w).alloc (.cells (u8s z100).toArray 5) |>.trans kw1)
  have HA2 := Lib.hid ha2; clear ha2 kw1
  go_wp2_with fail
  have hgl : g1 < w1.heap.size := World.block_lt_of_cell? w1 _ h0
  refine (aw_look a2 k2 w1 HA2.out hm2).mono ?_
  rintro e w2 ⟨Ad, cd, rfl, k2'⟩
  have K2 := Lib.hid (K1.out.trans k2'); clear k2' h0 h2 HA2
  have hcv : (convert 26 26 (.slice (some ⟨w2.heap.size + 1, 0, none⟩) 2 2)).run Tryd.prog ((w2.alloc (.cells #[.int .i64 1, .int .i64 2, .int .i64 2, .int .i64 3, .slice Ad 6 cd] 33)).alloc (.cells #[.int .u8 97, .int .u8 98] 5)) = .ok (.slice (some ⟨w2.heap.size + 1, 0, none⟩) 2 2) ((w2.alloc (.cells #[.int .i64 1, .int .i64 2, .int .i64 2, .int .i64 3, .slice Ad 6 cd] 33)).alloc (.cells #[.int .u8 97, .int .u8 98] 5 (2, 3))) := by
    have h := Go.Lib.run_convert_bytes_const (w2.alloc (.cells #[.int .i64 1, .int .i64 2, .int .i64 2, .int .i64 3, .slice Ad 6 cd] 33)) 26 5 #[.int .u8 97, .int .u8 98] 2 2 Tryd.underlying26 Tryd.underlying5
    rw [show (w2.alloc (.cells #[.int .i64 1, .int .i64 2, .int .i64 2, .int .i64 3, .slice Ad 6 cd] 33)).heap.size = w2.heap.size + 1 by simp] at h
    exact h
  go_wp2_with fail
  have c1 := aw_pack2 (some ⟨w2.heap.size + 1, 0, none⟩) 2 2 ((w2.alloc (.cells #[.int .i64 1, .int .i64 2, .int .i64 2, .int .i64 3, .slice Ad 6 cd] 33)).alloc (.cells #[.int .u8 97, .int .u8 98] 5 (2, 3))) (by have := ab_arg (w2.alloc (.cells #[.int .i64 1, .int .i64 2, .int .i64 2, .int .i64 3, .slice Ad 6 cd] 33)) 5 (2, 3); simpa using this) (by unfold maxLen; omega)
  refine c1.mono ?_
  clear c1
  rintro e w3 ⟨v3, rfl, hr3, k3⟩
  have K3 := Lib.hid (((K2.out.alloc _).alloc _).trans k3)
  have BP : Bk w3 w2.heap.size 33 (ptC 1 2 2 3 (.slice Ad 6 cd)) := ((Bk.new w2 _ _).alloc _).no k3
  have HBP := Lib.hid BP; have HR3 := Lib.hid hr3; clear BP hr3 k3
  go_wp2_with fail
  refine (aw_scan v3 w3 HR3.out.cap).mono ?_
  rintro e w4 ⟨g4, c4, a4, k4, rfl, k4', h4, ha4⟩
  have K4 := Lib.hid (K3.out.trans k4')
  have bp := HBP.out.no k4'
  have p0 : w4.cell? ⟨w2.heap.size, 0, none⟩ = some (.int .i64 1) := bp.cell 0
  have p1 : w4.cell? ⟨w2.heap.size, 1, none⟩ = some (.int .i64 2) := bp.cell 1
  have p2 : w4.cell? ⟨w2.heap.size, 2, none⟩ = some (.int .i64 2) := bp.cell 2
  have p3 : w4.cell? ⟨w2.heap.size, 3, none⟩ = some (.int .i64 3) := bp.cell 3
  have p4 : w4.cell? ⟨w2.heap.size, 4, none⟩ = some (.slice Ad 6 cd) := bp.cell 4
  have hstr : (convert 26 9 (.slice a4 2 k4)).run Tryd.prog w4 = .ok (.string ⟨ab.toArray⟩) w4 := ha4.str _ 5 _ Tryd.underlying26 Tryd.underlying5 Tryd.underlying9
  clear bp k4' ha4 HBP HR3
  go_wp2
  go_ret
  exact ⟨rfl, K4.out⟩
end Go.Proofs.YthncnkkpfcbkfaaDoor
