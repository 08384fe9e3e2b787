/- The document's gate in memory; its read and Start by contract. No condition beyond what each theorem states. -/
import Derived.Test.YtlgbmkdeamgpkaaGreatDoorH04
import Derived.Test.YtlgbmkdeamgpkaaGreatDoorH06
namespace Go.Proofs.YtlgbmkdeamgpkaaGreatDoor
open Go Go.RowKit Go.PlainAid

def rgC (n : Int) (rb : Nat) (dead : Bool) (hv : Value) (sq : Nat) : List Value := [.int .i64 n, .pointer (some ⟨rb, 0, none⟩), .bool dead, hv, .int .i64 (sq : Int)]
/-- the document's gate in memory: its list lies in blocks of P -/
def RgB (w : World) (P : Nat → Prop) (gb rb : Nat) (n : Int) (g : Gat) : Prop := ∃ hv, Bk w gb 62 (rgC n rb g.dead hv g.seq) ∧ SlI w hv g.high ∧ ∀ q, hv.ownBlock = some q → P q
theorem RgB.kp {w w' : World} {P : Nat → Prop} {gb rb : Nat} {n : Int} {g : Gat} {M : Nat → Prop} (h : RgB w P gb rb n g) (hk : Kp M w w') (h1 : ¬ M gb) (h2 : ∀ q cs, Bk w q 3 cs → P q → ¬ M q) : RgB w' P gb rb n g := by
  obtain ⟨hv, hb, hs, hp⟩ := h
  refine ⟨hv, hb.kp hk h1, ?_, hp⟩
  obtain ⟨A, c, e, hc, hs⟩ := hs
  refine ⟨A, c, e, hc, fun hx => ?_⟩
  obtain ⟨q, o, cs, e2, hq, hr⟩ := hs hx
  have hm : ¬ M q := h2 q cs hq (hp q (by rw [e, e2]; rfl))
  exact ⟨q, o, cs, e2, hq.kp hk hm, range_kp hr hk hm⟩
theorem RgB.no {w w' : World} {P : Nat → Prop} {gb rb : Nat} {n : Int} {g : Gat} (h : RgB w P gb rb n g) (hk : Kp No w w') : RgB w' P gb rb n g := h.kp hk (fun m => m) fun _ _ _ _ m => m
theorem RgB.mono {w : World} {P Q : Nat → Prop} {gb rb : Nat} {n : Int} {g : Gat} (h : RgB w P gb rb n g) (hp : ∀ q, P q → Q q) : RgB w Q gb rb n g := by
  obtain ⟨hv, hb, hs, hq⟩ := h
  exact ⟨hv, hb, hs, fun q e => hp q (hq q e)⟩
theorem RgB.lt {w : World} {P : Nat → Prop} {gb rb : Nat} {n : Int} {g : Gat} (h : RgB w P gb rb n g) : gb < w.heap.size := by
  obtain ⟨hv, hb, _⟩ := h; exact hb.lt
theorem RgB.bk {w : World} {P : Nat → Prop} {gb rb : Nat} {n : Int} {g : Gat} (h : RgB w P gb rb n g) : ∃ cs, Bk w gb 62 cs := by
  obtain ⟨hv, hb, _⟩ := h; exact ⟨_, hb⟩
theorem late_nil (b : List UInt8) (a : Nat) : lateG ([], 0) (markG b a) = markG b a := by
  unfold lateG
  rcases mark_seq b a with ⟨h1, h2⟩ | ⟨h1, _⟩
  · rw [if_neg (by rw [h1]; exact Nat.lt_irrefl 0)]
    exact Prod.ext h2.symm h1.symm
  · rw [if_pos (by show 0 < _; omega)]
/-- a row of a list of rows -/
theorem rows_at {w : World} {B : Nat} {v : Value} {L : List (List UInt8)} {t : TypeId} (h : RowsOf w B v L t) (hl : 0 < L.length) : ∃ gv cap, v = .slice (some ⟨gv, 0, none⟩) L.length cap ∧ v.ownBlock = some gv ∧ ∀ i (hi : i < L.length), ∃ g c, w.cell? ⟨gv, i, none⟩ = some (.slice (some ⟨g, 0, none⟩) L[i].length c) ∧ ArgB w (.slice (some ⟨g, 0, none⟩) L[i].length c) L[i] := by
  obtain ⟨xs, hown, hrows⟩ := h
  rcases hown.2 with ⟨_, hbad⟩ | ⟨gv, cap, cur, rfl, _⟩
  · omega
  · refine ⟨gv, cap, rfl, rfl, fun i hi => ?_⟩
    obtain ⟨x, hx, g, c, sp, rfl, hc, _, _, hbk⟩ := hrows i hi
    have h1 := hown.cells (g := gv) rfl i _ hx
    rw [Addr.add_mid, Nat.zero_add] at h1
    refine ⟨g, c, h1, _, c, rfl, hc, fun _ => ⟨g, 0, rfl, ?_⟩⟩
    have := hbk.range 0 L[i].length
    rw [List.drop_zero, List.take_left' (by simp)] at this
    exact this
def GReadR (W : World) (gb rb : Nat) (n : Int) (dead : Bool) (L : List (List UInt8)) (e : Ending) (w' : World) : Prop :=
  e = .returned (.tuple #[]) ∧ Kp (One gb) W w' ∧ ∃ hv, Bk w' gb 62 (rgC n rb dead hv (startG L).2) ∧ w'.ownsRow W.heap.size 3 1 hv (startG L).1.length (ints (startG L).1)
set_option maxRecDepth 100000 in
set_option maxHeartbeats 4000000 in
theorem gread_any (gb rb B : Nat) (n : Int) (dead : Bool) (hv0 : Value) (sq0 : Nat) (L : List (List UInt8)) (v : Value) (wt ar : Int) (off : Bool) (W : World) (hg : Bk W gb 62 (rgC n rb dead hv0 sq0)) (hd : RD W B rb v L wt ar off) (hL : 2 ≤ L.length) (h64 : ∀ l ∈ L, l.length = 64) :
    Calls Tryz.prog 48 #[.pointer (some ⟨gb, 0, none⟩)] W (GReadR W gb rb n dead L) := by
  have ha : L[0].length = 64 := h64 _ (List.getElem_mem (by omega))
  have hb : L[1].length = 64 := h64 _ (List.getElem_mem (by omega))
  obtain ⟨gv, cap, rfl, hob, hr⟩ := rows_at hd.ro (by omega)
  obtain ⟨g0, c0, x0, a0⟩ := hr 0 (by omega)
  obtain ⟨g1, c1, x1, a1⟩ := hr 1 (by omega)
  have HSG0 : startG L = lateG (lateG ([], 0) (markG L[0] 0)) (markG L[1] 1) := by
    show lateG (lateG ([], 0) (markG (L.getD 0 []) 0)) (markG (L.getD 1 []) 1) = _
    rw [List.getD_eq_getElem?_getD, List.getElem?_eq_getElem (show 0 < L.length by omega), Option.getD_some, List.getD_eq_getElem?_getD, List.getElem?_eq_getElem (show 1 < L.length by omega), Option.getD_some]
  rw [ha] at x0 a0
  rw [hb] at x1 a1
  have hN0 : (0 : Int) < (L.length : Int) := by omega
  have hN1 : (1 : Int) < (L.length : Int) := by omega
  generalize L[0] = a at *
  generalize L[1] = b at *
  have y1 : W.cell? ⟨gb, 1, none⟩ = some (.pointer (some ⟨rb, 0, none⟩)) := hg.cell 1
  have y0 : W.cell? ⟨rb, 0, none⟩ = some (.slice (some ⟨gv, 0, none⟩) L.length cap) := hd.st.cell 0
  have HG := Lib.hid hg; have HA1 := Lib.hid a1
  have HX1 := Lib.hid x1; have HY1 := Lib.hid y1; have HY0 := Lib.hid y0
  have HSG : Hid (startG L = lateG (markG a 0) (markG b 1)) := Lib.hid (by rw [HSG0, late_nil])
  have pm : Calls Tryz.prog 75 #[.slice (some ⟨g0, 0, none⟩) 64 c0, .int .i64 0] W (MarkR W a 0) := rmark_any (some ⟨g0, 0, none⟩) 64 c0 a 0 W a0
  clear hg hd hr a0 a1 h64 hob HSG0 ha hb hL
  go_enter Tryz.func48, Tryz.ntmps48
  go_wp2_with fail
  refine pm.mono ?_
  rintro e w1 ⟨sv, rfl, o1, k1⟩
  obtain ⟨A1, c1', rfl, _⟩ := own_len o1
  have HO1 := Lib.hid o1; have HK1 := Lib.hid k1
  have x1 : w1.cell? ⟨gv, 1, none⟩ = some (.slice (some ⟨g1, 0, none⟩) 64 c1) := cell_no HX1.out k1
  have y1 : w1.cell? ⟨gb, 1, none⟩ = some (.pointer (some ⟨rb, 0, none⟩)) := cell_no HY1.out k1
  have y0 : w1.cell? ⟨rb, 0, none⟩ = some (.slice (some ⟨gv, 0, none⟩) L.length cap) := cell_no HY0.out k1
  have pm : Calls Tryz.prog 75 #[.slice (some ⟨g1, 0, none⟩) 64 c1, .int .i64 1] w1 (MarkR w1 b 1) := rmark_any (some ⟨g1, 0, none⟩) 64 c1 b 1 w1 (HA1.out.no k1)
  clear o1 k1 x0
  go_wp2_with fail
  refine pm.mono ?_
  rintro e w2 ⟨sv, rfl, o2, k2⟩
  obtain ⟨A2, c2, rfl, _⟩ := own_len o2
  have HO2 := Lib.hid (own_low o2 (show W.heap.size ≤ w1.heap.size from HK1.out.size)); have HO1b := Lib.hid (own_kp HO1.out k2 fun _ _ m => m); have HK2 := Lib.hid (HK1.out.trans k2)
  have hgb := (HG.out.no HK1.out).no k2
  have z3 : w2.cell? ⟨gb, 3, none⟩ = some hv0 := hgb.cell 3
  have z4 : w2.cell? ⟨gb, 4, none⟩ = some (.int .i64 (sq0 : Int)) := hgb.cell 4
  have f3 := hgb.frozen 3
  have f4 := hgb.frozen 4
  have HGB := Lib.hid hgb
  clear o2 k2 pm x1 y1 y0 HX1 HY1 HY0 hgb HK1 HO1
  generalize markG a 0 = m0 at *
  generalize markG b 1 = m1 at *
  by_cases hq : m0.2 < m1.2
  · have d1 : (m0.2 : Int) < (m1.2 : Int) := by omega
    have HN := Lib.hid (show startG L = m1 from by rw [HSG.out]; unfold lateG; rw [if_pos hq])
    have HB5 := Lib.hid ((HGB.out.set_ 3 (.slice A2 m1.1.length c2)).set_ 4 (.int .i64 (m1.2 : Int)))
    have k5 : Kp (One gb) w2 ((w2.setCell ⟨gb, 3, none⟩ (.slice A2 m1.1.length c2)).setCell ⟨gb, 4, none⟩ (.int .i64 (m1.2 : Int))) := ((Kp.refl (One gb) w2).set (.inl rfl) 3 _).set (.inl rfl) 4 _
    have HO5 := Lib.hid (own_kp HO2.out k5 fun q e m => by
      obtain ⟨cs, hq⟩ := own_bk HO2.out q e
      exact hq.ne_ HGB.out (by decide) m)
    have HF := Lib.hid (show GReadR W gb rb n dead L (.returned (.tuple #[])) ((w2.setCell ⟨gb, 3, none⟩ (.slice A2 m1.1.length c2)).setCell ⟨gb, 4, none⟩ (.int .i64 (m1.2 : Int))) from ⟨rfl, HK2.out.of_no.trans k5, _, by rw [HN.out]; exact HB5.out, by rw [HN.out]; exact HO5.out⟩)
    clear hq k5
    go_wp2
    go_end0
    exact HF.out
  · have d1 : ¬ (m0.2 : Int) < (m1.2 : Int) := by omega
    have HN := Lib.hid (show startG L = m0 from by rw [HSG.out]; unfold lateG; rw [if_neg hq])
    have HB5 := Lib.hid ((HGB.out.set_ 3 (.slice A1 m0.1.length c1')).set_ 4 (.int .i64 (m0.2 : Int)))
    have k5 : Kp (One gb) w2 ((w2.setCell ⟨gb, 3, none⟩ (.slice A1 m0.1.length c1')).setCell ⟨gb, 4, none⟩ (.int .i64 (m0.2 : Int))) := ((Kp.refl (One gb) w2).set (.inl rfl) 3 _).set (.inl rfl) 4 _
    have HO5 := Lib.hid (own_kp HO1b.out k5 fun q e m => by
      obtain ⟨cs, hq⟩ := own_bk HO1b.out q e
      exact hq.ne_ HGB.out (by decide) m)
    have HF := Lib.hid (show GReadR W gb rb n dead L (.returned (.tuple #[])) ((w2.setCell ⟨gb, 3, none⟩ (.slice A1 m0.1.length c1')).setCell ⟨gb, 4, none⟩ (.int .i64 (m0.2 : Int))) from ⟨rfl, HK2.out.of_no.trans k5, _, by rw [HN.out]; exact HB5.out, by rw [HN.out]; exact HO5.out⟩)
    clear hq k5
    go_wp2
    go_end0
    exact HF.out
set_option maxHeartbeats 400000 in
theorem rstart_range (n : Int) (dv : Option Addr) (w : World) (h : n < 8 ∨ 12 ≤ n) : Calls Tryz.prog 28 #[.int .i64 n, .pointer dv] w fun e w' => e = .returned (.tuple #[.pointer none, .int .i64 2]) ∧ w = w' := by
  go_enter Tryz.func28, Tryz.ntmps28
  rcases h with h | h
  · go_wp2
    go_ret2
    exact ⟨rfl, rfl⟩
  · have h1 : ¬ n < 8 := by omega
    have h2 : 11 < n := by omega
    go_wp2
    go_ret2
    exact ⟨rfl, rfl⟩
set_option maxHeartbeats 400000 in
theorem rstart_small (n : Int) (rb B : Nat) (L : List (List UInt8)) (v : Value) (wt ar : Int) (off : Bool) (w : World) (hd : RD w B rb v L wt ar off) (h1 : 8 ≤ n) (h2 : n < 12) (hl : 0 < L.length) (hL : L.length < 2) :
    Calls Tryz.prog 28 #[.int .i64 n, .pointer (some ⟨rb, 0, none⟩)] w fun e w' => e = .returned (.tuple #[.pointer none, .int .i64 41]) ∧ w = w' := by
  have d1 : ¬ n < 8 := by omega
  have d2 : ¬ 11 < n := by omega
  have d3 : (L.length : Int) < 2 := by omega
  obtain ⟨gv, cap, rfl, _⟩ := rows_at hd.ro hl
  have y0 : w.cell? ⟨rb, 0, none⟩ = some (.slice (some ⟨gv, 0, none⟩) L.length cap) := hd.st.cell 0
  clear hd
  go_enter Tryz.func28, Tryz.ntmps28
  go_wp2
  go_ret2
  exact ⟨rfl, rfl⟩
def RStartR (W : World) (rb : Nat) (n : Int) (L : List (List UInt8)) (e : Ending) (w' : World) : Prop :=
  ∃ gb, e = .returned (.tuple #[.pointer (some ⟨gb, 0, none⟩), .int .i64 0]) ∧ W.heap.size ≤ gb ∧ RgB w' (fun q => W.heap.size ≤ q) gb rb n ⟨(startG L).1, (startG L).2, false⟩ ∧ Kp No W w'
set_option maxHeartbeats 1000000 in
theorem rstart_any (n : Int) (rb B : Nat) (L : List (List UInt8)) (v : Value) (wt ar : Int) (w : World) (hd : RD w B rb v L wt ar false) (h1 : 8 ≤ n) (h2 : n < 12) (hL : 2 ≤ L.length) (h64 : ∀ l ∈ L, l.length = 64) :
    Calls Tryz.prog 28 #[.int .i64 n, .pointer (some ⟨rb, 0, none⟩)] w (RStartR w rb n L) := by
  have d1 : ¬ n < 8 := by omega
  have d2 : ¬ 11 < n := by omega
  obtain ⟨gv, cap, rfl, _⟩ := rows_at hd.ro (by omega)
  have y0 : w.cell? ⟨rb, 0, none⟩ = some (.slice (some ⟨gv, 0, none⟩) L.length cap) := hd.st.cell 0
  have y3 : w.cell? ⟨rb, 3, none⟩ = some (.bool false) := hd.st.cell 3
  have d3 : ¬ (L.length : Int) < 2 := by omega
  have k1 := (Kp.refl No w).alloc (.cells (rgC n rb false (.slice none 0 0) 0).toArray 62)
  have pr := gread_any w.heap.size rb B n false (.slice none 0 0) 0 L _ wt ar false _ (show Bk (w.alloc (.cells (rgC n rb false (.slice none 0 0) 0).toArray 62)) w.heap.size 62 (rgC n rb false (.slice none 0 0) 0) from Bk.new' rfl rfl) (hd.no k1) hL h64
  have HK1 := Lib.hid k1
  clear hd k1 hL h64
  unfold rgC at pr HK1
  go_enter Tryz.func28, Tryz.ntmps28
  go_wp2_with fail
  refine pr.mono ?_
  rintro e w2 ⟨rfl, k2, hv, hb, ho⟩
  have HF := Lib.hid (show RStartR w rb n L (.returned (.tuple #[.pointer (some ⟨w.heap.size, 0, none⟩), .int .i64 0])) w2 from
    ⟨_, rfl, Nat.le_refl _, ⟨hv, hb, own_slI ho, fun q e => by
      obtain ⟨hq, _⟩ := own_bkD ho e
      exact Nat.le_trans HK1.out.size hq⟩, HK1.out.then_ k2 fun i hi e => by have e : i = w.heap.size := e; omega⟩)
  clear pr k2 hb ho y0 y3
  go_wp2
  go_ret2
  exact HF.out
end Go.Proofs.YtlgbmkdeamgpkaaGreatDoor
