/- The contracts of the reference's Write. No condition beyond what each theorem states. -/
import Derived.Test.YtaohaofjbgghgaaD
namespace Go.Proofs.Ytaohaofjbgghgaa
open Go.RowKit

set_option maxHeartbeats 400000 in
theorem rwrite_off (b : Nat) (i : Int) (x : Value) (w : World) (v : Value) (wr ar : Int) (h : Bk w b 43 (rdCells v wr ar true)) :
    Calls Try.prog 21 #[.pointer (some ⟨b, 0, none⟩), .int .i64 i, x] w fun e w' => e = .returned (.int .i64 40) ∧ w = w' := by
  have h2 : w.cell? ⟨b, 3, none⟩ = some (.bool true) := h.cell 3
  clear h
  go_enter Try.func21, Try.ntmps21
  go_wp2
  go_ret
  exact ⟨rfl, rfl⟩
set_option maxHeartbeats 400000 in
theorem rwrite_bad (b : Nat) (i : Int) (C : Option Addr) (m k : Nat) (w : World) (A : Option Addr) (n c : Nat) (wr ar : Int) (h : Bk w b 43 (rdCells (.slice A n c) wr ar false)) (hi : ¬ (0 ≤ i ∧ i < n) ∨ m ≠ 64) :
    Calls Try.prog 21 #[.pointer (some ⟨b, 0, none⟩), .int .i64 i, .slice C m k] w fun e w' => e = .returned (.int .i64 2) ∧ w = w' := by
  have h2 : w.cell? ⟨b, 3, none⟩ = some (.bool false) := h.cell 3
  have h0 : w.cell? ⟨b, 0, none⟩ = some (.slice A n c) := h.cell 0
  clear h
  go_enter Try.func21, Try.ntmps21
  by_cases h1 : i < 0
  · clear hi
    go_wp2
    go_ret
    exact ⟨rfl, rfl⟩
  · have h4 : (0 : Int) ≤ i := by omega
    by_cases h5 : i < n
    · have h3 : ((m : Int) != 64) = true := by
        have : m ≠ 64 := by omega
        simp; omega
      clear hi h1
      go_wp2
      go_ret
      exact ⟨rfl, rfl⟩
    · have h6 : (n : Int) ≤ i := by omega
      clear hi h1 h5
      go_wp2
      go_ret
      exact ⟨rfl, rfl⟩
set_option maxHeartbeats 400000 in
theorem rwrite_cut (b : Nat) (i : Nat) (C : Option Addr) (k : Nat) (w : World) (A : Option Addr) (n c : Nat) (wr : Int) (h : Bk w b 43 (rdCells (.slice A n c) wr 0 false)) (hi : i < n) :
    Calls Try.prog 21 #[.pointer (some ⟨b, 0, none⟩), .int .i64 i, .slice C 64 k] w fun e w' => e = .returned (.int .i64 40) ∧ Bk w' b 43 (rdCells (.slice A n c) wr (-1) true) ∧ Kp (One b) w w' := by
  have h2 : w.cell? ⟨b, 3, none⟩ = some (.bool false) := h.cell 3
  have h3 : w.cell? ⟨b, 2, none⟩ = some (.int .i64 0) := h.cell 2
  have h0 : w.cell? ⟨b, 0, none⟩ = some (.slice A n c) := h.cell 0
  have f2 := h.frozen 2
  have f3 := h.frozen 3
  have hi0 : (0 : Int) ≤ (i : Int) := by omega
  have hi1 : (i : Int) < (n : Int) := by omega
  have hh := Lib.hid h; clear h
  go_enter Try.func21, Try.ntmps21
  go_wp2
  go_ret
  exact ⟨rfl, (hh.out.set_ 3 _).set_ 2 _, ((Kp.refl _ _).set (.inl (One.self _)) _ _).set (.inl (One.self _)) _ _⟩

/-- a row of the list is taken by another -/
theorem RowsOf.set {w w1 : World} {B gv cap : Nat} {L : List (List UInt8)} {t : TypeId} {x : Value} {l : List UInt8} (h : RowsOf w B (.slice (some ⟨gv, 0, none⟩) L.length cap) L t) (hk : Kp No w w1) (hB : B ≤ w.heap.size)
    (hx : ByteRow w1 w.heap.size Option.none t x l) (i : Nat) (hi : i < L.length) (ht : t ≠ 33) :
    RowsOf (w1.setCell ⟨gv, i, none⟩ x) B (.slice (some ⟨gv, 0, none⟩) L.length cap) (L.set i l) t := by
  obtain ⟨xs, hown, hrows⟩ := h.no hk
  have hxl : xs.length = L.length := by have := hown.1; omega
  have hst := (hown.stored i x).1
  obtain ⟨hgB, cs, hcs⟩ := own_bk (h.ex.choose_spec.1) rfl
  have hcs1 := hcs.no hk
  refine ⟨xs.set i x, by rw [List.length_set]; exact hst, fun j hj => ?_⟩
  rw [List.length_set] at hj
  by_cases hji : j = i
  · subst hji
    refine ⟨x, by rw [List.getElem?_set_self (by omega)], ?_⟩
    rw [List.getElem_set_self]
    obtain ⟨g, c, sp, e, hc, hb, ha, hbk⟩ := hx
    have hne : gv ≠ g := fun e => hbk.ne_ hcs1 ht e.symm
    exact ⟨g, c, sp, e, hc, by omega, by simpa [Value.ownBlock] using hne, hbk.far (p := ⟨gv, j, none⟩) (Ne.symm hne) x⟩
  · obtain ⟨y, hy, hr⟩ := hrows j hj
    refine ⟨y, by rw [List.getElem?_set_ne (Ne.symm hji)]; exact hy, ?_⟩
    rw [List.getElem_set_ne (Ne.symm hji)]
    exact hr.keep (M := One gv) ((Kp.refl _ _).set (.inl (One.self _)) _ _) (fun g _ _ h => ⟨fun m => h (by rw [m]; rfl), h⟩)

set_option maxHeartbeats 1000000 in
theorem rwrite_free (B b : Nat) (i : Nat) (g o k : Nat) (l : List UInt8) (w : World) (v : Value) (L : List (List UInt8)) (wr ar : Int) (h : RD w B b v L wr ar false) (hi : i < L.length)
    (hl : l.length = 64) (hr : w.rangeAt g o (u8s l)) (ha : ar < 0) (w0 : 0 ≤ wr) (w1 : wr < 4611686018427387904) (hB : B ≤ w.heap.size) :
    Calls Try.prog 21 #[.pointer (some ⟨b, 0, none⟩), .int .i64 i, .slice (some ⟨g, o, none⟩) 64 k] w fun e w' => e = .returned (.int .i64 0) ∧ RD w' B b v (L.set i l) (wr + 1) ar false ∧ Kp (fun q => q = b ∨ v.ownBlock = some q) w w' := by
  have h2 : w.cell? ⟨b, 3, none⟩ = some (.bool false) := h.st.cell 3
  have h3 : w.cell? ⟨b, 2, none⟩ = some (.int .i64 ar) := h.st.cell 2
  have h0 : w.cell? ⟨b, 0, none⟩ = some v := h.st.cell 0
  obtain ⟨xs, hown, hrows⟩ := h.ro
  have hxl : xs.length = L.length := by have := hown.1; omega
  rcases hown.2 with ⟨_, hbad⟩ | ⟨gv, cap, cur, rfl, hgB, hh, hnc, hcm, hcs, htk⟩
  · omega
  have hst := Lib.hid h.st
  have hro := Lib.hid h.ro
  have hlo := h.lo
  have hgv : Bk w gv 33 cur.toList := by unfold Bk; simpa using hh
  have hbg : b ≠ gv := hst.out.ne_ hgv (by decide)
  have hd0 : i < cur.toList.length := by simp; omega
  have hdx := List.getElem?_eq_getElem hd0
  have hcop := copied_any (some ⟨g, o, none⟩) k (u8s l) w.drew (by rw [u8s_length, hl]; omega) (u8s_val l) (fun _ => ⟨g, o, rfl, (World.rangeAt_drew _ _ _ _).2 hr⟩)
  rw [u8s_length, hl] at hcop
  have HC := Lib.hid hcop; clear hcop
  generalize cur.toList[i] = y at hdx
  have hi0 : (0 : Int) ≤ (i : Int) := by omega
  have hi1 : (i : Int) < (L.length : Int) := by omega
  have hk0 : (ar == 0) = false := by simp; omega
  have HG := Lib.hid hgv
  have HDX := Lib.hid hdx
  clear hdx hgv h hown hrows hh hcs htk hr hxl
  go_enter Try.func21, Try.ntmps21
  go_wp2
  go_region_law ((first | (go_simp; go_at_call 29; refine HC.out.mono ?_; rintro e w2 ⟨g2, rfl, hb2, hg2, hk2⟩; have q0 : w2.cell? ⟨b, 0, none⟩ = some (.slice (some ⟨gv, 0, none⟩) L.length cap) := (hst.out.drew.no hk2).cell 0; have q1 : w2.cell? ⟨gv, i, none⟩ = some y := ((HG.out.drew.no hk2).cell i).trans HDX.out; have q2 := (HG.out.drew.no hk2).frozen i)))
  all_goals
    have B1 := (hst.out.drew.no hk2).far (p := ⟨gv, i, none⟩) hbg (.slice (some ⟨g2, 0, none⟩) 64 64)
    have R1 := (hro.out.no (Kp.refl No w).drew).set (x := .slice (some ⟨g2, 0, none⟩) 64 64) (l := l) hk2 hB ⟨g2, 64, [], by rw [hl], by omega, hg2, by simp, by rw [List.append_nil]; exact hb2⟩ i hi (by decide)
    have K1 : Kp (fun q => q = b ∨ gv = q) w (w2.setCell ⟨gv, i, none⟩ (.slice (some ⟨g2, 0, none⟩) 64 64)) := ((Kp.refl No w).drew.trans hk2).of_no.set (.inl (.inr rfl)) _ _
    clear q0 q1 q2 hb2 hg2 hk2
    generalize w2.setCell ⟨gv, i, none⟩ (.slice (some ⟨g2, 0, none⟩) 64 64) = w3 at *
    have c1 : w3.cell? ⟨b, 1, none⟩ = some (.int .i64 wr) := B1.cell 1
    have f1 := B1.frozen 1
    go_wp2
    go_ret
    exact ⟨rfl, ⟨B1.set_ 1 _, by have := R1.far B1 (by decide) (by decide) 1 (.int .i64 (wr + 1)); exact this, hlo⟩, (K1.set (.inl (.inl rfl)) _ _).mono (fun q _ h => h.elim .inl fun e => .inr (by rw [e]; rfl))⟩
set_option maxHeartbeats 1000000 in
theorem rwrite_armed (B b : Nat) (i : Nat) (g o k : Nat) (l : List UInt8) (w : World) (v : Value) (L : List (List UInt8)) (wr ar : Int) (h : RD w B b v L wr ar false) (hi : i < L.length)
    (hl : l.length = 64) (hr : w.rangeAt g o (u8s l)) (ha : 0 < ar) (ha2 : ar < 9223372036854775808) (hgb : g ≠ b) (w0 : 0 ≤ wr) (w1 : wr < 4611686018427387904) (hB : B ≤ w.heap.size) :
    Calls Try.prog 21 #[.pointer (some ⟨b, 0, none⟩), .int .i64 i, .slice (some ⟨g, o, none⟩) 64 k] w fun e w' => e = .returned (.int .i64 0) ∧ RD w' B b v (L.set i l) (wr + 1) (ar - 1) false ∧ Kp (fun q => q = b ∨ v.ownBlock = some q) w w' := by
  have h2 : w.cell? ⟨b, 3, none⟩ = some (.bool false) := h.st.cell 3
  have h3 : w.cell? ⟨b, 2, none⟩ = some (.int .i64 ar) := h.st.cell 2
  have h0 : w.cell? ⟨b, 0, none⟩ = some v := h.st.cell 0
  obtain ⟨xs, hown, hrows⟩ := h.ro
  have hxl : xs.length = L.length := by have := hown.1; omega
  rcases hown.2 with ⟨_, hbad⟩ | ⟨gv, cap, cur, rfl, hgB, hh, hnc, hcm, hcs, htk⟩
  · omega
  have f3 := h.st.frozen 2
  have hst0 := Lib.hid h.st
  have hro0 := Lib.hid h.ro
  have hlo := h.lo
  have hgv : Bk w gv 33 cur.toList := by unfold Bk; simpa using hh
  have hbg : b ≠ gv := hst0.out.ne_ hgv (by decide)
  have hd0 : i < cur.toList.length := by simp; omega
  have hdx := List.getElem?_eq_getElem hd0
  have hcop : ∀ u, _ := fun u => copied_any (some ⟨g, o, none⟩) k (u8s l) (w.setCell ⟨b, 2, none⟩ u).drew (by rw [u8s_length, hl]; omega) (u8s_val l) (fun _ => ⟨g, o, rfl, (World.rangeAt_drew _ _ _ _).2 (fun j v hv => by rw [World.cell?_setCell_other _ _ _ _ (by intro e; injection e with e; exact hgb e.symm)]; exact hr j v hv)⟩)
  rw [u8s_length, hl] at hcop
  generalize cur.toList[i] = y at hdx
  have hi0 : (0 : Int) ≤ (i : Int) := by omega
  have hi1 : (i : Int) < (L.length : Int) := by omega
  have hk0 : (ar == 0) = false := by simp; omega
  have HG0 := Lib.hid hgv
  have HDX := Lib.hid hdx
  clear hdx hgv h hown hrows hh hcs htk hr hxl
  have HC0 := Lib.hid hcop; clear hcop
  go_enter Try.func21, Try.ntmps21
  go_wp2
  have hst := Lib.hid (hst0.out.set_ 2 (.int .i64 (ar - 1)))
  have hro := Lib.hid (hro0.out.far hst0.out (by decide) (by decide) 2 (.int .i64 (ar - 1)))
  have HG := Lib.hid (HG0.out.far (p := ⟨b, 2, none⟩) (Ne.symm hbg) (.int .i64 (ar - 1)))
  have HC := Lib.hid (HC0.out (.int .i64 (ar - 1)))
  have K0 : Kp (fun q => q = b ∨ gv = q) w (w.setCell ⟨b, 2, none⟩ (.int .i64 (ar - 1))) := (Kp.refl _ _).set (.inl (.inl rfl)) _ _
  have hB1 := Nat.le_trans hB K0.size
  clear h0 h2 h3 f3 hst0 hro0 HG0 HC0
  generalize w.setCell ⟨b, 2, none⟩ (.int .i64 (ar - 1)) = wa at *
  have h0 : wa.cell? ⟨b, 0, none⟩ = some (.slice (some ⟨gv, 0, none⟩) L.length cap) := hst.out.cell 0
  go_region_law ((first | (go_simp; go_at_call 29; refine HC.out.mono ?_; rintro e w2 ⟨g2, rfl, hb2, hg2, hk2⟩; have q0 : w2.cell? ⟨b, 0, none⟩ = some (.slice (some ⟨gv, 0, none⟩) L.length cap) := (hst.out.drew.no hk2).cell 0; have q1 : w2.cell? ⟨gv, i, none⟩ = some y := ((HG.out.drew.no hk2).cell i).trans HDX.out; have q2 := (HG.out.drew.no hk2).frozen i)))
  all_goals
    have B1 := (hst.out.drew.no hk2).far (p := ⟨gv, i, none⟩) hbg (.slice (some ⟨g2, 0, none⟩) 64 64)
    have R1 := (hro.out.no (Kp.refl No wa).drew).set (x := .slice (some ⟨g2, 0, none⟩) 64 64) (l := l) hk2 hB1 ⟨g2, 64, [], by rw [hl], by omega, hg2, by simp, by rw [List.append_nil]; exact hb2⟩ i hi (by decide)
    have K1 : Kp (fun q => q = b ∨ gv = q) w (w2.setCell ⟨gv, i, none⟩ (.slice (some ⟨g2, 0, none⟩) 64 64)) := (K0.trans ((Kp.refl No wa).drew.trans hk2).of_no).set (.inl (.inr rfl)) _ _
    clear q0 q1 q2 hb2 hg2 hk2
    generalize w2.setCell ⟨gv, i, none⟩ (.slice (some ⟨g2, 0, none⟩) 64 64) = w3 at *
    have c1 : w3.cell? ⟨b, 1, none⟩ = some (.int .i64 wr) := B1.cell 1
    have f1 := B1.frozen 1
    go_wp2
    go_ret
    exact ⟨rfl, ⟨B1.set_ 1 _, by have := R1.far B1 (by decide) (by decide) 1 (.int .i64 (wr + 1)); exact this, hlo⟩, (K1.set (.inl (.inl rfl)) _ _).mono (fun q _ h => h.elim .inl fun e => .inr (by rw [e]; rfl))⟩
end Go.Proofs.Ytaohaofjbgghgaa
