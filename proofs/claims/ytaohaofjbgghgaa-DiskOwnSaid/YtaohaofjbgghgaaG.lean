/- The contract of the law's awake: it answers true. No condition beyond what each theorem states. -/
import Derived.Test.YtaohaofjbgghgaaF
namespace Go.Proofs.Ytaohaofjbgghgaa
open Go.RowKit

theorem fillB_len (f : UInt8) (m : Nat) : (fillB f m).length = m := by simp [fillB]
/-- filled(f, 64) -/
theorem filled64 (f : UInt8) (c : Int) (hc : c = (f.toNat : Int)) (w : World) :
    Calls Try.prog 20 #[.int .u8 c, .int .i64 64] w fun e w' => ∃ g, e = .returned (.slice (some ⟨g, 0, none⟩) 64 64) ∧ Bk w' g 5 (u8s (fillB f 64)) ∧ w.heap.size ≤ g ∧ Kp No w w' := by
  subst hc
  exact (filled_any f 64 w).mono fun e w' hh => hh
theorem Bk.argBytes {w : World} {g : Nat} {t : TypeId} {l : List UInt8} (h : Bk w g t (u8s l)) (c : Nat) : ArgBytes w (.slice (some ⟨g, 0, none⟩) l.length c) l :=
  ⟨_, c, rfl, fun _ => ⟨g, 0, rfl, by have := h.range 0 l.length; rw [List.drop_zero, List.take_of_length_le (by simp)] at this; exact this⟩⟩
theorem Bk.arg64 {w : World} {g : Nat} {t : TypeId} {l : List UInt8} (h : Bk w g t (u8s l)) (hl : l.length = 64) : ArgBytes w (.slice (some ⟨g, 0, none⟩) 64 64) l := by
  have := h.argBytes 64; rw [hl] at this; exact this

/-- Write(i, b) of a fresh full list -/
theorem write64 (b sb cap : Nat) (i : Int) (g : Nat) (l : List UInt8) (w : World) (s : St) (h : DkS w b sb cap s) (ok : s.Ok) (hw : s.wr < 4611686018427387904) (hx : Bk w g 5 (u8s l)) (hl : l.length = 64) :
    Calls Try.prog 19 #[.pointer (some ⟨b, 0, none⟩), .int .i64 i, .slice (some ⟨g, 0, none⟩) 64 64] w fun e w' => e = .returned (.int .i64 (s.wrRes i l)) ∧ DkS w' b sb cap (s.wrNext i l) ∧ Kp (Two b sb) w w' :=
  write_all b sb cap i _ l w s h ok hw (hx.arg64 hl) (fun g' o c e => by
    simp only [Value.slice.injEq, Option.some.injEq, Addr.mk.injEq] at e
    obtain ⟨⟨rfl, _⟩, _⟩ := e
    obtain ⟨sp, hs⟩ := h.se
    exact ⟨hx.ne_ hs (by decide), hx.ne_ h.st (by decide)⟩)

theorem ArgBytes.drew {w : World} {x : Value} {l : List UInt8} (h : ArgBytes w x l) : ArgBytes w.drew x l := h.no (Kp.refl _ _).drew

def aw1 : St := (St.new 2).wrNext 1 (fillB 7 64)
def aw2 : St := { aw1 with ar := true, lf := 1 }
def aw3 : St := aw2.wrNext 0 (fillB 8 64)
def aw4 : St := aw3.wrNext 0 (fillB 9 64)
def aw5 : St := { aw4 with off := false }
theorem aw0_ok : (St.new 2).Ok := ⟨by decide, by decide, by decide⟩
theorem aw1_ok : aw1.Ok := aw0_ok.next _ _
theorem aw2_ok : aw2.Ok := ⟨by decide +kernel, by decide, by decide⟩
theorem aw3_ok : aw3.Ok := aw2_ok.next _ _
theorem aw_r1 : (St.new 2).wrRes 1 (fillB 7 64) = 0 := by decide +kernel
theorem aw_r2 : aw2.wrRes 0 (fillB 8 64) = 0 := by decide +kernel
theorem aw_r3 : aw3.wrRes 0 (fillB 9 64) = 40 := by decide +kernel
theorem aw_w1 : aw1.wr = 1 := by decide +kernel
theorem aw_w3 : aw3.wr = 2 := by decide +kernel
theorem aw_n1 : aw1.L.length = 2 := by decide +kernel
theorem aw_o4 : aw4.off = true := by decide +kernel
theorem aw_f5 : aw5.fault 0 = 0 := by decide +kernel
theorem aw_l5 : aw5.L[(0 : Int).toNat]? = some (fillB 8 64) := by decide +kernel
theorem aw_n5 : aw5.L.length = 2 := by decide +kernel

set_option maxHeartbeats 2000000 in
theorem awake_any (w : World) : Calls Try.prog 8 #[] w fun e w' => e = .returned (.bool true) ∧ Kp No w w' := by
  go_enter Try.func8, Try.ntmps8
  go_wp2_with fail
  refine (new_all 2 (by omega) (by omega) _).mono ?_
  rintro e w1 ⟨b, sb, rfl, d1, hb1, hb2, k1⟩
  go_wp2_with fail
  refine (filled64 7 7 rfl _).mono ?_
  rintro e w2 ⟨g2, rfl, hg2, hl2, k2⟩
  go_wp2_with fail
  have c3 := write64 b sb 2 1 g2 (fillB 7 64) w2 (St.new 2) (d1.no k2) aw0_ok (by decide) hg2 (fillB_len _ _)
  rw [aw_r1] at c3
  refine c3.mono ?_
  clear c3
  rintro e w3 ⟨rfl, d3, k3⟩
  have D3 : DkS w3 b sb 2 aw1 := d3
  clear d3
  go_wp2_with fail
  refine (writes_any b _ _ _ _ _ _ D3.st).mono ?_
  rw [aw_w1]
  rintro e w' ⟨rfl, rfl⟩
  go_wp2_with fail
  refine (len_any b _ _ _ _ _ _ _ _ D3.st).mono ?_
  rw [aw_n1]
  rintro e w' ⟨rfl, rfl⟩
  go_wp2_with fail
  refine (arm_any b 1 _ _ _ _ _ _ D3.st).mono ?_
  rintro e w4 ⟨rfl, d4, k4⟩
  have D4 : DkS w4 b sb 2 aw2 := by
    obtain ⟨sp, hs⟩ := D3.se
    exact ⟨d4, ⟨sp, hs.kp k4 fun m => D3.st.ne_ hs (by decide) m.symm⟩, D3.le, D3.n1, D3.n2⟩
  clear d4
  go_wp2_with fail
  refine (filled64 8 8 rfl _).mono ?_
  rintro e w5 ⟨g5, rfl, hg5, hl5, k5⟩
  go_wp2_with fail
  have c6 := write64 b sb 2 0 g5 (fillB 8 64) w5 aw2 (D4.no k5) aw2_ok (by decide +kernel) hg5 (fillB_len _ _)
  rw [aw_r2] at c6
  refine c6.mono ?_
  clear c6
  rintro e w6 ⟨rfl, d6, k6⟩
  have D6 : DkS w6 b sb 2 aw3 := d6
  clear d6
  go_wp2_with fail
  refine (filled64 9 9 rfl _).mono ?_
  rintro e w7 ⟨g7, rfl, hg7, hl7, k7⟩
  go_wp2_with fail
  have c8 := write64 b sb 2 0 g7 (fillB 9 64) w7 aw3 (D6.no k7) aw3_ok (by decide +kernel) hg7 (fillB_len _ _)
  rw [aw_r3] at c8
  refine c8.mono ?_
  clear c8
  rintro e w8 ⟨rfl, d8, k8⟩
  have D8 : DkS w8 b sb 2 aw4 := d8
  clear d8
  go_wp2_with fail
  refine (off_any b _ _ _ _ _ _ D8.st).mono ?_
  rw [aw_o4]
  rintro e w' ⟨rfl, rfl⟩
  go_wp2_with fail
  refine (on_any b _ _ _ _ _ _ D8.st).mono ?_
  rintro e w9 ⟨rfl, d9, k9⟩
  have D9 : DkS w9 b sb 2 aw5 := by
    obtain ⟨sp, hs⟩ := D8.se
    exact ⟨d9, ⟨sp, hs.kp k9 fun m => D8.st.ne_ hs (by decide) m.symm⟩, D8.le, D8.n1, D8.n2⟩
  clear d9
  go_wp2_with fail
  have c10 := read_all b sb 2 0 w9 aw5 D9
  rw [aw_f5] at c10
  refine c10.mono ?_
  clear c10
  rintro e w10 ⟨x, rfl, k10, _, hx⟩
  obtain ⟨hi, _, g10, rfl, hl10, hb10⟩ := hx rfl
  have hgl : aw5.L[(0 : Int).toNat] = fillB 8 64 := by
    have := aw_l5
    rw [List.getElem?_eq_getElem hi] at this
    injection this
  rw [hgl] at hb10
  clear hx hgl
  have K10 : Kp (Two b sb) w1 w10 := by
    refine (k2.of_no.trans k3).trans ?_
    refine ((k4.mono fun _ _ m => .inl m).trans k5.of_no).trans ?_
    refine (k6.trans k7.of_no).trans (k8.trans ?_)
    exact (k9.mono fun _ _ m => .inl m).trans k10.of_no
  have K : Kp No w w10 := k1.then_ K10 fun i hi m => by rcases m with m | m <;> omega
  have D10 := D9.no k10
  clear k1 k2 k3 k4 k5 k6 k7 k8 k9 k10 K10 D3 D4 D6 D8 D9 hg2 hl2 hg5 hl5 hg7 hl7 hl10
  have A10 := Lib.hid (hb10.arg64 (fillB_len _ _)).drew
  have s10 := A10.out.str (P := Try.prog) 33 5 9 Try.underlying33 Try.underlying5 Try.underlying9
  have K' := Lib.hid K.drew
  have HN := Lib.hid aw_n5
  clear K hb10
  have D11 := D10.no (Kp.refl No w10).drew
  go_wp2_with fail
  go_region_law ((first | (go_simp; go_at_call 20; refine (filled64 8 8 rfl _).mono ?_; rintro e w11 ⟨g11, rfl, hg11, hl11, k11⟩; have s11 := (hg11.arg64 (fillB_len _ _)).str (P := Try.prog) 33 5 9 Try.underlying33 Try.underlying5 Try.underlying9; have s12 := (A10.out.no k11).str (P := Try.prog) 33 5 9 Try.underlying33 Try.underlying5 Try.underlying9) | (go_simp; go_at_call 18; refine (image_any b sb 2 _ _ _ _ _ _ (D11.no k11)).mono ?_; rintro e w12 ⟨v, rfl, hR, k12⟩; obtain ⟨A, c, xs, rfl, _⟩ := hR.arg; rw [HN.out])))
  all_goals
    go_wp2
    go_ret
    exact ⟨rfl, (K'.out.trans k11).trans k12⟩
end Go.Proofs.Ytaohaofjbgghgaa
