/- octets.Reader.Text, where it is refused. No condition beyond what each theorem states. -/
import Derived.Test.YtbnpdghfbiacaaaWz
namespace Go.Proofs.Ytbnpdghfbiacaaa
open Go Go.RowKit Go.PlainAid

set_option maxHeartbeats 2000000 in
theorem rtext_err (b : Nat) (v : Value) (l : List UInt8) (err m : Int) (w : World) (h : RdB w b v l err) (he : err ≠ 0) :
    Calls Try.prog 76 #[.pointer (some ⟨b, 0, none⟩), .int .i64 m] w fun e w' => e = .returned (.string ⟨#[]⟩) ∧ w = w' := by
  have z1 : w.cell? ⟨b, 1, none⟩ = some (.int .i64 err) := h.1.cell 1
  have d1 : (err != 0) = true := by rw [bne_iff_ne]; exact he
  clear h
  go_enter Try.func76, Try.ntmps76
  go_wp2
  go_ret
  exact ⟨rfl, rfl⟩
theorem RdB.refuse {w : World} {b : Nat} {v : Value} {l : List UInt8} {err er : Int} (h : RdB w b v l err) : RdB (w.setCell ⟨b, 1, none⟩ (.int .i64 er)) b v l er :=
  ⟨h.1.set_ 1 _, h.2.1.kp ((Kp.refl (One b) w).set (.inl rfl) 1 _) (fun g o n c e hg => h.2.2 (by have hg : g = b := hg; rw [e, hg]; simp [Value.ownBlock])), h.2.2⟩
set_option maxHeartbeats 2000000 in
theorem rtext_bad (b : Nat) (v : Value) (l : List UInt8) (m : Int) (w : World) (h : RdB w b v l 0) (hm : l.length ≤ maxLen) (he : (takeN 0 l).2.2 ≠ 0) :
    Calls Try.prog 76 #[.pointer (some ⟨b, 0, none⟩), .int .i64 m] w fun e w' => e = .returned (.string ⟨#[]⟩) ∧ Kp (One b) w w' ∧ RdB w' b v l (takeN 0 l).2.2 := by
  have HR := Lib.hid h
  obtain ⟨hb, hv, hne⟩ := h
  obtain ⟨A, c, rfl, hc⟩ := hv.form
  have z0 : w.cell? ⟨b, 0, none⟩ = some (.slice A l.length c) := hb.cell 0
  have z1 : w.cell? ⟨b, 1, none⟩ = some (.int .i64 0) := hb.cell 1
  have zf := hb.frozen
  have pn := onum_any A c l w hv hm
  obtain ⟨n, k, er, ht⟩ : ∃ n k er, takeN 0 l = (n, k, er) := ⟨_, _, _, rfl⟩
  rw [ht] at pn he ⊢
  simp only at pn he ⊢
  have d1 : (er != 0) = true := by rw [bne_iff_ne]; exact he
  clear hb hv hne ht he
  go_enter Try.func76, Try.ntmps76
  go_wp2_with fail
  refine pn.mono ?_
  rintro e w' ⟨rfl, rfl⟩
  clear pn
  go_wp2
  go_ret
  exact ⟨rfl, (Kp.refl (One b) w).set (.inl rfl) 1 _, HR.out.refuse⟩

set_option maxHeartbeats 2000000 in
theorem rtext_long (b : Nat) (v : Value) (l : List UInt8) (m : Int) (w : World) (h : RdB w b v l 0) (hm : l.length ≤ maxLen) (he : (takeN 0 l).2.2 = 0) (hl : max m 0 < ((takeN 0 l).1 : Int)) :
    Calls Try.prog 76 #[.pointer (some ⟨b, 0, none⟩), .int .i64 m] w fun e w' => e = .returned (.string ⟨#[]⟩) ∧ Kp (One b) w w' ∧ RdB w' b v l 21 := by
  have HR := Lib.hid h
  obtain ⟨hb, hv, hne⟩ := h
  obtain ⟨A, c, rfl, hc⟩ := hv.form
  have z0 : w.cell? ⟨b, 0, none⟩ = some (.slice A l.length c) := hb.cell 0
  have z1 : w.cell? ⟨b, 1, none⟩ = some (.int .i64 0) := hb.cell 1
  have zf := hb.frozen
  have pn := onum_any A c l w hv hm
  have hkl := takeN_len l
  obtain ⟨n, k, er, ht⟩ : ∃ n k er, takeN 0 l = (n, k, er) := ⟨_, _, _, rfl⟩
  rw [ht] at pn he hkl hl
  simp only at pn he hkl hl
  subst he
  unfold maxLen at hm
  have hl2 : m < (n : Int) ∧ (0 : Int) < (n : Int) := by omega
  obtain ⟨hl3, hl4⟩ := hl2
  clear hl
  clear hb hv hne ht
  rcases Int.lt_or_le m 0 with hm0 | hm0
  all_goals
    go_enter Try.func76, Try.ntmps76
    go_wp2_with fail
    refine pn.mono ?_
    rintro e w' ⟨rfl, rfl⟩
    clear pn
    go_wp2
    go_ret
    exact ⟨rfl, (Kp.refl (One b) w).set (.inl rfl) 1 _, HR.out.refuse⟩
set_option maxHeartbeats 2000000 in
theorem rtext_short (b : Nat) (v : Value) (l : List UInt8) (m : Int) (w : World) (h : RdB w b v l 0) (hm : l.length ≤ maxLen) (he : (takeN 0 l).2.2 = 0) (hl : ((takeN 0 l).1 : Int) ≤ max m 0) (hs : (l.length : Int) - ((takeN 0 l).2.1 : Int) < ((takeN 0 l).1 : Int)) :
    Calls Try.prog 76 #[.pointer (some ⟨b, 0, none⟩), .int .i64 m] w fun e w' => e = .returned (.string ⟨#[]⟩) ∧ Kp (One b) w w' ∧ RdB w' b v l 20 := by
  have HR := Lib.hid h
  obtain ⟨hb, hv, hne⟩ := h
  obtain ⟨A, c, rfl, hc⟩ := hv.form
  have z0 : w.cell? ⟨b, 0, none⟩ = some (.slice A l.length c) := hb.cell 0
  have z1 : w.cell? ⟨b, 1, none⟩ = some (.int .i64 0) := hb.cell 1
  have zf := hb.frozen
  have pn := onum_any A c l w hv hm
  have hkl := takeN_len l
  obtain ⟨n, k, er, ht⟩ : ∃ n k er, takeN 0 l = (n, k, er) := ⟨_, _, _, rfl⟩
  rw [ht] at pn he hkl hl hs
  simp only at pn he hkl hl hs
  subst he
  unfold maxLen at hm
  have hl2 : (n : Int) ≤ m ∧ 0 ≤ m := by omega
  obtain ⟨hl3, hm0⟩ := hl2
  clear hl
  have hl4 : ¬ m < (n : Int) := by omega
  have hk1 : (k : Int) ≤ (l.length : Int) := by omega
  clear hb hv hne ht
  have hx : True := trivial
  all_goals
    go_enter Try.func76, Try.ntmps76
    go_wp2_with fail
    refine pn.mono ?_
    rintro e w' ⟨rfl, rfl⟩
    clear pn
    go_wp2
    go_ret
    exact ⟨rfl, (Kp.refl (One b) w).set (.inl rfl) 1 _, HR.out.refuse⟩
end Go.Proofs.Ytbnpdghfbiacaaa
