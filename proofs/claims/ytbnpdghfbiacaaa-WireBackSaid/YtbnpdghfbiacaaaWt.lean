/- octets.Reader.Text, where it is given. No condition beyond what each theorem states. -/
import Derived.Test.YtbnpdghfbiacaaaWzT
import Derived.Test.YtbnpdghfbiacaaaWc
namespace Go.Proofs.Ytbnpdghfbiacaaa
open Go Go.RowKit Go.PlainAid

theorem argB_mid {w : World} {g o c : Nat} {l : List UInt8} (h : ArgB w (.slice (some ⟨g, o, none⟩) l.length c) l) (k n : Nat) (hk : k + n ≤ l.length) :
    (∃ o1, (∀ W, (Instr.slice 30 (.slice (some ⟨g, o, none⟩) l.length c) (some (.int .i64 (k : Int))) (some (.int .i64 ((k : Int) + (n : Int)))) none).run Try.prog W = .ok (.slice (some ⟨g, o1, none⟩) n (c - k)) W) ∧ ArgB w (.slice (some ⟨g, o1, none⟩) ((l.drop k).take n).length (c - k)) ((l.drop k).take n)) ∧
    (∃ o2, (∀ W, (Instr.slice 30 (.slice (some ⟨g, o, none⟩) l.length c) (some (.int .i64 ((k : Int) + (n : Int)))) none none).run Try.prog W = .ok (.slice (some ⟨g, o2, none⟩) (l.length - (k + n)) (c - (k + n))) W) ∧ ArgB w (.slice (some ⟨g, o2, none⟩) (l.length - (k + n)) (c - (k + n))) (l.drop (k + n))) := by
  have hc : l.length ≤ c := by obtain ⟨_, _, hc⟩ := h.cs; exact hc
  have hu : Try.prog.underlying 30 = some (.slice (Try.prog.elem 30)) := by kernel_rfl
  have hsz : ∀ W, (sizeOf (Try.prog.elem 30)).run Try.prog W = .ok 1 W := fun W => by kernel_rfl
  have e1 : ((k : Int) + (n : Int)).toNat = k + n := by omega
  have hl1 : ((l.drop k).take n).length = n := by rw [List.length_take, List.length_drop]; omega
  constructor
  · by_cases hck : c = k
    · have hn : n = 0 := by omega
      subst hn
      refine ⟨o, fun W => ?_, ?_⟩
      · rw [run_slice_lh (P := Try.prog) W 30 _ _ _ hu .i64 .i64 _ _ (by omega) (by omega) (by omega), hsz]
        simp [Result.andThen, sliced, hck]
      · simpa using ArgB.nil _ _ _
    · refine ⟨o + k, fun W => ?_, ?_⟩
      · rw [run_slice_lh (P := Try.prog) W 30 _ _ _ hu .i64 .i64 _ _ (by omega) (by omega) (by omega), hsz]
        simp [Result.andThen, sliced, hck, e1, Addr.add_mid]
      · have hd := h.drop k (by omega)
        have := ArgB.take (n := l.length - k) (c := c - k) (l := l.drop k) hd n (by rw [List.length_drop]; omega)
        rw [hl1]; exact this
  · by_cases hck : c = k + n
    · have hn : l.length - (k + n) = 0 := by omega
      have hd : l.drop (k + n) = [] := List.drop_of_length_le (by omega)
      refine ⟨o, fun W => ?_, ?_⟩
      · rw [run_slice_l (P := Try.prog) W 30 _ _ _ hu .i64 _ (by omega) (by omega), hsz]
        simp [Result.andThen, sliced, hck, e1]
      · rw [hn, hd]; exact ArgB.nil _ _ _
    · refine ⟨o + (k + n), fun W => ?_, h.drop (k + n) (by omega)⟩
      rw [run_slice_l (P := Try.prog) W 30 _ _ _ hu .i64 _ (by omega) (by omega), hsz]
      simp [Result.andThen, sliced, hck, e1, Addr.add_mid]
set_option maxRecDepth 100000 in
set_option maxHeartbeats 2000000 in
theorem rtext_yes (b : Nat) (v : Value) (l : List UInt8) (m : Int) (w : World) (h : RdB w b v l 0) (hm : l.length ≤ maxLen) (he : (takeN 0 l).2.2 = 0) (hl : ((takeN 0 l).1 : Int) ≤ max m 0) (hs : (takeN 0 l).1 + (takeN 0 l).2.1 ≤ l.length) :
    Calls Try.prog 76 #[.pointer (some ⟨b, 0, none⟩), .int .i64 m] w fun e w' => e = .returned (.string ⟨((l.drop (takeN 0 l).2.1).take (takeN 0 l).1).toArray⟩) ∧ Kp (One b) w w' ∧ ∃ v', RdB w' b v' (l.drop ((takeN 0 l).2.1 + (takeN 0 l).1)) 0 ∧ SameBlk v v' := by
  have HR := Lib.hid h
  obtain ⟨hb, hv, hne⟩ := h
  have hpos : 0 < l.length := by
    rcases Nat.eq_zero_or_pos l.length with h0 | h0
    · rw [List.eq_nil_of_length_eq_zero h0] at he
      simp [takeN] at he
    · exact h0
  obtain ⟨g, o, c, rfl, hc, _⟩ := hv.at_ hpos
  have z0 : w.cell? ⟨b, 0, none⟩ = some (.slice (some ⟨g, o, none⟩) l.length c) := hb.cell 0
  have z1 : w.cell? ⟨b, 1, none⟩ = some (.int .i64 0) := hb.cell 1
  have zf := hb.frozen
  have pn := onum_any _ c l w hv hm
  obtain ⟨n, k, er, ht⟩ : ∃ n k er, takeN 0 l = (n, k, er) := ⟨_, _, _, rfl⟩
  rw [ht] at pn he hl hs ⊢
  simp only at pn he hl hs ⊢
  subst he
  unfold maxLen at hm
  obtain ⟨⟨o1, r1, a1⟩, o2, r2, a2⟩ := argB_mid hv k n (by omega)
  have hcv := conv_argB a1
  have hl1 : ((l.drop k).take n).length = n := by rw [List.length_take, List.length_drop]; omega
  rw [hl1] at hcv
  have A2 := Lib.hid a2; have HB := Lib.hid hb; have HN := Lib.hid hne
  obtain ⟨S, hS⟩ : ∃ S : ByteArray, S = ⟨((l.drop k).take n).toArray⟩ := ⟨_, rfl⟩
  rw [← hS] at hcv ⊢
  have hs1 : (n : Int) + (k : Int) ≤ (l.length : Int) := by omega
  have hs2 : ¬ (l.length : Int) - (k : Int) < (n : Int) := by omega
  have hm2 : (n : Int) ≤ m ∨ n = 0 := by omega
  clear hb hv hne ht a1 a2 hl1 hS hpos
  rcases Int.lt_or_le m 0 with hm0 | hm0
  all_goals
    have hm3 : ¬ max m 0 < (n : Int) := by omega
    have hm4 : m < 0 → ¬ (0 : Int) < (n : Int) := fun h => by omega
    have hm5 : 0 ≤ m → ¬ m < (n : Int) := fun h => by omega
    first
      | (have hm6 := hm4 hm0; clear hm5)
      | (have hm6 := hm5 hm0; clear hm4)
    clear hl hm2 hm3
    go_enter Try.func76, Try.ntmps76
    go_wp2_with fail
    refine pn.mono ?_
    rintro e w' ⟨rfl, rfl⟩
    clear pn
    go_wp2
    go_ret
    have B1 := HB.out.set_ 0 (.slice (some ⟨g, o2, none⟩) (l.length - (k + n)) (c - (k + n)))
    refine ⟨rfl, (Kp.refl (One b) w).set (.inl rfl) 0 _, _, ⟨B1, A2.out.kp ((Kp.refl (One b) w).set (.inl rfl) 0 _) ?_, ?_⟩, ?_⟩
    · intro g' o' n' c' e hg
      injection e with e1
      injection e1 with e1
      injection e1 with e1
      subst e1
      exact HN.out (by rw [show g = b from hg]; simp [Value.ownBlock])
    · intro h; exact HN.out (by simpa [Value.ownBlock] using h)
    · intro g' h; simpa [Value.ownBlock] using h
end Go.Proofs.Ytbnpdghfbiacaaa
