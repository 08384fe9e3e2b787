/- The reader by one word (wire). No condition beyond what each theorem states. -/
import Derived.Test.YtbnpdghfbiacaaaWt
import Derived.Test.YtbnpdghfbiacaaaWi
namespace Go.Proofs.Ytbnpdghfbiacaaa
open Go Go.RowKit Go.PlainAid

theorem takeN_bad : ∀ (l : List UInt8) (i : Nat), (takeN i l).2.2 ≠ 0 → (takeN i l).1 = 0 ∧ (takeN i l).2.1 = 0
  | [], i, _ => ⟨rfl, rfl⟩
  | c :: r, i, h => by
    unfold takeN at h ⊢
    by_cases h1 : c.toNat < 128
    · rw [if_pos h1] at h ⊢
      by_cases h2 : c.toNat = 0 ∧ 0 < i
      · rw [if_pos h2]; exact ⟨rfl, rfl⟩
      · rw [if_neg h2] at h; exact absurd rfl h
    · rw [if_neg h1] at h ⊢
      by_cases h3 : i = 8
      · rw [if_pos h3]; exact ⟨rfl, rfl⟩
      · rw [if_neg h3] at h ⊢
        generalize takeN (i + 1) r = q at *
        obtain ⟨n, k, e⟩ := q
        simp only at h ⊢
        by_cases h4 : e = 0
        · rw [if_pos h4] at h; exact absurd rfl h
        · rw [if_neg h4]; exact ⟨rfl, rfl⟩
/-- a reader at b in the state s -/
def RdS (w : World) (b : Nat) (s : Rd) : Prop := ∃ v, RdB w b v s.1 s.2 ∧ ∀ k, v.ownBlock = some k → TB w k
theorem RdS.kp {w w' : World} {b : Nat} {s : Rd} {M : Nat → Prop} (h : RdS w b s) (hk : Kp M w w') (h1 : ¬ M b) (h2 : ∀ k, TB w k → ¬ M k) : RdS w' b s := by
  obtain ⟨v, h, ht⟩ := h
  exact ⟨v, h.kp hk h1 (fun g hg => h2 g (ht g hg)), fun k e => (ht k e).kp hk (h2 k (ht k e))⟩
theorem RdS.no {w w' : World} {b : Nat} {s : Rd} (h : RdS w b s) (hk : Kp No w w') : RdS w' b s := h.kp hk (fun m => m) (fun _ _ m => m)
theorem RdS.rdr {w : World} {b : Nat} {s : Rd} (h : RdS w b s) : ∃ cs, Bk w b 99 cs := by obtain ⟨v, h, _⟩ := h; exact ⟨_, h.1⟩
theorem RdS.step {w w' : World} {b : Nat} {s s' : Rd} {v v' : Value} (h : RdB w b v s.1 s.2) (ht : ∀ k, v.ownBlock = some k → TB w k) (hk : Kp (One b) w w') (h' : RdB w' b v' s'.1 s'.2) (hs : SameBlk v v') : RdS w' b s' :=
  ⟨v', h', fun k e => (ht k (hs k e)).kp hk (fun m => by
    have e2 : k = b := m
    subst e2
    exact h'.2.2 e)⟩
theorem rd_num (b : Nat) (s : Rd) (w : World) (h : RdS w b s) (hm : s.1.length ≤ maxLen) :
    Calls Try.prog 54 #[.pointer (some ⟨b, 0, none⟩)] w fun e w' => e = .returned (.int .i64 ((rdNum s).1 : Int)) ∧ RdS w' b (rdNum s).2 ∧ Kp (One b) w w' := by
  obtain ⟨l, err⟩ := s
  by_cases he : err = 0
  · subst he
    obtain ⟨v, h, ht⟩ := h
    refine (rnum_any b v l w h hm).mono ?_
    rintro e w' ⟨rfl, hk, v', h', hs⟩
    obtain ⟨n, k, er, htk⟩ : ∃ n k er, takeN 0 l = (n, k, er) := ⟨_, _, _, rfl⟩
    by_cases h0 : er = 0
    · subst h0
      rw [htk] at h'
      have e1 : rdNum (l, 0) = (n, (l.drop k, 0)) := by unfold rdNum; simp [htk]
      rw [e1, htk]
      exact ⟨rfl, RdS.step (s := (l, 0)) (s' := (l.drop k, 0)) h ht hk h' hs, hk⟩
    · have hb := takeN_bad l 0 (by rw [htk]; exact h0)
      rw [htk] at hb h'
      obtain ⟨rfl, rfl⟩ : n = 0 ∧ k = 0 := hb
      have e1 : rdNum (l, 0) = (0, (l, er)) := by unfold rdNum; simp [htk, h0]
      rw [e1, htk]
      exact ⟨rfl, RdS.step (s := (l, 0)) (s' := (l, er)) h ht hk (by simpa using h') hs, hk⟩
  · have e1 : rdNum (l, err) = (0, (l, err)) := by unfold rdNum; simp [he]
    have h0 := h
    obtain ⟨v, h, ht⟩ := h
    refine (rnum_err b v l err w h he).mono ?_
    rintro e w' ⟨rfl, rfl⟩
    rw [e1]
    exact ⟨rfl, h0, Kp.refl _ _⟩
theorem rd_text (b : Nat) (s : Rd) (most : Nat) (w : World) (h : RdS w b s) (hm : s.1.length ≤ maxLen) :
    Calls Try.prog 76 #[.pointer (some ⟨b, 0, none⟩), .int .i64 (most : Int)] w fun e w' => e = .returned (.string ⟨(rdText most s).1.toArray⟩) ∧ RdS w' b (rdText most s).2 ∧ Kp (One b) w w' := by
  obtain ⟨l, err⟩ := s
  by_cases he : err = 0
  · subst he
    obtain ⟨v, h, ht⟩ := h
    obtain ⟨n, k, er, htk⟩ : ∃ n k er, takeN 0 l = (n, k, er) := ⟨_, _, _, rfl⟩
    have hlen := takeN_len l
    have p1 := rtext_bad b v l (most : Int) w h hm
    have p2 := rtext_long b v l (most : Int) w h hm
    have p3 := rtext_short b v l (most : Int) w h hm
    have p4 := rtext_yes b v l (most : Int) w h hm
    rw [htk] at p1 p2 p3 p4 hlen
    simp only at p1 p2 p3 p4 hlen
    by_cases h0 : er = 0
    · subst h0
      by_cases h1 : most < n
      · have e1 : rdText most (l, 0) = ([], (l, 21)) := by unfold rdText; simp [htk, h1]
        refine (p2 rfl (by omega)).mono ?_
        rintro e w' ⟨rfl, hk, h'⟩
        rw [e1]
        exact ⟨rfl, RdS.step (s := (l, 0)) (s' := (l, 21)) h ht hk h' (fun g hg => hg), hk⟩
      · by_cases h2 : l.length - k < n
        · have e1 : rdText most (l, 0) = ([], (l, 20)) := by unfold rdText; simp [htk, h1, h2]
          refine (p3 rfl (by omega) (by omega)).mono ?_
          rintro e w' ⟨rfl, hk, h'⟩
          rw [e1]
          exact ⟨rfl, RdS.step (s := (l, 0)) (s' := (l, 20)) h ht hk h' (fun g hg => hg), hk⟩
        · have e1 : rdText most (l, 0) = ((l.drop k).take n, (l.drop (k + n), 0)) := by unfold rdText; simp [htk, h1, h2]
          refine (p4 rfl (by omega) (by omega)).mono ?_
          rintro e w' ⟨rfl, hk, v', h', hs⟩
          rw [e1]
          exact ⟨rfl, RdS.step (s := (l, 0)) (s' := (l.drop (k + n), 0)) h ht hk h' hs, hk⟩
    · have e1 : rdText most (l, 0) = ([], (l, er)) := by unfold rdText; simp [htk, h0]
      refine (p1 h0).mono ?_
      rintro e w' ⟨rfl, hk, h'⟩
      rw [e1]
      exact ⟨rfl, RdS.step (s := (l, 0)) (s' := (l, er)) h ht hk h' (fun g hg => hg), hk⟩
  · have e1 : rdText most (l, err) = ([], (l, err)) := by unfold rdText; simp [he]
    have h0 := h
    obtain ⟨v, h, ht⟩ := h
    refine (rtext_err b v l err _ w h he).mono ?_
    rintro e w' ⟨rfl, rfl⟩
    rw [e1]
    exact ⟨rfl, h0, Kp.refl _ _⟩
theorem rdNum_lt (s : Rd) : (rdNum s).1 < 9223372036854775808 := by
  unfold rdNum
  split
  · simp
  · have := takeN_lt s.1
    generalize takeN 0 s.1 = q at *
    obtain ⟨n, k, e⟩ := q
    simp only at this ⊢
    split
    · exact this
    · simp
theorem rdNum_le (s : Rd) : (rdNum s).2.1.length ≤ s.1.length := by
  unfold rdNum
  split
  · exact Nat.le_refl _
  · generalize takeN 0 s.1 = q at *
    obtain ⟨n, k, e⟩ := q
    simp only
    split
    · simp
    · exact Nat.le_refl _
theorem rdText_le (m : Nat) (s : Rd) : (rdText m s).2.1.length ≤ s.1.length ∧ (rdText m s).1.length ≤ m := by
  unfold rdText
  split
  · simp
  · generalize takeN 0 s.1 = q at *
    obtain ⟨n, k, e⟩ := q
    simp only
    split
    · simp
    · split
      · simp
      · split
        · simp
        · simp; omega
end Go.Proofs.Ytbnpdghfbiacaaa
