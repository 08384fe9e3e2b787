/- The program's Write, Read and New as functions of a disk's state. No condition beyond what each theorem states. -/
import Derived.Test.YtaohaofjbgghgaaE
namespace Go.Proofs.Ytaohaofjbgghgaa
open Go.RowKit

/-- a disk's state -/
structure St where
  L : List (List UInt8)
  wr : Int
  ar : Bool
  lf : Int
  off : Bool
/-- it may be: what every call keeps -/
structure St.Ok (s : St) : Prop where
  w0 : 0 ≤ s.wr
  l0 : s.ar = true → 0 ≤ s.lf
  l1 : s.lf < 9223372036854775808
def St.fault (s : St) (i : Int) : Int := faultN s.off i s.L.length
def St.wrRes (s : St) (i : Int) (l : List UInt8) : Int :=
  if s.fault i ≠ 0 then s.fault i else if l.length ≠ 64 then 2 else if s.ar = true ∧ s.lf = 0 then 40 else 0
def St.wrNext (s : St) (i : Int) (l : List UInt8) : St :=
  if s.fault i ≠ 0 then s else if l.length ≠ 64 then s else if s.ar = true ∧ s.lf = 0 then { s with ar := false, off := true }
  else { s with L := s.L.set i.toNat l, wr := s.wr + 1, lf := if s.ar then s.lf - 1 else s.lf }
/-- the disk d with the state s, in the blocks b and sb -/
def DkS (w : World) (b sb cap : Nat) (s : St) : Prop := Dk w b sb cap s.L s.wr s.ar s.lf s.off
def Two (b c : Nat) : Nat → Prop := fun k => k = b ∨ k = c

theorem DkS.no {w w' : World} {b sb cap : Nat} {s : St} (h : DkS w b sb cap s) (hk : Kp No w w') : DkS w' b sb cap s :=
  ⟨h.st.no hk, h.se.elim fun sp hs => ⟨sp, hs.no hk⟩, h.le, h.n1, h.n2⟩
theorem DkS.kp {w w' : World} {b sb cap : Nat} {s : St} {M : Nat → Prop} (h : DkS w b sb cap s) (hk : Kp M w w') (hM : ∀ g cs, (Bk w g 58 cs ∨ Bk w g 61 cs) → ¬ M g) : DkS w' b sb cap s :=
  ⟨h.st.kp hk (hM _ _ (.inl h.st)), h.se.elim fun sp hs => ⟨sp, hs.kp hk (hM _ _ (.inr hs))⟩, h.le, h.n1, h.n2⟩

theorem arg_form {w : World} {x : Value} {l : List UInt8} (h : ArgBytes w x l) : ∃ A c, x = .slice A l.length c ∧ Cs w A (u8s l) := h

theorem write_all (b sb cap : Nat) (i : Int) (x : Value) (l : List UInt8) (w : World) (s : St) (h : DkS w b sb cap s) (ok : s.Ok) (hw : s.wr < 4611686018427387904) (hx : ArgBytes w x l)
    (hg : ∀ g o c, x = .slice (some ⟨g, o, none⟩) l.length c → g ≠ sb ∧ g ≠ b) :
    Calls Try.prog 19 #[.pointer (some ⟨b, 0, none⟩), .int .i64 i, x] w fun e w' => e = .returned (.int .i64 (s.wrRes i l)) ∧ DkS w' b sb cap (s.wrNext i l) ∧ Kp (Two b sb) w w' := by
  obtain ⟨A, c, rfl, hx⟩ := hx
  obtain ⟨L, wr, ar, lf, off⟩ := s
  have hst := h.st
  by_cases hf : St.fault ⟨L, wr, ar, lf, off⟩ i ≠ 0
  · refine (write_fault b i _ w _ _ _ wr ar lf off hst hf).mono ?_
    rintro e w' ⟨rfl, rfl⟩
    simp only [St.wrRes, St.wrNext, if_pos hf]
    exact ⟨rfl, h, Kp.refl _ _⟩
  replace hf := Decidable.not_not.1 hf
  have hoff : off = false := by
    rcases off with _ | _
    · rfl
    · simp [St.fault, faultN] at hf
  subst hoff
  have hi : 0 ≤ i ∧ i < L.length := by
    simp only [St.fault, faultN, Bool.false_eq_true, if_false] at hf
    by_cases hc : 0 ≤ i ∧ i < L.length
    · exact hc
    · rw [if_neg hc] at hf; omega
  by_cases h64 : l.length ≠ 64
  · refine (write_short b i A l.length c w _ _ _ wr ar lf false hst hf h64).mono ?_
    rintro e w' ⟨rfl, rfl⟩
    simp only [St.wrRes, St.wrNext, hf, ne_eq, not_true_eq_false, if_false, if_pos h64]
    exact ⟨trivial, h, Kp.refl _ _⟩
  replace h64 := Decidable.not_not.1 h64
  obtain ⟨n, rfl⟩ := Int.eq_ofNat_of_zero_le hi.1
  have hn : n < L.length := by omega
  by_cases hc : ar = true ∧ lf = 0
  · obtain ⟨rfl, rfl⟩ := hc
    rw [h64]
    refine (write_cut b n A c w _ _ _ wr hst hf).mono ?_
    rintro e w' ⟨rfl, hb, hk⟩
    simp only [St.wrRes, St.wrNext, hf, h64, ne_eq, not_true_eq_false, if_false, and_self, if_true]
    refine ⟨trivial, ⟨hb, ?_, h.le, h.n1, h.n2⟩, hk.mono fun k _ m => .inl m⟩
    obtain ⟨sp, hs⟩ := h.se
    exact ⟨sp, hs.kp hk fun m => hst.ne_ hs (by decide) m.symm⟩
  · obtain ⟨g, o, rfl, hr⟩ := hx (by intro e; have := u8s_length l; rw [e] at this; simp at this; omega)
    obtain ⟨hg1, hg2⟩ := hg g o c rfl
    have e1 : St.wrRes ⟨L, wr, ar, lf, false⟩ n l = 0 := by simp only [St.wrRes, hf, h64, ne_eq, not_true_eq_false, if_false, if_neg hc]
    have e2 : St.wrNext ⟨L, wr, ar, lf, false⟩ n l = ⟨L.set n l, wr + 1, ar, if ar then lf - 1 else lf, false⟩ := by
      simp only [St.wrNext, hf, h64, ne_eq, not_true_eq_false, if_false, if_neg hc, Int.toNat_natCast]
    rw [e1, e2, h64]
    rcases ar with _ | _
    · exact (write_free b sb cap n g o c l w L wr lf h hn h64 hr hg1 ok.w0 hw).mono fun e w' hh => hh
    · have hl0 := ok.l0 rfl
      have hl1 := ok.l1
      simp only at hl0 hl1
      exact (write_armed b sb cap n g o c l w L wr lf h (by have : lf ≠ 0 := fun e => hc ⟨rfl, e⟩; omega) hl1 hn h64 hr hg1 hg2 ok.w0 hw).mono fun e w' hh => hh

theorem St.Ok.next {s : St} (ok : s.Ok) (i : Int) (l : List UInt8) : (s.wrNext i l).Ok := by
  unfold St.wrNext
  split
  · exact ok
  split
  · exact ok
  split
  · exact ⟨ok.w0, by simp, ok.l1⟩
  · rename_i hc
    refine ⟨by have := ok.w0; simp; omega, ?_, ?_⟩
    · intro ha
      simp only at ha
      have := ok.l0 ha
      simp only [ha, if_true]
      have : s.lf ≠ 0 := fun e => hc ⟨ha, e⟩
      omega
    · simp only
      have := ok.l1
      split <;> omega

def St.rdRes (s : St) (i : Int) : Int := s.fault i
/-- Read: nothing, or a fresh copy -/
theorem read_all (b sb cap : Nat) (i : Int) (w : World) (s : St) (h : DkS w b sb cap s) :
    Calls Try.prog 11 #[.pointer (some ⟨b, 0, none⟩), .int .i64 i] w fun e w' => ∃ x, e = .returned (.tuple #[x, .int .i64 (s.fault i)]) ∧ Kp No w w' ∧
      (s.fault i ≠ 0 → x = .slice Option.none 0 0) ∧ (s.fault i = 0 → ∃ hi : i.toNat < s.L.length, 0 ≤ i ∧ ∃ g, x = .slice (some ⟨g, 0, none⟩) 64 64 ∧ w.heap.size ≤ g ∧ Bk w' g 61 (u8s s.L[i.toNat])) := by
  obtain ⟨L, wr, ar, lf, off⟩ := s
  by_cases hf : St.fault ⟨L, wr, ar, lf, off⟩ i ≠ 0
  · refine (read_fault b i w _ _ _ wr ar lf off h.st hf).mono ?_
    rintro e w' ⟨rfl, rfl⟩
    exact ⟨_, rfl, Kp.refl _ _, fun _ => rfl, fun e => absurd e hf⟩
  replace hf := Decidable.not_not.1 hf
  have hoff : off = false := by
    rcases off with _ | _
    · rfl
    · simp [St.fault, faultN] at hf
  subst hoff
  have hi : 0 ≤ i ∧ i < L.length := by
    simp only [St.fault, faultN, Bool.false_eq_true, if_false] at hf
    by_cases hc : 0 ≤ i ∧ i < L.length
    · exact hc
    · rw [if_neg hc] at hf; omega
  obtain ⟨n, rfl⟩ := Int.eq_ofNat_of_zero_le hi.1
  have hn : n < L.length := by omega
  refine (read_any b sb cap n w L wr ar lf h hn).mono ?_
  rintro e w' ⟨g, rfl, hb, hg, hk⟩
  refine ⟨_, by rw [hf], hk, fun e => absurd hf e, fun _ => ⟨by simpa using hn, hi.1, g, rfl, hg, by simpa using hb⟩⟩

/-- New -/
def St.new (n : Nat) : St := ⟨List.replicate n zeroB, 0, false, 0, false⟩
theorem new_all (n : Int) (h1 : 1 ≤ n) (h2 : n ≤ 512) (w : World) :
    Calls Try.prog 9 #[.int .i64 n] w fun e w' => ∃ b sb, e = .returned (.tuple #[.pointer (some ⟨b, 0, none⟩), .int .i64 0]) ∧ DkS w' b sb n.toNat (St.new n.toNat) ∧ w.heap.size ≤ b ∧ w.heap.size ≤ sb ∧ Kp No w w' := by
  obtain ⟨m, rfl⟩ := Int.eq_ofNat_of_zero_le (by omega : 0 ≤ n)
  refine (new_yes m (by omega) (by omega) w).mono ?_
  rintro e w' ⟨b, sb, rfl, hb, hs, g1, g2, _, hk⟩
  simp only [Int.toNat_natCast]
  have hz : List.replicate (m * 64) (Value.int .u8 0) = secC (List.replicate m zeroB) := by
    unfold secC
    clear hb hs h1 h2
    induction m with
    | zero => rfl
    | succ m ih =>
      rw [List.replicate_succ, List.flatten_cons, u8s, List.map_append, ← u8s, ← u8s, ← ih, u8s_zero, List.replicate_append_replicate]
      congr 1; omega
  refine ⟨b, sb, rfl, ⟨?_, ⟨[], ?_⟩, ?_, ?_, ?_⟩, g1, g2, hk⟩
  · simpa [St.new] using hb
  · rw [List.append_nil]; simp only [St.new]; rw [← hz]; exact hs
  · intro l hl; simp [St.new, List.mem_replicate] at hl; rw [hl.2]; decide
  · simp [St.new]; omega
  · simp [St.new]; omega
end Go.Proofs.Ytaohaofjbgghgaa
