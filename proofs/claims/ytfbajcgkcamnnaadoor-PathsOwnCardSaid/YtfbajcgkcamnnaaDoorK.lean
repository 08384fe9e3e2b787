/- Small lemmas for the laws: an empty list made by the call; the program's Covers, Overlap and Meet in the reference's words. No condition beyond what each theorem states. -/
import Derived.Test.YtfbajcgkcamnnaaDoorJ
namespace Go.Proofs.YtfbajcgkcamnnaaDoor
open Go Go.RowKit Go.PlainAid

theorem ArgStrs.cs {w : World} {A : Option Addr} {n c : Nat} {L : List ByteArray} (h : ArgStrs w (.slice A n c) L) : Cs w A (L.map Value.string) := by
  obtain ⟨A', c', e, _, h⟩ := h
  injection e with e
  subst e
  exact h
theorem own_fresh (w : World) (base : Nat) (e : TypeId) (hb : base ≤ w.heap.size) : (w.alloc (.cells #[] e)).ownsRow base e 1 (.slice (some ⟨w.heap.size, 0, none⟩) 0 0) 0 [] := by
  refine ⟨rfl, .inr ⟨w.heap.size, 0, #[], rfl, hb, heap_alloc_new w _, ?_, ?_, ?_, ?_⟩⟩ <;> simp

theorem covers_len {p q : Bytes} (h : rcoversL p q = true) : p = q ∨ p.length < q.length := by
  rw [← covers_eq] at h
  unfold coversL at h
  simp only [Bool.and_eq_true, Bool.or_eq_true] at h
  rcases h.2 with (h | h) | h
  · cases p with
    | nil => cases q; left; rfl; right; simp
    | cons a r => simp at h
  · left; simpa using h
  · right
    have := (List.isPrefixOf_iff_prefix.1 h).length_le
    simp at this; omega
theorem meet_same (s t : ByteArray) : meetB s t = rmeetB s t := by
  have ls : s.data.toList.length = s.size := by simp
  have lt : t.data.toList.length = t.size := by simp
  unfold meetB rmeetB overlapL
  rw [covers_eq, covers_eq]
  cases h1 : rcoversL s.data.toList t.data.toList with
  | true =>
    simp only [Bool.true_or, if_true]
    rcases covers_len h1 with h | h
    · obtain rfl := str_inj h; simp
    · rw [if_neg (by omega)]
  | false =>
    cases h2 : rcoversL t.data.toList s.data.toList with
    | true =>
      simp only [Bool.or_true, if_true, Bool.false_eq_true, if_false]
      rcases covers_len h2 with h | h
      · obtain rfl := str_inj h; rw [h1] at h2; cases h2
      · rw [if_pos (by omega)]
    | false => simp
theorem overlap_same (p q : Bytes) : overlapL p q = roverlapL p q := by unfold overlapL roverlapL; rw [covers_eq, covers_eq]
theorem covers_eq_any (s t : ByteArray) (w : World) (hs : s.size ≤ maxLen) (ht : t.size ≤ maxLen) :
    Calls Tryd.prog 23 #[.string s, .string t] w fun e w' => e = .returned (.bool (rcoversL s.data.toList t.data.toList)) ∧ w' = w := by
  rw [← covers_eq]; exact covers_any s t w hs ht
theorem overlap_eq (s t : ByteArray) (w : World) (hs : s.size ≤ maxLen) (ht : t.size ≤ maxLen) :
    Calls Tryd.prog 25 #[.string s, .string t] w fun e w' => e = .returned (.bool (roverlapL s.data.toList t.data.toList)) ∧ w' = w := by
  rw [← overlap_same]; exact overlap_any s t w hs ht
theorem meet_eq (s t : ByteArray) (w : World) (hs : s.size ≤ maxLen) (ht : t.size ≤ maxLen) :
    Calls Tryd.prog 21 #[.string s, .string t] w fun e w' => e = .returned (.tuple #[.string (rmeetB s t), .bool (roverlapL s.data.toList t.data.toList)]) ∧ w' = w := by
  rw [← overlap_same, ← meet_same]; exact meet_any s t w hs ht
end Go.Proofs.YtfbajcgkcamnnaaDoor
