/- Contracts at a known answer, for the laws of three lists. No condition beyond what each theorem states. -/
import Derived.Test.YtfbogdeodpkhcaaDoorStL
namespace Go.Proofs.YtfbogdeodpkhcaaDoor
open Go Go.RowKit Go.PlainAid
theorem underS_at (v u : Value) (L M : List Int) (b : Bool) (h : underS L M = b) (w : World) (hv : ArgInts w v L) (hu : ArgInts w u M) (hl : L.length ≤ maxLen) (hm : M.length ≤ maxLen) :
    Calls Tryd.prog 19 #[v, u] w fun e w' => e = .returned (.bool b) ∧ Kp No w w' := by rw [← h]; exact underS_any v u L M w hv hu hl hm
theorem compareS_at (v u : Value) (L M : List Int) (n : Int) (h : cmpS L M = n) (w : World) (hv : ArgInts w v L) (hu : ArgInts w u M) (hl : L.length ≤ maxLen) (hm : M.length ≤ maxLen) :
    Calls Tryd.prog 17 #[v, u] w fun e w' => e = .returned (.int .i64 n) ∧ Kp No w w' := by rw [← h]; exact compareS_any v u L M w hv hu hl hm
theorem sameS_at (v u : Value) (L M : List Int) (b : Bool) (h : decide (L = M) = b) (w : World) (hv : ArgInts w v L) (hu : ArgInts w u M) (hl : L.length ≤ maxLen) :
    Calls Tryd.prog 21 #[v, u] w fun e w' => e = .returned (.bool b) ∧ Kp No w w' := by rw [← h]; exact sameS_any v u L M w hv hu hl
theorem validS_at (v : Value) (L : List Int) (b : Bool) (h : validS L = b) (w : World) (hv : ArgInts w v L) (hl : L.length ≤ maxLen) :
    Calls Tryd.prog 14 #[v] w fun e w' => e = .returned (.bool b) ∧ w = w' := by rw [← h]; exact validS_any v L w hv hl
theorem laterS_at (v u : Value) (L M : List Int) (N : List Int) (h : laterS L M = N) (w : World) (hv : ArgInts w v L) (hu : ArgInts w u M) (hl : L.length ≤ 17592186044416) (hm : M.length ≤ 17592186044416) :
    Calls Tryd.prog 22 #[v, u] w fun e w' => ∃ r, e = .returned r ∧ OwnI w w' r N ∧ Kp No w w' := by rw [← h]; exact laterS_any v u L M w hv hu hl hm
theorem extS_at (v : Value) (L : List Int) (n : Int) (M : List Int) (c : Int) (h : extS L n = (M, c)) (w : World) (hv : ArgInts w v L) (hl : L.length ≤ maxLen) :
    Calls Tryd.prog 11 #[v, .int .i64 n] w fun e w' => ∃ r, e = .returned (.tuple #[r, .int .i64 c]) ∧ OwnI w w' r M ∧ Kp No w w' := by
  have := extS_any v L n w hv hl
  rwa [h] at this
theorem nextS_at (v : Value) (L : List Int) (M : List Int) (c : Int) (h : nextS L = (M, c)) (w : World) (hv : ArgInts w v L) (hl : L.length ≤ maxLen) :
    Calls Tryd.prog 12 #[v] w fun e w' => ∃ r, e = .returned (.tuple #[r, .int .i64 c]) ∧ OwnI w w' r M ∧ Kp No w w' := by
  have := nextS_any v L w hv hl
  rwa [h] at this
end Go.Proofs.YtfbogdeodpkhcaaDoor
namespace Go.Proofs.YtfbogdeodpkhcaaDoor
open Go Go.RowKit
theorem grow_ext2 {L : List Int} {n : Int} {X : List Int} {e : Int} (h : extS L n = (X, e)) :
    (X = [] ∧ e ≠ 0 ∧ ((e = 13 ∧ validS L = false) ∨ (e = 14 ∧ L.length = 4) ∨ (e = 66 ∧ n < 1) ∨ (e = 66 ∧ 1 ≤ n ∧ 1099511627776 < n))) ∨
    (X = L ++ [n] ∧ e = 0 ∧ validS (L ++ [n]) = true ∧ underS L (L ++ [n]) = true ∧ cmpS L (L ++ [n]) = -1 ∧ L.length ≤ 3) := by
  rcases grow_ext L n with ⟨e', h1, h2, h3⟩ | ⟨h1, h2, h3, h4, h5⟩
  · rw [h] at h1; injection h1 with h1 h1'
    subst h1 h1'
    refine .inl ⟨rfl, h2, ?_⟩
    rcases h3 with h3 | h3 | ⟨h3, h4⟩
    · exact .inl h3
    · exact .inr (.inl h3)
    · by_cases h5 : n < 1
      · exact .inr (.inr (.inl ⟨h3, h5⟩))
      · exact .inr (.inr (.inr ⟨h3, by omega, by omega⟩))
  · rw [h] at h1; injection h1 with h1 h1'
    exact .inr ⟨h1, h1', h2, h3, h4, h5⟩
theorem grow_next2 {L : List Int} {M : List Int} {g : Int} (h : nextS L = (M, g)) :
    (M = [] ∧ g ≠ 0) ∨ (g = 0 ∧ M.length = L.length ∧ cmpS L M = -1 ∧ underS L M = false ∧ ∀ n, cmpS (L ++ [n]) M = -1) := by
  rcases grow_next L with ⟨e', h1, h2⟩ | ⟨M', h1, h2⟩
  · rw [h] at h1; injection h1 with h1 h1'
    subst h1 h1'
    exact .inl ⟨rfl, h2⟩
  · rw [h] at h1; injection h1 with h1 h1'
    subst h1 h1'
    exact .inr ⟨rfl, h2⟩
theorem arg_cell {w : World} {g o n c j : Nat} {L : List Int} {x : Int} (h : ArgInts w (.slice (some ⟨g, o, none⟩) n c) L) (hx : L[j]? = some x) : w.cell? ⟨g, o + j, none⟩ = some (.int .i64 x) := by
  have hj : j < L.length := by
    rcases Nat.lt_or_ge j L.length with h' | h'
    · exact h'
    · rw [List.getElem?_eq_none h'] at hx; cases hx
  obtain ⟨g', o', c', e, hc⟩ := h.at_ hj
  injection e with e _ _
  injection e with e
  injection e with e1 e2
  subst e1 e2
  exact hc j x hx
end Go.Proofs.YtfbogdeodpkhcaaDoor
