/- Plain laws on paths: covering is an order, comparing is an order. No program in sight. -/
import Derived.Test.YtfbajcgkcamnnaaDoorL2
import Derived.Test.YtfbajcgkcamnnaaDoorC
namespace Go.Proofs.YtfbajcgkcamnnaaDoor
open Go

theorem covers_some {p q : Bytes} (h : coversL p q = true) : ∃ X Y, path p = some X ∧ path q = some Y ∧ X <+: Y := by
  rw [covers_eq] at h
  unfold rcoversL at h
  cases hp : path p with
  | none => rw [hp] at h; cases h
  | some X =>
    cases hq : path q with
    | none => rw [hp, hq] at h; cases h
    | some Y => rw [hp, hq] at h; exact ⟨X, Y, rfl, rfl, List.isPrefixOf_iff_prefix.1 h⟩
theorem covers_mk {p q : Bytes} {X Y : List Bytes} (hp : path p = some X) (hq : path q = some Y) (h : X <+: Y) : coversL p q = true := by
  rw [covers_eq]; unfold rcoversL; rw [hp, hq]; exact List.isPrefixOf_iff_prefix.2 h
theorem path_inj {p q : Bytes} {X : List Bytes} (hp : path p = some X) (hq : path q = some X) : p = q := by
  rcases path_some hp with ⟨rfl, rfl⟩ | ⟨h1, rfl⟩
  · rcases path_some hq with ⟨rfl, _⟩ | ⟨h2, h⟩
    · rfl
    · exact absurd h.symm (segs_ne q)
  · rcases path_some hq with ⟨rfl, h⟩ | ⟨h2, h⟩
    · exact absurd h (segs_ne p)
    · exact segs_inj h
theorem covers_self (p : Bytes) : coversL p p = (path p).isSome := by
  rw [covers_eq]; unfold rcoversL
  cases path p <;> simp
theorem overlap_comm (p q : Bytes) : overlapL p q = overlapL q p := by unfold overlapL; rw [Bool.or_comm]
theorem covers_anti {p q : Bytes} (h : coversL p q = true) (k : coversL q p = true) : p = q := by
  obtain ⟨X, Y, hp, hq, h1⟩ := covers_some h
  obtain ⟨Y', X', hq', hp', h2⟩ := covers_some k
  rw [hp] at hp'; rw [hq] at hq'
  obtain rfl := Option.some.inj hp'; obtain rfl := Option.some.inj hq'
  have : X = Y := by
    have l1 := h1.length_le; have l2 := h2.length_le
    exact h1.eq_of_length (by omega)
  subst this
  exact path_inj hp hq
theorem covers_trans {p q r : Bytes} (h : coversL p q = true) (k : coversL q r = true) : coversL p r = true := by
  obtain ⟨X, Y, hp, hq, h1⟩ := covers_some h
  obtain ⟨Y', Z, hq', hr, h2⟩ := covers_some k
  rw [hq] at hq'; obtain rfl := Option.some.inj hq'
  exact covers_mk hp hr (h1.trans h2)
theorem covers_two {p q r : Bytes} (h : coversL p r = true) (k : coversL q r = true) : coversL p q = true ∨ coversL q p = true := by
  obtain ⟨X, Z, hp, hr, h1⟩ := covers_some h
  obtain ⟨Y, Z', hq, hr', h2⟩ := covers_some k
  rw [hr] at hr'; obtain rfl := Option.some.inj hr'
  rcases List.prefix_or_prefix_of_prefix h1 h2 with h | h
  · exact .inl (covers_mk hp hq h)
  · exact .inr (covers_mk hq hp h)
theorem covers_valid {p q : Bytes} (h : coversL p q = true) : (path p).isSome = true ∧ (path q).isSome = true := by
  obtain ⟨X, Y, hp, hq, _⟩ := covers_some h
  rw [hp, hq]; exact ⟨rfl, rfl⟩
theorem covers_depth {p q : Bytes} (h : coversL p q = true) : depthL p ≤ depthL q := by
  obtain ⟨X, Y, hp, hq, h1⟩ := covers_some h
  unfold depthL; rw [hp, hq]; have := h1.length_le; simp only; omega
theorem covers_depth' {p q : Bytes} (h : coversL q p = true) (hn : coversL p q = false) : ¬ depthL p ≤ depthL q := by
  obtain ⟨Y, X, hq, hp, h1⟩ := covers_some h
  unfold depthL; rw [hp, hq]; simp only
  intro hle
  have l1 := h1.length_le
  have : Y = X := h1.eq_of_length (by omega)
  subst this
  rw [covers_mk hp hq List.prefix_rfl] at hn; cases hn

theorem cmp_self : ∀ p : Bytes, Lib.compareBytes p p = 0
  | [] => rfl
  | a :: p => by
    have : ¬ a < a := fun h => by have := UInt8.lt_iff_toNat_lt.1 h; omega
    rw [Lib.compareBytes, if_neg this, if_neg this, cmp_self p]
theorem cmp_three : ∀ p q : Bytes, (Lib.compareBytes p q = 0 ∧ Lib.compareBytes q p = 0 ∧ p = q) ∨ (Lib.compareBytes p q = -1 ∧ Lib.compareBytes q p = 1 ∧ p ≠ q) ∨ (Lib.compareBytes p q = 1 ∧ Lib.compareBytes q p = -1 ∧ p ≠ q)
  | [], [] => .inl ⟨rfl, rfl, rfl⟩
  | [], b :: q => .inr (.inl ⟨rfl, rfl, by simp⟩)
  | a :: p, [] => .inr (.inr ⟨rfl, rfl, by simp⟩)
  | a :: p, b :: q => by
    unfold Lib.compareBytes
    rcases Nat.lt_trichotomy a.toNat b.toNat with h | h | h
    · have h1 : a < b := UInt8.lt_iff_toNat_lt.2 h
      have h2 : ¬ b < a := fun h => by have := UInt8.lt_iff_toNat_lt.1 h; omega
      rw [if_pos h1, if_neg h2, if_pos h1]
      exact .inr (.inl ⟨rfl, rfl, fun e => by injection e with e _; subst e; exact h2 h1⟩)
    · obtain rfl := UInt8.toNat_inj.1 h
      have h2 : ¬ a < a := fun h => by have := UInt8.lt_iff_toNat_lt.1 h; omega
      rw [if_neg h2, if_neg h2]
      rw [if_neg h2, if_neg h2]
      rcases cmp_three p q with ⟨h1, h2, rfl⟩ | ⟨h1, h2, h3⟩ | ⟨h1, h2, h3⟩
      · exact .inl ⟨h1, h2, rfl⟩
      · exact .inr (.inl ⟨h1, h2, fun e => h3 (by injection e)⟩)
      · exact .inr (.inr ⟨h1, h2, fun e => h3 (by injection e)⟩)
    · have h1 : b < a := UInt8.lt_iff_toNat_lt.2 h
      have h2 : ¬ a < b := fun h => by have := UInt8.lt_iff_toNat_lt.1 h; omega
      rw [if_neg h2, if_pos h1, if_pos h1]
      exact .inr (.inr ⟨rfl, rfl, fun e => by injection e with e _; subst e; exact h2 h1⟩)
theorem cmp_trans : ∀ p q r : Bytes, Lib.compareBytes p q ≤ 0 → Lib.compareBytes q r ≤ 0 → Lib.compareBytes p r ≤ 0
  | [], _, [], _, _ => by simp [Lib.compareBytes]
  | [], _, c :: r, _, _ => by simp [Lib.compareBytes]
  | a :: p, [], _, h, _ => by simp [Lib.compareBytes] at h
  | a :: p, b :: q, [], _, h => by simp [Lib.compareBytes] at h
  | a :: p, b :: q, c :: r, h, k => by
    unfold Lib.compareBytes at h k ⊢
    simp only [UInt8.lt_iff_toNat_lt] at h k ⊢
    by_cases h1 : a.toNat < b.toNat
    · by_cases k1 : b.toNat < c.toNat
      · rw [if_pos (by omega)]; omega
      · rw [if_neg k1] at k
        by_cases k2 : c.toNat < b.toNat
        · rw [if_pos k2] at k; omega
        · rw [if_pos (by omega)]; omega
    · rw [if_neg h1] at h
      by_cases h2 : b.toNat < a.toNat
      · rw [if_pos h2] at h; omega
      · rw [if_neg h2] at h
        by_cases k1 : b.toNat < c.toNat
        · rw [if_pos (by omega)]; omega
        · rw [if_neg k1] at k
          by_cases k2 : c.toNat < b.toNat
          · rw [if_pos k2] at k; omega
          · rw [if_neg k2] at k
            rw [if_neg (by omega), if_neg (by omega)]
            exact cmp_trans p q r h k
theorem cmp_prefix : ∀ p s : Bytes, Lib.compareBytes p (p ++ s) ≤ 0
  | [], [] => by simp [Lib.compareBytes]
  | [], c :: s => by simp [Lib.compareBytes]
  | a :: p, s => by
    have h2 : ¬ a < a := fun h => by have := UInt8.lt_iff_toNat_lt.1 h; omega
    rw [List.cons_append, Lib.compareBytes, if_neg h2, if_neg h2]
    exact cmp_prefix p s
theorem covers_cmp {p q : Bytes} (h : coversL p q = true) : Lib.compareBytes p q ≤ 0 := by
  unfold coversL at h
  simp only [Bool.and_eq_true, Bool.or_eq_true] at h
  rcases h.2 with (h | h) | h
  · cases p with
    | nil => cases q <;> simp [Lib.compareBytes]
    | cons a r => simp at h
  · have : p = q := by simpa using h
    subst this; rw [cmp_self]; omega
  · obtain ⟨s, rfl⟩ := List.isPrefixOf_iff_prefix.1 h
    rw [List.append_assoc]; exact cmp_prefix p _
theorem covers_cmp_lt {p q : Bytes} (h : coversL p q = true) (hne : p ≠ q) : Lib.compareBytes p q = -1 := by
  have := covers_cmp h
  rcases cmp_three p q with ⟨_, _, e⟩ | ⟨h1, _, _⟩ | ⟨h1, _, _⟩
  · exact absurd e hne
  · exact h1
  · omega

/-- a path's pieces joined -/
theorem path_all {p : Bytes} {X : List Bytes} (h : path p = some X) : X.all segB = true ∧ X.length ≤ 4 ∧ Lib.join X [47] = p := by
  unfold path at h
  split at h
  · rename_i e; subst e; obtain rfl := Option.some.inj h; exact ⟨rfl, by simp, by simp [Lib.join, List.intercalate]⟩
  · split at h
    · rename_i e
      obtain rfl := Option.some.inj h
      simp only [Bool.and_eq_true, decide_eq_true_eq] at e
      exact ⟨e.1, e.2, join_segs p⟩
    · cases h
theorem join_path {p : Bytes} {X : List Bytes} (h : path p = some X) : joinL X = some p := by
  obtain ⟨h1, h2, h3⟩ := path_all h
  unfold joinL; rw [if_pos ⟨h2, h1⟩, h3]
theorem path_join {X : List Bytes} {p : Bytes} (h : joinL X = some p) : path p = some X := by
  unfold joinL at h
  split at h
  · rename_i e
    obtain rfl := Option.some.inj h
    by_cases h0 : X = []
    · subst h0; simp [Lib.join, List.intercalate, path]
    · have hs := segs_join X h0 e.2
      unfold path
      have hne : Lib.join X [47] ≠ [] := by
        intro e0
        have h1 : segs (Lib.join X [47]) = [[]] := by rw [e0]; rfl
        rw [hs] at h1
        subst h1
        simp [segB] at e
      rw [if_neg hne, hs, e.2]
      simp [e.1]
  · cases h
/-- a path with one more piece -/
theorem more_covers {p r : Bytes} {X : List Bytes} {m : Bytes} (hp : path p = some X) (hr : joinL (X ++ [m]) = some r) : coversL p r = true ∧ coversL r p = false ∧ depthL r = X.length + 1 ∧ Lib.compareBytes p r = -1 := by
  have hr' := path_join hr
  have h1 : coversL p r = true := covers_mk hp hr' ⟨[m], rfl⟩
  have hne : p ≠ r := by
    intro e; subst e; rw [hp] at hr'
    have := congrArg List.length (Option.some.inj hr'); simp at this
  refine ⟨h1, ?_, ?_, covers_cmp_lt h1 hne⟩
  · rw [Bool.eq_false_iff]; intro h2; exact hne (covers_anti h1 h2)
  · unfold depthL; rw [hr']; simp
end Go.Proofs.YtfbajcgkcamnnaaDoor
