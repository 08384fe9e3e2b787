/- Plain laws on paths: covering by pieces. No program in sight. -/
import Derived.Test.YtfbajcgkcamnnaaDoorB
namespace Go.Proofs.YtfbajcgkcamnnaaDoor
open Go

/-- covering, by the reference -/
def rcoversL (p q : Bytes) : Bool := match path p, path q with | some x, some y => x.isPrefixOf y | _, _ => false

theorem segs_app : ∀ (p r : Bytes), segs (p ++ 47 :: r) = segs p ++ segs r
  | [], r => by simp [segs]
  | c :: p, r => by
    rw [List.cons_append, segs, segs]
    have ih := segs_app p r
    by_cases hc : c.toNat = 47
    · rw [if_pos hc, if_pos hc, ih]; rfl
    · rw [if_neg hc, if_neg hc, ih]
      cases hs : segs p with
      | nil => exact absurd hs (segs_ne p)
      | cons x t => rfl
theorem join_app : ∀ (A B : List Bytes), A ≠ [] → B ≠ [] → Lib.join (A ++ B) [47] = Lib.join A [47] ++ 47 :: Lib.join B [47]
  | [], _, h, _ => absurd rfl h
  | [x], [], _, h => absurd rfl h
  | [x], y :: t, _, _ => by simp [Lib.join, List.intercalate]
  | x :: y :: t, B, _, hB => by
    have ih := join_app (y :: t) B (by simp) hB
    have e : ∀ (a b : Bytes) (l : List Bytes), Lib.join (a :: b :: l) [47] = a ++ 47 :: Lib.join (b :: l) [47] := by intro a b l; simp [Lib.join, List.intercalate]
    rw [List.cons_append, List.cons_append, e, e, ← List.cons_append, ih]; simp
theorem segs_inj {p q : Bytes} (h : segs p = segs q) : p = q := by rw [← join_segs p, ← join_segs q, h]
theorem path_some {p : Bytes} {X : List Bytes} (h : path p = some X) : (p = [] ∧ X = []) ∨ (p ≠ [] ∧ X = segs p) := by
  unfold path at h
  split at h
  · rename_i e; exact .inl ⟨e, (Option.some.inj h).symm⟩
  · rename_i e
    split at h
    · exact .inr ⟨e, (Option.some.inj h).symm⟩
    · cases h
theorem segs_prefix (p q : Bytes) : segs p <+: segs q ↔ p = q ∨ (p ++ [47]) <+: q := by
  constructor
  · rintro ⟨R, hR⟩
    by_cases h0 : R = []
    · subst h0; left; rw [List.append_nil] at hR; exact segs_inj hR
    · right
      refine ⟨Lib.join R [47], ?_⟩
      rw [← join_segs q, ← hR, join_app _ _ (segs_ne p) h0, join_segs]; simp
  · rintro (rfl | ⟨r, rfl⟩)
    · exact List.prefix_rfl
    · rw [List.append_assoc]; exact ⟨segs r, (segs_app p r).symm⟩
theorem covers_eq (p q : Bytes) : coversL p q = rcoversL p q := by
  unfold coversL rcoversL
  cases hp : path p with
  | none => simp
  | some X =>
    cases hq : path q with
    | none => simp
    | some Y =>
      simp only [Option.isSome_some, Bool.true_and]
      rcases path_some hp with ⟨rfl, rfl⟩ | ⟨h1, rfl⟩
      · simp
      · have e1 : p.isEmpty = false := by cases p; exact absurd rfl h1; rfl
        rw [e1, Bool.false_or, Bool.eq_iff_iff]
        rcases path_some hq with ⟨rfl, rfl⟩ | ⟨h2, rfl⟩
        · have : segs p ≠ [] := segs_ne p
          cases hs : segs p with
          | nil => exact absurd hs this
          | cons a t => cases p; exact absurd rfl h1; simp
        · rw [List.isPrefixOf_iff_prefix, segs_prefix]; simp
end Go.Proofs.YtfbajcgkcamnnaaDoor
