/- Several texts of this claim in one. No condition beyond what each theorem states. -/
import Derived.Test.YtkiaclldjofdoaaGreatB04
import Derived.Test.YtkiaclldjofdoaaGreatB27
import Derived.Test.YtkiaclldjofdoaaGreatB28
import Derived.Test.YtkiaclldjofdoaaGreatB29
import Derived.Test.YtkiaclldjofdoaaGreatB30
/- The document's used by contract, by ways. No condition beyond what each theorem states. -/
namespace Go.Proofs.YtkiaclldjofdoaaGreat
open Go Go.RowKit Go.PlainAid

set_option maxRecDepth 100000 in
set_option maxHeartbeats 4000000 in
theorem used_op (x1 : Int) (x2 : Int) (x3 : Int) (x4 : Int) (x5 : Int) (x6 : Int) (x7 : List UInt8) (x8 : Int) (x9 : Int) (x10 : Int) (x11 : Bool) (x12 : Int) (x13 : List Int) (x14 : Int) (x15 : Int) (A : Option Addr) (c : Nat) (w : World) :
    Calls Tryz.prog 42 #[.agg (mcells (⟨5, x1, x2, x3, x4, x5, x6, x7, x8, x9, x10, x11, x12, x13, x14, x15⟩ : Msg) (.slice A x13.length c)).toArray] w fun e w' => e = .returned (.agg (mcells (⟨5, x1, x2, 0, 0, 0, 0, x7, x8, 0, 0, false, 0, x13, 0, 0⟩ : Msg) (.slice A x13.length c)).toArray) ∧ Kp No w w' := by
  simp only [mcells]
  go_enter Tryz.func42, Tryz.ntmps42
  go_wp2
  refine bodyPost_ret (v := .agg (mcells (⟨5, x1, x2, 0, 0, 0, 0, x7, x8, 0, 0, false, 0, x13, 0, 0⟩ : Msg) (.slice A x13.length c)).toArray) (by simp [results, Tryz.results42, go_sem, mcells]) rfl ?_
  exact ⟨rfl, (((Kp.refl No w).alloc _).alloc _).alloc _⟩
end Go.Proofs.YtkiaclldjofdoaaGreat

/- The document's used by contract, by ways. No condition beyond what each theorem states. -/
namespace Go.Proofs.YtkiaclldjofdoaaGreat
open Go Go.RowKit Go.PlainAid

set_option maxRecDepth 100000 in
set_option maxHeartbeats 4000000 in
theorem used_oth (x0 : Int) (x1 : Int) (x2 : Int) (x3 : Int) (x4 : Int) (x5 : Int) (x6 : Int) (x7 : List UInt8) (x8 : Int) (x9 : Int) (x10 : Int) (x11 : Bool) (x12 : Int) (x13 : List Int) (x14 : Int) (x15 : Int) (h0 : x0 ≠ 1) (h1 : x0 ≠ 2) (h2 : x0 ≠ 3) (h3 : x0 ≠ 4) (h4 : x0 ≠ 5) (A : Option Addr) (c : Nat) (w : World) :
    Calls Tryz.prog 42 #[.agg (mcells (⟨x0, x1, x2, x3, x4, x5, x6, x7, x8, x9, x10, x11, x12, x13, x14, x15⟩ : Msg) (.slice A x13.length c)).toArray] w fun e w' => e = .returned (.agg (mcells (⟨x0, x1, x2, 0, 0, 0, 0, [], 0, 0, 0, false, 0, [], 0, 0⟩ : Msg) (.slice none 0 0)).toArray) ∧ Kp No w w' := by
  have d0 : (x0 == 1) = false := by rw [beq_eq_false_iff_ne]; exact h0
  have d1 : (x0 == 2) = false := by rw [beq_eq_false_iff_ne]; exact h1
  have d2 : (x0 == 3) = false := by rw [beq_eq_false_iff_ne]; exact h2
  have d3 : (x0 == 4) = false := by rw [beq_eq_false_iff_ne]; exact h3
  have d4 : (x0 == 5) = false := by rw [beq_eq_false_iff_ne]; exact h4
  clear h0 h1 h2 h3 h4
  simp only [mcells]
  go_enter Tryz.func42, Tryz.ntmps42
  go_wp2
  refine bodyPost_ret (v := .agg (mcells (⟨x0, x1, x2, 0, 0, 0, 0, [], 0, 0, 0, false, 0, [], 0, 0⟩ : Msg) (.slice none 0 0)).toArray) (by simp [results, Tryz.results42, go_sem, mcells]) rfl ?_
  exact ⟨rfl, (((Kp.refl No w).alloc _).alloc _).alloc _⟩
end Go.Proofs.YtkiaclldjofdoaaGreat

/- The document's used by contract, by ways. No condition beyond what each theorem states. -/
namespace Go.Proofs.YtkiaclldjofdoaaGreat
open Go Go.RowKit Go.PlainAid

/-- the list that stays in what a message's kind uses -/
def usedV (m : Msg) (sv : Value) : Value := if m.kind = 2 ∧ m.code = 0 ∨ m.kind = 5 then sv else .slice none 0 0
theorem usedV_arg {w : World} {m : Msg} {A : Option Addr} {c : Nat} (h : ArgInts w (.slice A m.stamp.length c) m.stamp) : ∃ A2 c2, usedV m (.slice A m.stamp.length c) = .slice A2 (usedS m).stamp.length c2 ∧ ArgInts w (.slice A2 (usedS m).stamp.length c2) (usedS m).stamp ∧ (usedS m).stamp.length ≤ m.stamp.length := by
  have z : ArgInts w (.slice none 0 0) [] := (SlI.nil w none 0).arg
  obtain ⟨x0, x1, x2, x3, x4, x5, x6, x7, x8, x9, x10, x11, x12, x13, x14, x15⟩ := m
  simp only at h
  by_cases k1 : x0 = 1
  · subst k1; exact ⟨none, 0, by simp [usedV, usedS], by simpa [usedS] using z, by simp [usedS]⟩
  by_cases k2 : x0 = 2
  · subst k2
    by_cases c0 : x12 = 0
    · subst c0; exact ⟨A, c, by simp [usedV, usedS], by simpa [usedS] using h, by simp [usedS]⟩
    · exact ⟨none, 0, by simp [usedV, usedS, c0], by simpa [usedS, c0] using z, by simp [usedS, c0]⟩
  by_cases k5 : x0 = 5
  · subst k5; exact ⟨A, c, by simp [usedV, usedS], by simpa [usedS] using h, by simp [usedS]⟩
  by_cases k3 : x0 = 3
  · subst k3; exact ⟨none, 0, by simp [usedV, usedS], by simpa [usedS] using z, by simp [usedS]⟩
  by_cases k4 : x0 = 4
  · subst k4; exact ⟨none, 0, by simp [usedV, usedS], by simpa [usedS] using z, by simp [usedS]⟩
  exact ⟨none, 0, by simp [usedV, usedS, k1, k2, k3, k4, k5], by simpa [usedS, k1, k2, k3, k4, k5] using z, by simp [usedS, k1, k2, k3, k4, k5]⟩
set_option maxRecDepth 100000 in
set_option maxHeartbeats 4000000 in
theorem used_any (m : Msg) (A : Option Addr) (c : Nat) (w : World) :
    Calls Tryz.prog 42 #[.agg (mcells m (.slice A m.stamp.length c)).toArray] w fun e w' => e = .returned (.agg (mcells (usedS m) (usedV m (.slice A m.stamp.length c))).toArray) ∧ Kp No w w' := by
  obtain ⟨x0, x1, x2, x3, x4, x5, x6, x7, x8, x9, x10, x11, x12, x13, x14, x15⟩ := m
  by_cases k1 : x0 = 1
  · subst k1
    by_cases v1 : x6 = 1
    · subst v1
      have e1 : usedS (⟨1, x1, x2, x3, x4, x5, 1, x7, x8, x9, x10, x11, x12, x13, x14, x15⟩ : Msg) = (⟨1, x1, x2, x3, x4, x5, 1, x7, x8, x9, 0, false, 0, [], 0, 0⟩ : Msg) := by simp [usedS]
      have e2 : usedV (⟨1, x1, x2, x3, x4, x5, 1, x7, x8, x9, x10, x11, x12, x13, x14, x15⟩ : Msg) (.slice A x13.length c) = (.slice none 0 0) := by simp [usedV]
      rw [e1, e2]
      exact used_ask1 x1 x2 x3 x4 x5 x7 x8 x9 x10 x11 x12 x13 x14 x15 A c w
    by_cases v2 : x6 = 2
    · subst v2
      have e1 : usedS (⟨1, x1, x2, x3, x4, x5, 2, x7, x8, x9, x10, x11, x12, x13, x14, x15⟩ : Msg) = (⟨1, x1, x2, x3, x4, x5, 2, [], 0, x9, x10, x11, 0, [], 0, 0⟩ : Msg) := by simp [usedS]
      have e2 : usedV (⟨1, x1, x2, x3, x4, x5, 2, x7, x8, x9, x10, x11, x12, x13, x14, x15⟩ : Msg) (.slice A x13.length c) = (.slice none 0 0) := by simp [usedV]
      rw [e1, e2]
      exact used_ask2 x1 x2 x3 x4 x5 x7 x8 x9 x10 x11 x12 x13 x14 x15 A c w
    by_cases v3 : x6 = 3
    · subst v3
      have e1 : usedS (⟨1, x1, x2, x3, x4, x5, 3, x7, x8, x9, x10, x11, x12, x13, x14, x15⟩ : Msg) = (⟨1, x1, x2, x3, x4, x5, 3, [], 0, 0, x10, false, 0, [], 0, 0⟩ : Msg) := by simp [usedS]
      have e2 : usedV (⟨1, x1, x2, x3, x4, x5, 3, x7, x8, x9, x10, x11, x12, x13, x14, x15⟩ : Msg) (.slice A x13.length c) = (.slice none 0 0) := by simp [usedV]
      rw [e1, e2]
      exact used_ask3 x1 x2 x3 x4 x5 x7 x8 x9 x10 x11 x12 x13 x14 x15 A c w
    · have e1 : usedS (⟨1, x1, x2, x3, x4, x5, x6, x7, x8, x9, x10, x11, x12, x13, x14, x15⟩ : Msg) = (⟨1, x1, x2, x3, x4, x5, x6, [], 0, x9, x10, false, 0, [], 0, 0⟩ : Msg) := by simp [usedS, v1, v2, v3]
      have e2 : usedV (⟨1, x1, x2, x3, x4, x5, x6, x7, x8, x9, x10, x11, x12, x13, x14, x15⟩ : Msg) (.slice A x13.length c) = (.slice none 0 0) := by simp [usedV]
      rw [e1, e2]
      exact used_ask4 x1 x2 x3 x4 x5 x6 x7 x8 x9 x10 x11 x12 x13 x14 x15 v1 v2 v3 A c w
  by_cases k2 : x0 = 2
  · subst k2
    by_cases c0 : x12 = 0
    · subst c0
      have e1 : usedS (⟨2, x1, x2, x3, x4, x5, x6, x7, x8, x9, x10, x11, 0, x13, x14, x15⟩ : Msg) = (⟨2, x1, x2, x3, x4, 0, 0, [], 0, x9, x10, false, 0, x13, 0, 0⟩ : Msg) := by simp [usedS]
      have e2 : usedV (⟨2, x1, x2, x3, x4, x5, x6, x7, x8, x9, x10, x11, 0, x13, x14, x15⟩ : Msg) (.slice A x13.length c) = (.slice A x13.length c) := by simp [usedV]
      rw [e1, e2]
      exact used_rep0 x1 x2 x3 x4 x5 x6 x7 x8 x9 x10 x11 x13 x14 x15 A c w
    · have e1 : usedS (⟨2, x1, x2, x3, x4, x5, x6, x7, x8, x9, x10, x11, x12, x13, x14, x15⟩ : Msg) = (⟨2, x1, x2, x3, x4, 0, 0, [], 0, 0, 0, false, x12, [], 0, 0⟩ : Msg) := by simp [usedS, c0]
      have e2 : usedV (⟨2, x1, x2, x3, x4, x5, x6, x7, x8, x9, x10, x11, x12, x13, x14, x15⟩ : Msg) (.slice A x13.length c) = (.slice none 0 0) := by simp [usedV, c0]
      rw [e1, e2]
      exact used_rep1 x1 x2 x3 x4 x5 x6 x7 x8 x9 x10 x11 x12 x13 x14 x15 c0 A c w
  by_cases k3 : x0 = 3
  · subst k3
    have e1 : usedS (⟨3, x1, x2, x3, x4, x5, x6, x7, x8, x9, x10, x11, x12, x13, x14, x15⟩ : Msg) = (⟨3, x1, x2, 0, 0, 0, 0, x7, 0, 0, x10, false, 0, [], x14, x15⟩ : Msg) := by simp [usedS]
    have e2 : usedV (⟨3, x1, x2, x3, x4, x5, x6, x7, x8, x9, x10, x11, x12, x13, x14, x15⟩ : Msg) (.slice A x13.length c) = (.slice none 0 0) := by simp [usedV]
    rw [e1, e2]
    exact used_rec x1 x2 x3 x4 x5 x6 x7 x8 x9 x10 x11 x12 x13 x14 x15 A c w
  by_cases k4 : x0 = 4
  · subst k4
    have e1 : usedS (⟨4, x1, x2, x3, x4, x5, x6, x7, x8, x9, x10, x11, x12, x13, x14, x15⟩ : Msg) = (⟨4, x1, x2, 0, 0, 0, 0, [], 0, 0, x10, false, 0, [], x14, x15⟩ : Msg) := by simp [usedS]
    have e2 : usedV (⟨4, x1, x2, x3, x4, x5, x6, x7, x8, x9, x10, x11, x12, x13, x14, x15⟩ : Msg) (.slice A x13.length c) = (.slice none 0 0) := by simp [usedV]
    rw [e1, e2]
    exact used_don x1 x2 x3 x4 x5 x6 x7 x8 x9 x10 x11 x12 x13 x14 x15 A c w
  by_cases k5 : x0 = 5
  · subst k5
    have e1 : usedS (⟨5, x1, x2, x3, x4, x5, x6, x7, x8, x9, x10, x11, x12, x13, x14, x15⟩ : Msg) = (⟨5, x1, x2, 0, 0, 0, 0, x7, x8, 0, 0, false, 0, x13, 0, 0⟩ : Msg) := by simp [usedS]
    have e2 : usedV (⟨5, x1, x2, x3, x4, x5, x6, x7, x8, x9, x10, x11, x12, x13, x14, x15⟩ : Msg) (.slice A x13.length c) = (.slice A x13.length c) := by simp [usedV]
    rw [e1, e2]
    exact used_op x1 x2 x3 x4 x5 x6 x7 x8 x9 x10 x11 x12 x13 x14 x15 A c w
  · have e1 : usedS (⟨x0, x1, x2, x3, x4, x5, x6, x7, x8, x9, x10, x11, x12, x13, x14, x15⟩ : Msg) = (⟨x0, x1, x2, 0, 0, 0, 0, [], 0, 0, 0, false, 0, [], 0, 0⟩ : Msg) := by simp [usedS, k1, k2, k3, k4, k5]
    have e2 : usedV (⟨x0, x1, x2, x3, x4, x5, x6, x7, x8, x9, x10, x11, x12, x13, x14, x15⟩ : Msg) (.slice A x13.length c) = (.slice none 0 0) := by simp [usedV, k2, k5]
    rw [e1, e2]
    exact used_oth x0 x1 x2 x3 x4 x5 x6 x7 x8 x9 x10 x11 x12 x13 x14 x15 k1 k2 k3 k4 k5 A c w
end Go.Proofs.YtkiaclldjofdoaaGreat
