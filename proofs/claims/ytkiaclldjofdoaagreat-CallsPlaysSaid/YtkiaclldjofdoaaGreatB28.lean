/- Several texts of this claim in one. No condition beyond what each theorem states. -/
import Derived.Test.YtkiaclldjofdoaaGreatB04
/- The document's used by contract, by ways. No condition beyond what each theorem states. -/
namespace Go.Proofs.YtkiaclldjofdoaaGreat
open Go Go.RowKit Go.PlainAid

set_option maxRecDepth 100000 in
set_option maxHeartbeats 4000000 in
theorem used_ask3 (x1 : Int) (x2 : Int) (x3 : Int) (x4 : Int) (x5 : Int) (x7 : List UInt8) (x8 : Int) (x9 : Int) (x10 : Int) (x11 : Bool) (x12 : Int) (x13 : List Int) (x14 : Int) (x15 : Int) (A : Option Addr) (c : Nat) (w : World) :
    Calls Tryz.prog 42 #[.agg (mcells (⟨1, x1, x2, x3, x4, x5, 3, x7, x8, x9, x10, x11, x12, x13, x14, x15⟩ : Msg) (.slice A x13.length c)).toArray] w fun e w' => e = .returned (.agg (mcells (⟨1, x1, x2, x3, x4, x5, 3, [], 0, 0, x10, false, 0, [], 0, 0⟩ : Msg) (.slice none 0 0)).toArray) ∧ Kp No w w' := by
  simp only [mcells]
  go_enter Tryz.func42, Tryz.ntmps42
  go_wp2
  refine bodyPost_ret (v := .agg (mcells (⟨1, x1, x2, x3, x4, x5, 3, [], 0, 0, x10, false, 0, [], 0, 0⟩ : Msg) (.slice none 0 0)).toArray) (by simp [results, Tryz.results42, go_sem, mcells]) rfl ?_
  exact ⟨rfl, (((Kp.refl No w).alloc _).alloc _).alloc _⟩
end Go.Proofs.YtkiaclldjofdoaaGreat

/- The document's used by contract, by ways. No condition beyond what each theorem states. -/
namespace Go.Proofs.YtkiaclldjofdoaaGreat
open Go Go.RowKit Go.PlainAid

set_option maxRecDepth 100000 in
set_option maxHeartbeats 4000000 in
theorem used_ask4 (x1 : Int) (x2 : Int) (x3 : Int) (x4 : Int) (x5 : Int) (x6 : Int) (x7 : List UInt8) (x8 : Int) (x9 : Int) (x10 : Int) (x11 : Bool) (x12 : Int) (x13 : List Int) (x14 : Int) (x15 : Int) (h0 : x6 ≠ 1) (h1 : x6 ≠ 2) (h2 : x6 ≠ 3) (A : Option Addr) (c : Nat) (w : World) :
    Calls Tryz.prog 42 #[.agg (mcells (⟨1, x1, x2, x3, x4, x5, x6, x7, x8, x9, x10, x11, x12, x13, x14, x15⟩ : Msg) (.slice A x13.length c)).toArray] w fun e w' => e = .returned (.agg (mcells (⟨1, x1, x2, x3, x4, x5, x6, [], 0, x9, x10, false, 0, [], 0, 0⟩ : Msg) (.slice none 0 0)).toArray) ∧ Kp No w w' := by
  have d0 : (x6 == 1) = false := by rw [beq_eq_false_iff_ne]; exact h0
  have d1 : (x6 == 2) = false := by rw [beq_eq_false_iff_ne]; exact h1
  have d2 : (x6 == 3) = false := by rw [beq_eq_false_iff_ne]; exact h2
  clear h0 h1 h2
  simp only [mcells]
  go_enter Tryz.func42, Tryz.ntmps42
  go_wp2
  refine bodyPost_ret (v := .agg (mcells (⟨1, x1, x2, x3, x4, x5, x6, [], 0, x9, x10, false, 0, [], 0, 0⟩ : Msg) (.slice none 0 0)).toArray) (by simp [results, Tryz.results42, go_sem, mcells]) rfl ?_
  exact ⟨rfl, (((Kp.refl No w).alloc _).alloc _).alloc _⟩
end Go.Proofs.YtkiaclldjofdoaaGreat
