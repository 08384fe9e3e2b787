/- Numbers as bytes: the words in which the programs reckon them. No condition beyond what each theorem states. -/
import Derived.Test.YtbnpdghfbiacaaaNu
namespace Go.Proofs.Ytbnpdghfbiacaaa
open Go

set_option maxRecDepth 10000 in
theorem or128 : ∀ a : Nat, a < 256 → a ||| 128 = a % 128 + 128 := by decide
set_option maxRecDepth 10000 in
theorem and127 : ∀ a : Nat, a < 256 → a &&& 127 = a % 128 := by decide
theorem or_shift (x c i : Nat) (h : x < 128 ^ i) : x ||| (c <<< (7 * i)) = x + c * 128 ^ i := by
  have e : (128 : Nat) ^ i = 2 ^ (7 * i) := by rw [Nat.pow_mul]
  rw [e] at h ⊢
  rw [Nat.or_comm, ← Nat.shiftLeft_add_eq_or_of_lt h, Nat.shiftLeft_eq, Nat.add_comm]
/-- what is taken up from the i-th byte on, what was taken before being acc -/
def takeA (acc i : Nat) (l : List UInt8) : Nat × Nat × Int := if (takeN i l).2.2 = 0 then (acc + (takeN i l).1 * 128 ^ i, i + (takeN i l).2.1, 0) else (0, 0, (takeN i l).2.2)
theorem takeA_start (l : List UInt8) : takeA 0 0 l = takeN 0 l := by
  unfold takeA
  have key : ∀ (l : List UInt8) (i : Nat), (takeN i l).2.2 ≠ 0 → takeN i l = (0, 0, (takeN i l).2.2) := by
    intro l
    induction l with
    | nil => intro i _; rfl
    | cons c r ih =>
      intro i h
      unfold takeN at h ⊢
      by_cases h1 : c.toNat < 128
      · rw [if_pos h1] at h ⊢
        by_cases h2 : c.toNat = 0 ∧ 0 < i
        · rw [if_pos h2]
        · rw [if_neg h2] at h; exact absurd rfl h
      · rw [if_neg h1] at h ⊢
        by_cases h2 : i = 8
        · rw [if_pos h2]
        · rw [if_neg h2] at h ⊢
          by_cases h3 : (takeN (i + 1) r).2.2 = 0
          · simp only [h3, if_true] at h; exact absurd rfl h
          · simp only [h3, if_false]
  by_cases h : (takeN 0 l).2.2 = 0
  · rw [if_pos h]
    have e : takeN 0 l = ((takeN 0 l).1, (takeN 0 l).2.1, (takeN 0 l).2.2) := rfl
    rw [e, h]
    simp
  · rw [if_neg h, ← key l 0 h]
theorem takeA_nil (acc i : Nat) : takeA acc i [] = (0, 0, 20) := by unfold takeA takeN; rfl
theorem takeA_last (acc i : Nat) (c : UInt8) (r : List UInt8) (h : c.toNat < 128) (h2 : ¬ (c.toNat = 0 ∧ 0 < i)) : takeA acc i (c :: r) = (acc + c.toNat * 128 ^ i, i + 1, 0) := by
  have e : takeN i (c :: r) = (c.toNat, 1, 0) := by
    unfold takeN
    rw [if_pos h, if_neg h2]
  unfold takeA
  rw [e]
  rfl
theorem takeA_zero (acc i : Nat) (c : UInt8) (r : List UInt8) (h : c.toNat = 0) (h2 : 0 < i) : takeA acc i (c :: r) = (0, 0, 21) := by
  have e : takeN i (c :: r) = (0, 0, 21) := by
    unfold takeN
    rw [if_pos (by omega : c.toNat < 128), if_pos ⟨h, h2⟩]
  unfold takeA
  rw [e]
  rfl
theorem takeA_long (acc : Nat) (c : UInt8) (r : List UInt8) (h : 128 ≤ c.toNat) : takeA acc 8 (c :: r) = (0, 0, 21) := by
  have e : takeN 8 (c :: r) = (0, 0, 21) := by
    unfold takeN
    rw [if_neg (by omega : ¬ c.toNat < 128), if_pos rfl]
  unfold takeA
  rw [e]
  rfl
theorem takeA_more (acc i : Nat) (c : UInt8) (r : List UInt8) (h : 128 ≤ c.toNat) (hi : i ≠ 8) : takeA acc i (c :: r) = takeA (acc + (c.toNat - 128) * 128 ^ i) (i + 1) r := by
  unfold takeA
  have e : takeN i (c :: r) = if (takeN (i + 1) r).2.2 = 0 then (c.toNat - 128 + 128 * (takeN (i + 1) r).1, (takeN (i + 1) r).2.1 + 1, 0) else (0, 0, (takeN (i + 1) r).2.2) := by
    conv => lhs; unfold takeN
    rw [if_neg (by omega), if_neg hi]
  rw [e]
  by_cases h3 : (takeN (i + 1) r).2.2 = 0
  · rw [if_pos h3, if_pos h3]
    simp only [if_true, Prod.mk.injEq, and_true]
    refine ⟨?_, by omega⟩
    rw [Nat.add_mul, Nat.pow_succ, ← Nat.add_assoc]
    congr 1
    rw [Nat.mul_comm 128, Nat.mul_assoc, Nat.mul_comm 128]
  · rw [if_neg h3, if_neg h3, if_neg h3]
/-- the value that is taken stays below 2^63 -/
theorem takeN_lt (l : List UInt8) : (takeN 0 l).1 < 9223372036854775808 := by
  by_cases h : (takeN 0 l).2.2 = 0
  · have e : takeN 0 l = ((takeN 0 l).1, (takeN 0 l).2.1, 0) := by rw [← h]
    exact (take_inv e).2.2
  · have := takeA_start l
    unfold takeA at this
    rw [if_neg h] at this
    rw [← this]
    show (0 : Nat) < _
    omega
theorem takeN_len (l : List UInt8) : (takeN 0 l).2.1 ≤ l.length := by
  by_cases h : (takeN 0 l).2.2 = 0
  · have e : takeN 0 l = ((takeN 0 l).1, (takeN 0 l).2.1, 0) := by rw [← h]
    obtain ⟨h1, h2, _⟩ := take_inv e
    have h3 := congrArg List.length h1
    rw [List.length_append] at h3
    omega
  · have := takeA_start l
    unfold takeA at this
    rw [if_neg h] at this
    rw [← this]
    exact Nat.zero_le _
end Go.Proofs.Ytbnpdghfbiacaaa
