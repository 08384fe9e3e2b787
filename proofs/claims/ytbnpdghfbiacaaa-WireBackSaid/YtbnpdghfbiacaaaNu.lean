/- Numbers and texts as bytes, in plain words (octets): forms, and how they are taken up. No condition beyond what each theorem states. -/
import Derived.Test.YtbnpdghfbiacaaaM
namespace Go.Proofs.Ytbnpdghfbiacaaa
open Go

/-- the form of a number -/
def numS (n : Nat) : List UInt8 := if n < 128 then [UInt8.ofNat n] else UInt8.ofNat (n % 128 + 128) :: numS (n / 128)
termination_by n
decreasing_by omega
theorem numS_small {n : Nat} (h : n < 128) : numS n = [UInt8.ofNat n] := by rw [numS, if_pos h]
theorem numS_big {n : Nat} (h : 128 ≤ n) : numS n = UInt8.ofNat (n % 128 + 128) :: numS (n / 128) := by rw [numS, if_neg (by omega)]
theorem numS_pos (n : Nat) : 0 < (numS n).length := by
  rcases Nat.lt_or_ge n 128 with h | h
  · rw [numS_small h]; simp
  · rw [numS_big h]; simp
theorem numS_len : ∀ (k n : Nat), n < 128 ^ (k + 1) → (numS n).length ≤ k + 1
  | 0, n, h => by rw [numS_small (by simpa using h)]; simp
  | k + 1, n, h => by
    rcases Nat.lt_or_ge n 128 with h1 | h1
    · rw [numS_small h1]; simp
    · rw [numS_big h1]
      have := numS_len k (n / 128) (by rw [Nat.div_lt_iff_lt_mul (by omega)]; rw [Nat.pow_succ] at h; omega)
      simp only [List.length_cons]
      omega
/-- the number, its width, the error, of the bytes from the i-th of a form on -/
def takeN (i : Nat) : List UInt8 → Nat × Nat × Int
  | [] => (0, 0, 20)
  | c :: r => if c.toNat < 128 then (if c.toNat = 0 ∧ 0 < i then (0, 0, 21) else (c.toNat, 1, 0)) else if i = 8 then (0, 0, 21) else
    match takeN (i + 1) r with
    | (n, k, e) => if e = 0 then (c.toNat - 128 + 128 * n, k + 1, 0) else (0, 0, e)
theorem takeN_num : ∀ (j i n : Nat) (r : List UInt8), i + j = 8 → n < 128 ^ (j + 1) → (0 < i → 0 < n) → takeN i (numS n ++ r) = (n, (numS n).length, 0)
  | j, i, n, r, hij, hn, hp => by
    rcases Nat.lt_or_ge n 128 with h | h
    · rw [numS_small h]
      simp only [List.singleton_append, takeN]
      have e : (UInt8.ofNat n).toNat = n := by rw [UInt8.toNat_ofNat']; omega
      rw [e, if_pos h, if_neg (fun hh => by have := hp hh.2; omega)]
      simp
    · rw [numS_big h]
      simp only [List.cons_append, takeN]
      have e : (UInt8.ofNat (n % 128 + 128)).toNat = n % 128 + 128 := by rw [UInt8.toNat_ofNat']; omega
      rw [e, if_neg (by omega)]
      match j, hij, hn with
      | 0, hij, hn => omega
      | j + 1, hij, hn =>
        rw [if_neg (by omega), takeN_num j (i + 1) (n / 128) r (by omega) (by rw [Nat.div_lt_iff_lt_mul (by omega)]; rw [Nat.pow_succ] at hn; omega) (fun _ => by omega)]
        simp only [if_true, List.length_cons]
        rw [show n % 128 + 128 - 128 + 128 * (n / 128) = n by omega]
theorem takeN_inv : ∀ (b : List UInt8) (i n k : Nat), i ≤ 8 → takeN i b = (n, k, 0) → b = numS n ++ b.drop k ∧ k = (numS n).length ∧ n < 128 ^ (9 - i) ∧ (0 < i → 0 < n)
  | [], i, n, k, _, h => by simp [takeN] at h
  | c :: r, i, n, k, hi, h => by
    unfold takeN at h
    by_cases h1 : c.toNat < 128
    · rw [if_pos h1] at h
      by_cases h2 : c.toNat = 0 ∧ 0 < i
      · rw [if_pos h2] at h; injection h with _ h; injection h with _ h; cases h
      · rw [if_neg h2] at h
        injection h with h3 h
        injection h with h4 _
        subst h3 h4
        have e : UInt8.ofNat c.toNat = c := by apply UInt8.toNat_inj.1; rw [UInt8.toNat_ofNat']; have := c.toNat_lt; omega
        rw [numS_small h1, e]
        refine ⟨rfl, rfl, ?_, fun h0 => by omega⟩
        calc c.toNat < 128 ^ 1 := by simpa using h1
          _ ≤ 128 ^ (9 - i) := Nat.pow_le_pow_right (by omega) (by omega)
    · rw [if_neg h1] at h
      by_cases h2 : i = 8
      · rw [if_pos h2] at h; injection h with _ h; injection h with _ h; cases h
      · rw [if_neg h2] at h
        obtain ⟨n', k', e', hq⟩ : ∃ n' k' e', takeN (i + 1) r = (n', k', e') := ⟨_, _, _, rfl⟩
        rw [hq] at h
        simp only at h
        by_cases h3 : e' = 0
        · subst h3
          rw [if_pos rfl] at h
          injection h with h4 h
          injection h with h5 _
          obtain ⟨q1, q2, q3, q4⟩ := takeN_inv r (i + 1) n' k' (by omega) hq
          have hn' := q4 (by omega)
          have hc := c.toNat_lt
          subst h4 h5
          have hb : 128 ≤ c.toNat - 128 + 128 * n' := by omega
          have e1 : (c.toNat - 128 + 128 * n') % 128 + 128 = c.toNat := by omega
          have e2 : (c.toNat - 128 + 128 * n') / 128 = n' := by omega
          have e : UInt8.ofNat c.toNat = c := by apply UInt8.toNat_inj.1; rw [UInt8.toNat_ofNat']; omega
          rw [numS_big hb, e1, e2, e]
          refine ⟨?_, by simp [q2], ?_, fun _ => by omega⟩
          · rw [List.drop_succ_cons, List.cons_append]
            congr 1
          · have e9 : 9 - i = (9 - (i + 1)) + 1 := by omega
            rw [e9, Nat.pow_succ]
            omega
        · rw [if_neg h3] at h
          injection h with _ h
          injection h with _ h
          exact absurd h h3
/-- the number that bytes begin with -/
theorem take_num (n : Nat) (r : List UInt8) (h : n < 9223372036854775808) : takeN 0 (numS n ++ r) = (n, (numS n).length, 0) := takeN_num 8 0 n r rfl (by simpa using h) (fun h => absurd h (by omega))
theorem take_inv {b : List UInt8} {n k : Nat} (h : takeN 0 b = (n, k, 0)) : b = numS n ++ b.drop k ∧ k = (numS n).length ∧ n < 9223372036854775808 := by
  obtain ⟨h1, h2, h3, _⟩ := takeN_inv b 0 n k (by omega) h
  exact ⟨h1, h2, by simpa using h3⟩
end Go.Proofs.Ytbnpdghfbiacaaa
