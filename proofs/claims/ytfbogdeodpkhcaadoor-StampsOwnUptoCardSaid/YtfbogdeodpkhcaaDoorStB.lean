/- Plain laws on stamps' texts: parsing a text back. No program in sight. -/
import Derived.Test.YtfbogdeodpkhcaaDoorStK
namespace Go.Proofs.YtfbogdeodpkhcaaDoor
open Go

theorem dig_ne (u : Nat) : Lib.decDigits u ≠ [] := by
  rw [Lib.decDigits]; split <;> simp
theorem ofNat_toNat {k : Nat} (h : k < 256) : (UInt8.ofNat k).toNat = k := by simp [UInt8.toNat_ofNat']; omega
theorem dig_all : ∀ u : Nat, ∀ c ∈ Lib.decDigits u, 48 ≤ c.toNat ∧ c.toNat ≤ 57 := by
  intro u
  induction u using Nat.strongRecOn with
  | _ u ih =>
    intro c hc
    rw [Lib.decDigits] at hc
    split at hc
    · simp only [List.mem_singleton] at hc
      subst hc; rw [ofNat_toNat (by omega)]; omega
    · rcases List.mem_append.1 hc with h | h
      · exact ih (u / 10) (by omega) c h
      · simp only [List.mem_singleton] at h
        subst h; rw [ofNat_toNat (by omega)]; omega
theorem parse_dig : ∀ (u : Nat) (r : Bytes), u < 18446744073709551616 → Lib.parseUint10 0 (Lib.decDigits u ++ r) = Lib.parseUint10 u r := by
  intro u
  induction u using Nat.strongRecOn with
  | _ u ih =>
    intro r hu
    rw [Lib.decDigits]
    split
    · rename_i h
      rw [List.cons_append, List.nil_append, Lib.parseUint10, ofNat_toNat (by omega), if_pos (by omega), if_neg (by omega), if_neg (by omega)]
      congr 1; omega
    · rename_i h
      rw [List.append_assoc, ih (u / 10) (by omega) _ (by omega), List.cons_append, List.nil_append, Lib.parseUint10, ofNat_toNat (by omega), if_pos (by omega), if_neg (by omega), if_neg (by omega)]
      congr 1; omega
theorem parseMag_dig (u : Nat) (hu : u < 18446744073709551616) : Lib.parseMag (Lib.decDigits u) = .ok u := by
  unfold Lib.parseMag
  rw [if_neg (dig_ne u)]
  have := parse_dig u [] hu
  rw [List.append_nil] at this; rw [this]; rfl
theorem atoi_itoa (n : Int) (h0 : -9223372036854775808 ≤ n) (h1 : n ≤ 9223372036854775807) : Lib.atoiAll (Lib.itoa n) = .ok n := by
  unfold Lib.itoa
  by_cases hn : n < 0
  · rw [if_pos hn, Lib.atoiAll]
    have e : (45 : UInt8).toNat = 45 := rfl
    have ea : -((n.natAbs : Nat) : Int) = n := by omega
    have e1 : ¬ 9223372036854775808 < n.natAbs := by omega
    rw [if_pos (Or.inr e), parseMag_dig n.natAbs (by omega)]
    simp [ea, e1]
  · rw [if_neg hn]
    cases hd : Lib.decDigits n.toNat with
    | nil => exact absurd hd (dig_ne _)
    | cons c r =>
      have hc := dig_all n.toNat c (by rw [hd]; simp)
      have hp := parseMag_dig n.toNat (by omega)
      rw [hd] at hp
      have e1 : ¬ (c.toNat = 43 ∨ c.toNat = 45) := by omega
      have e2 : ¬ c.toNat = 45 := by omega
      rw [Lib.atoiAll, if_neg e1, hp]
      simp only [e2]
      rw [if_neg (by omega), if_neg (by simp), if_neg (by simp)]
      congr 1; omega
theorem itoa_dot (n : Int) : (46 : UInt8) ∉ Lib.itoa n := by
  unfold Lib.itoa
  intro h
  by_cases hn : n < 0
  · rw [if_pos hn] at h
    rcases List.mem_cons.1 h with h | h
    · exact absurd h (by decide)
    · have := dig_all _ _ h; exact absurd this.1 (by decide)
  · rw [if_neg hn] at h
    have := dig_all _ _ h; exact absurd this.1 (by decide)
theorem itoa_dash (n : Int) : Lib.itoa n ≠ [45] := by
  unfold Lib.itoa
  by_cases hn : n < 0
  · rw [if_pos hn]; intro h; injection h with _ h; exact dig_ne _ h
  · rw [if_neg hn]; intro h
    have := dig_all n.toNat 45 (by rw [h]; simp)
    exact absurd this.1 (by decide)

theorem pieces_none {x : Bytes} (h : (46 : UInt8) ∉ x) : pieces x = [x] := by
  induction x with
  | nil => rfl
  | cons c r ih =>
    simp only [List.mem_cons, not_or] at h
    rw [pieces_cons, if_neg (fun e => h.1 e.symm), ih h.2]
theorem pieces_append {x : Bytes} (y : Bytes) (h : (46 : UInt8) ∉ x) : pieces (x ++ 46 :: y) = x :: pieces y := by
  induction x with
  | nil => rw [List.nil_append, pieces_cons, if_pos rfl]
  | cons c r ih =>
    simp only [List.mem_cons, not_or] at h
    rw [List.cons_append, pieces_cons, if_neg (fun e => h.1 e.symm), ih h.2]
theorem join_cons2 (a b : Bytes) (l : List Bytes) : Lib.join (a :: b :: l) [46] = a ++ 46 :: Lib.join (b :: l) [46] := by simp [Lib.join, List.intercalate]
theorem pieces_join : ∀ (L : List Int), L ≠ [] → pieces (Lib.join (L.map Lib.itoa) [46]) = L.map Lib.itoa
  | [], h => absurd rfl h
  | [n], _ => by rw [List.map_cons, List.map_nil, Lib.join_one, pieces_none (itoa_dot n)]
  | n :: m :: L, _ => by
    have ih := pieces_join (m :: L) (by simp)
    rw [List.map_cons, List.map_cons] at *
    rw [join_cons2, pieces_append _ (itoa_dot n), ih]
theorem pieces_ne (l : Bytes) : pieces l ≠ [] := by
  intro h
  have := splitK_length l
  have e : (pieces l).length = l.count 46 + 1 := this
  rw [h] at e; simp at e
theorem join_pieces : ∀ l : Bytes, Lib.join (pieces l) [46] = l
  | [] => by simp [pieces, Lib.splitK, Lib.join, List.intercalate]
  | c :: r => by
    have ih := join_pieces r
    rw [pieces_cons]
    cases hs : pieces r with
    | nil => exact absurd hs (pieces_ne r)
    | cons y u =>
      rw [hs] at ih
      by_cases hc : c = 46
      · subst hc
        rw [if_pos rfl, join_cons2, ih]; rfl
      · rw [if_neg hc]
        cases u with
        | nil => rw [Lib.join_one] at ih ⊢; rw [ih]
        | cons z v => rw [join_cons2] at ih ⊢; rw [← ih]; rfl
theorem pieceN_itoa {n : Int} (h0 : -9223372036854775808 ≤ n) (h1 : n ≤ 9223372036854775807) : pieceN (Lib.itoa n) = if okN n = true then some n else none := by
  rw [pieceN_ok (atoi_itoa n h0 h1)]; simp
theorem nums_itoa : ∀ (L : List Int), (∀ n ∈ L, -9223372036854775808 ≤ n ∧ n ≤ 9223372036854775807) → nums (L.map Lib.itoa) = if L.all okN = true then some L else none
  | [], _ => rfl
  | n :: L, h => by
    obtain ⟨h0, h1⟩ := h n (by simp)
    have ih := nums_itoa L (fun m hm => h m (by simp [hm]))
    rw [List.map_cons, nums, pieceN_itoa h0 h1, ih]
    cases hn : okN n <;> cases hL : L.all okN <;> simp [hn, hL]
theorem text_dash {L : List Int} (h : L ≠ []) : textS L ≠ [45] := by
  unfold textS
  rw [if_neg h]
  intro e
  have h1 := pieces_join L h
  rw [e, pieces_none (by decide)] at h1
  cases L with
  | nil => exact h rfl
  | cons n L =>
    rw [List.map_cons] at h1
    injection h1 with h1 _
    exact itoa_dash n h1.symm
/-- a stamp's text is parsed to the stamp, another list's is not -/
theorem parse_text {L : List Int} (h : ∀ n ∈ L, -9223372036854775808 ≤ n ∧ n ≤ 9223372036854775807) : parseS (textS L) = if validS L = true then (L, 0) else ([], 13) := by
  by_cases h0 : L = []
  · subst h0; rfl
  · have ht : pieces (textS L) = L.map Lib.itoa := by unfold textS; rw [if_neg h0]; exact pieces_join L h0
    unfold parseS
    rw [if_neg (text_dash h0), ht, nums_itoa L h]
    unfold validS
    cases hL : L.all okN with
    | false => simp
    | true =>
      simp only [if_true, Bool.and_true]
      by_cases h4 : L.length ≤ 4 <;> simp [h4]
theorem nums_back : ∀ {P : List Bytes} {L : List Int}, nums P = some L → P = L.map Lib.itoa ∧ L.all okN = true
  | [], L, h => by obtain rfl := Option.some.inj h; exact ⟨rfl, rfl⟩
  | x :: r, L, h => by
    unfold nums at h
    split at h
    · rename_i n M h1 h2
      obtain rfl := Option.some.inj h
      obtain ⟨e1, e2⟩ := nums_back h2
      unfold pieceN at h1
      split at h1
      · split at h1
        · rename_i hh
          obtain rfl := Option.some.inj h1
          exact ⟨by rw [List.map_cons, hh.2, e1], by simp [hh.1, e2]⟩
        · cases h1
      · cases h1
    · cases h
/-- whatever is parsed is the text of its stamp; else there is the error -/
theorem parse_back (t : Bytes) : parseS t = ([], 13) ∨ ∃ Y, parseS t = (Y, 0) ∧ validS Y = true ∧ textS Y = t := by
  unfold parseS
  by_cases h1 : t = [45]
  · right; subst h1; exact ⟨[], rfl, rfl, rfl⟩
  · rw [if_neg h1]
    cases hn : nums (pieces t) with
    | none => left; rfl
    | some Y =>
      by_cases h4 : Y.length ≤ 4
      · right
        obtain ⟨e1, e2⟩ := nums_back hn
        refine ⟨Y, by simp [h4], by unfold validS; simp [h4, e2], ?_⟩
        have hY : Y ≠ [] := fun e => by subst e; exact pieces_ne t e1
        unfold textS
        rw [if_neg hY, ← e1, join_pieces]
      · left; simp [h4]
theorem valid_rng {L : List Int} (h : validS L = true) : L.length ≤ 4 ∧ ∀ n ∈ L, -9223372036854775808 ≤ n ∧ n ≤ 9223372036854775807 := by
  unfold validS at h
  simp only [Bool.and_eq_true, decide_eq_true_eq] at h
  exact ⟨h.1, fun n hn => okN_rng (List.all_eq_true.1 h.2 n hn)⟩
theorem text_len {L : List Int} (h : ∀ n ∈ L, -9223372036854775808 ≤ n ∧ n ≤ 9223372036854775807) : (textS L).length ≤ 22 * L.length + 1 := by
  unfold textS
  split
  · simp
  · have := join_le (L.map Lib.itoa) (fun x hx => by
      obtain ⟨n, hn, rfl⟩ := List.mem_map.1 hx
      exact Lib.itoa_length_le n (h n hn).1 (h n hn).2)
    rw [List.length_map] at this; omega
end Go.Proofs.YtfbogdeodpkhcaaDoor
