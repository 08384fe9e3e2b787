/- Plain laws on paths as lists of bytes: no program in sight. -/
import Derived.Lib.SplitLaws
import Derived.Lib.Join
import Derived.Lib.Strings
import Derived.Lib.IndexBytes
import Derived.Lib.Split
namespace Go.Proofs.Ytbnpdghfbiacaaa
open Go

abbrev Bytes := List UInt8

/-- a letter of a segment -/
def okC (c : UInt8) : Bool := (decide (97 ≤ c.toNat) && decide (c.toNat ≤ 122)) || (decide (48 ≤ c.toNat) && decide (c.toNat ≤ 57))
/-- a segment -/
def segB (x : Bytes) : Bool := decide (1 ≤ x.length) && decide (x.length ≤ 6) && x.all okC
/-- what fine computes, n letters into a segment -/
def fineL : Bytes → Nat → Bool
  | [], n => decide (0 < n ∧ n ≤ 6)
  | c :: r, n => if c.toNat = 47 then (if n = 0 then false else fineL r 0) else if okC c then (if 6 ≤ n then false else fineL r (n + 1)) else false
/-- the pieces between the strokes -/
def segs : Bytes → List Bytes
  | [] => [[]]
  | c :: r => if c.toNat = 47 then [] :: segs r else match segs r with | [] => [[c]] | x :: t => (c :: x) :: t
/-- the segments of a path -/
def path (l : Bytes) : Option (List Bytes) := if l = [] then some [] else if (segs l).all segB && decide ((segs l).length ≤ 4) then some (segs l) else none

theorem segs_ne (l : Bytes) : segs l ≠ [] := by
  cases l with
  | nil => simp [segs]
  | cons c r =>
    unfold segs
    split
    · simp
    · split <;> simp

theorem fineL_iff : ∀ (l : Bytes) (n : Nat), n ≤ 6 → (fineL l n = true ↔ ∃ x t, segs l = x :: t ∧ 1 ≤ n + x.length ∧ n + x.length ≤ 6 ∧ x.all okC = true ∧ t.all segB = true)
  | [], n, hn => by
    simp only [fineL, segs, decide_eq_true_eq]
    constructor
    · intro h
      exact ⟨[], [], rfl, by simp; omega, by simp; omega, rfl, rfl⟩
    · rintro ⟨x, t, h, h1, h2, _⟩
      simp at h
      obtain ⟨rfl, rfl⟩ := h
      simp at h1 h2
      omega
  | c :: r, n, hn => by
    unfold fineL segs
    by_cases hc : c.toNat = 47
    · rw [if_pos hc, if_pos hc]
      by_cases h0 : n = 0
      · subst h0
        rw [if_pos rfl]
        constructor
        · intro h; cases h
        · rintro ⟨x, t, h, h1, _⟩
          simp at h
          obtain ⟨rfl, rfl⟩ := h
          simp at h1
      · rw [if_neg h0, fineL_iff r 0 (by omega)]
        constructor
        · rintro ⟨x, t, h, h1, h2, h3, h4⟩
          refine ⟨[], segs r, rfl, by simp; omega, by simp; omega, rfl, ?_⟩
          rw [h]
          simp only [List.all_cons, Bool.and_eq_true, segB, decide_eq_true_eq]
          exact ⟨⟨⟨by omega, by omega⟩, h3⟩, h4⟩
        · rintro ⟨x, t, h, h1, h2, h3, h4⟩
          simp at h
          obtain ⟨rfl, rfl⟩ := h
          cases hs : segs r with
          | nil => exact absurd hs (segs_ne r)
          | cons y u =>
            rw [hs] at h4
            simp only [List.all_cons, Bool.and_eq_true, segB, decide_eq_true_eq] at h4
            exact ⟨y, u, rfl, by omega, by omega, h4.1.2, h4.2⟩
    · rw [if_neg hc, if_neg hc]
      cases hs : segs r with
      | nil => exact absurd hs (segs_ne r)
      | cons y u =>
        simp only
        by_cases hok : okC c = true
        · rw [if_pos hok]
          by_cases h6 : 6 ≤ n
          · rw [if_pos h6]
            constructor
            · intro h; cases h
            · rintro ⟨x, t, h, h1, h2, _⟩
              simp at h
              obtain ⟨rfl, rfl⟩ := h
              simp at h2
              omega
          · rw [if_neg h6, fineL_iff r (n + 1) (by omega)]
            constructor
            · rintro ⟨x, t, h, h1, h2, h3, h4⟩
              rw [hs] at h
              simp at h
              obtain ⟨rfl, rfl⟩ := h
              exact ⟨c :: y, u, rfl, by simp; omega, by simp; omega, by simp [hok]; simpa using h3, h4⟩
            · rintro ⟨x, t, h, h1, h2, h3, h4⟩
              simp at h
              obtain ⟨rfl, rfl⟩ := h
              simp at h1 h2
              exact ⟨y, u, hs, by omega, by omega, by simp [hok] at h3; simpa using h3, h4⟩
        · rw [if_neg hok]
          constructor
          · intro h; cases h
          · rintro ⟨x, t, h, h1, h2, h3, h4⟩
            simp at h
            obtain ⟨rfl, rfl⟩ := h
            simp at h3
            exact absurd h3.1 hok

theorem fine_segs (l : Bytes) : fineL l 0 = (segs l).all segB := by
  rw [Bool.eq_iff_iff, fineL_iff l 0 (by omega)]
  constructor
  · rintro ⟨x, t, h, h1, h2, h3, h4⟩
    rw [h]
    simp only [List.all_cons, Bool.and_eq_true, segB, decide_eq_true_eq]
    exact ⟨⟨⟨by omega, by omega⟩, h3⟩, h4⟩
  · intro h
    cases hs : segs l with
    | nil => exact absurd hs (segs_ne l)
    | cons y u =>
      rw [hs] at h
      simp only [List.all_cons, Bool.and_eq_true, segB, decide_eq_true_eq] at h
      exact ⟨y, u, rfl, by omega, by omega, h.1.2, h.2⟩

theorem segs_length (l : Bytes) : (segs l).length = l.count 47 + 1 := by
  induction l with
  | nil => simp [segs]
  | cons c r ih =>
    unfold segs
    by_cases hc : c.toNat = 47
    · have : c = 47 := UInt8.toNat_inj.1 hc
      subst this
      rw [if_pos hc]; simp [ih]
    · have : c ≠ 47 := fun e => hc (by rw [e]; rfl)
      rw [if_neg hc, List.count_cons_of_ne this]
      cases hs : segs r with
      | nil => exact absurd hs (segs_ne r)
      | cons y u => rw [← ih, hs]; simp

theorem path_nil : path [] = some [] := by simp [path]
theorem path_ne {l : Bytes} (h : l ≠ []) : path l = if fineL l 0 = true ∧ l.count 47 < 4 then some (segs l) else none := by
  unfold path
  rw [if_neg h, ← fine_segs, segs_length]
  by_cases hf : fineL l 0 = true <;> by_cases hc : l.count 47 < 4 <;> simp [hf, hc] <;> omega
theorem path_isSome_iff {l : Bytes} (h : l ≠ []) : (path l).isSome = true ↔ fineL l 0 = true ∧ l.count 47 < 4 := by
  rw [path_ne h]; split <;> simp [*]

theorem segs_sum (l : Bytes) : ((segs l).map fun x => x.length + 1).sum = l.length + 1 := by
  induction l with
  | nil => simp [segs]
  | cons c r ih =>
    unfold segs
    split
    · simp [ih]; omega
    · cases hs : segs r with
      | nil => exact absurd hs (segs_ne r)
      | cons y u => rw [hs] at ih; simp at ih ⊢; omega
theorem sum_le : ∀ (L : List Bytes), L.all segB = true → (L.map fun x => x.length + 1).sum ≤ 7 * L.length
  | [], _ => by simp
  | x :: t, h => by
    simp only [List.all_cons, Bool.and_eq_true, segB, decide_eq_true_eq] at h
    have := sum_le t h.2
    simp only [List.map_cons, List.sum_cons, List.length_cons]
    omega
/-- a path is short -/
theorem path_len {l : Bytes} (h : (path l).isSome = true) : l.length ≤ 27 := by
  unfold path at h
  split at h
  · rename_i e; subst e; simp
  · split at h
    · rename_i e
      simp only [Bool.and_eq_true, decide_eq_true_eq] at e
      have := sum_le _ e.1
      rw [segs_sum] at this
      omega
    · simp at h

theorem splitK_ne (c : UInt8) (r : Bytes) (hc : c ≠ 47) (k : Nat) : Lib.splitK [47] 0 k (c :: r) = match Lib.splitK [47] 0 k r with | [] => [] | x :: t => (c :: x) :: t := by
  cases k with
  | zero => rfl
  | succ k =>
    have hge := Lib.indexByte_ge r 47
    have hi : Lib.index (c :: r) [47] = if Lib.index r [47] = -1 then -1 else Lib.index r [47] + 1 := by
      rw [Lib.index_one, Lib.index_one, Lib.indexByte]
      have : (c == 47) = false := by simpa using hc
      rw [this]; simp
    unfold Lib.splitK
    rw [hi]
    rw [Lib.index_one] at *
    by_cases h : Lib.indexByte r 47 = -1
    · rw [if_pos h]; simp [h]
    · rw [if_neg h]
      have h1 : (Lib.indexByte r 47 + 1 == -1) = false := by simp; omega
      have h2 : (Lib.indexByte r 47 == -1) = false := by simpa using h
      have h3 : (Lib.indexByte r 47 + 1).toNat = (Lib.indexByte r 47).toNat + 1 := by omega
      simp [h1, h2, h3]
theorem splitK_segs : ∀ l : Bytes, Lib.splitK [47] 0 (l.count 47) l = segs l
  | [] => rfl
  | c :: r => by
    unfold segs
    by_cases hc : c.toNat = 47
    · have : c = 47 := UInt8.toNat_inj.1 hc
      subst this
      rw [if_pos hc, ← splitK_segs r, List.count_cons_self]
      have hi : Lib.index (47 :: r) [47] = 0 := by rw [Lib.index_one, Lib.indexByte]; simp
      conv => lhs; unfold Lib.splitK
      rw [hi]; simp
    · have h : c ≠ 47 := fun e => hc (by rw [e]; rfl)
      rw [if_neg hc, List.count_cons_of_ne h, splitK_ne c r h, splitK_segs r]
      cases hs : segs r with
      | nil => exact absurd hs (segs_ne r)
      | cons y u => rfl

theorem indexByte_mem (c : UInt8) : ∀ l : Bytes, 0 ≤ Lib.indexByte l c ↔ c ∈ l
  | [] => by simp [Lib.indexByte]
  | b :: l => by
    unfold Lib.indexByte
    by_cases h : b = c
    · subst h; simp
    · have h1 : (b == c) = false := by simpa using h
      have := Lib.indexByte_ge l c
      have ih := indexByte_mem c l
      rw [h1]
      simp only [Bool.false_eq_true, if_false, List.mem_cons]
      by_cases h2 : Lib.indexByte l c = -1
      · simp only [h2, BEq.rfl, if_true]
        have : ¬ c ∈ l := fun m => by have := ih.2 m; omega
        simp [this, Ne.symm h]
      · have h3 : (Lib.indexByte l c == -1) = false := by simpa using h2
        rw [h3]
        simp only [Bool.false_eq_true, if_false]
        have hm : c ∈ l := ih.1 (by omega)
        simp [hm]; omega
/-- a piece without a stroke -/
theorem segs_none {x : Bytes} (h : (47 : UInt8) ∉ x) : segs x = [x] := by
  induction x with
  | nil => rfl
  | cons c r ih =>
    simp at h
    unfold segs
    have hc : ¬ c.toNat = 47 := fun e => h.1 (UInt8.toNat_inj.1 e).symm
    rw [if_neg hc, ih h.2]
theorem segs_append {x : Bytes} (y : Bytes) (h : (47 : UInt8) ∉ x) : segs (x ++ 47 :: y) = x :: segs y := by
  induction x with
  | nil => rfl
  | cons c r ih =>
    simp at h
    have hc : ¬ c.toNat = 47 := fun e => h.1 (UInt8.toNat_inj.1 e).symm
    rw [List.cons_append, segs, if_neg hc, ih h.2]
theorem okC_ne {c : UInt8} (h : okC c = true) : c ≠ 47 := by
  rintro rfl
  exact absurd h (by decide)
theorem segB_none {x : Bytes} (h : segB x = true) : (47 : UInt8) ∉ x := by
  intro m
  simp only [segB, Bool.and_eq_true] at h
  exact okC_ne (List.all_eq_true.1 h.2 47 m) rfl
theorem segB_fine (x : Bytes) : segB x = (decide ((47 : UInt8) ∉ x) && fineL x 0) := by
  rw [fine_segs]
  by_cases h : (47 : UInt8) ∈ x
  · have : ¬ segB x = true := fun e => segB_none e h
    simp [h, this]
  · rw [segs_none h]; simp [h]
/-- joining gives a list of pieces whose pieces are these -/
theorem segs_join : ∀ (L : List Bytes), L ≠ [] → L.all segB = true → segs (Lib.join L [47]) = L
  | [], h, _ => absurd rfl h
  | [x], _, h => by
    simp at h
    rw [Lib.join_one, segs_none (segB_none h)]
  | x :: y :: t, _, h => by
    have hx : segB x = true := by simp at h; exact h.1
    have hr : (y :: t).all segB = true := by simp at h ⊢; exact h.2
    have e : Lib.join (x :: y :: t) [47] = x ++ 47 :: Lib.join (y :: t) [47] := by simp [Lib.join, List.intercalate]
    rw [e, segs_append _ (segB_none hx), segs_join (y :: t) (by simp) hr]
theorem join_segs : ∀ (l : Bytes), Lib.join (segs l) [47] = l
  | [] => by simp [segs, Lib.join, List.intercalate]
  | c :: r => by
    unfold segs
    have ih := join_segs r
    cases hs : segs r with
    | nil => exact absurd hs (segs_ne r)
    | cons y u =>
      rw [hs] at ih
      by_cases hc : c.toNat = 47
      · have : c = 47 := UInt8.toNat_inj.1 hc
        subst this
        rw [if_pos hc]
        have e : Lib.join ([] :: y :: u) [47] = 47 :: Lib.join (y :: u) [47] := by simp [Lib.join, List.intercalate]
        rw [e, ih]
      · rw [if_neg hc]
        cases u with
        | nil => simp [Lib.join, List.intercalate] at ih ⊢; exact ih
        | cons z v =>
          have e : Lib.join ((c :: y) :: z :: v) [47] = c :: Lib.join (y :: z :: v) [47] := by simp [Lib.join, List.intercalate]
          simp only
          rw [e, ih]
end Go.Proofs.Ytbnpdghfbiacaaa
