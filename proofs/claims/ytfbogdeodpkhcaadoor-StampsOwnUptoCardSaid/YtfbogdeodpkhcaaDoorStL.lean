/- Plain laws on stamps as lists of ints: no program in sight. -/
import Derived.Test.YtfbogdeodpkhcaaDoorStJ
import Derived.Deep.Cut
import Derived.Deep.CutRange
import Derived.Deep.DeepCutAuto
namespace Go.Proofs.YtfbogdeodpkhcaaDoor
open Go

def Bv (b : Bool) : Prop := ∃ c, b = c
def Iv (b : Int) : Prop := ∃ c, b = c
theorem cmpS_self : ∀ L : List Int, cmpS L L = 0
  | [] => rfl
  | a :: L => by rw [cmpS, if_neg (by omega), if_neg (by omega), cmpS_self L]
theorem cmpS_three : ∀ L M : List Int, (cmpS L M = 0 ∧ cmpS M L = 0 ∧ L = M) ∨ (cmpS L M = -1 ∧ cmpS M L = 1 ∧ L ≠ M) ∨ (cmpS L M = 1 ∧ cmpS M L = -1 ∧ L ≠ M)
  | [], [] => .inl ⟨rfl, rfl, rfl⟩
  | [], b :: M => .inr (.inl ⟨rfl, rfl, by simp⟩)
  | a :: L, [] => .inr (.inr ⟨rfl, rfl, by simp⟩)
  | a :: L, b :: M => by
    unfold cmpS
    by_cases h1 : a < b
    · rw [if_pos h1, if_neg (by omega), if_pos h1]
      exact .inr (.inl ⟨rfl, rfl, fun e => by injection e; omega⟩)
    · by_cases h2 : b < a
      · rw [if_neg h1, if_pos h2, if_pos h2]
        exact .inr (.inr ⟨rfl, rfl, fun e => by injection e; omega⟩)
      · obtain rfl : a = b := by omega
        rw [if_neg h1, if_neg h1, if_neg h1, if_neg h1]
        rcases cmpS_three L M with ⟨h1, h2, rfl⟩ | ⟨h1, h2, h3⟩ | ⟨h1, h2, h3⟩
        · exact .inl ⟨h1, h2, rfl⟩
        · exact .inr (.inl ⟨h1, h2, fun e => h3 (by injection e)⟩)
        · exact .inr (.inr ⟨h1, h2, fun e => h3 (by injection e)⟩)
theorem cmpS_trans : ∀ L M N : List Int, cmpS L M ≤ 0 → cmpS M N ≤ 0 → cmpS L N ≤ 0
  | [], _, [], _, _ => by simp [cmpS]
  | [], _, c :: N, _, _ => by simp [cmpS]
  | a :: L, [], _, h, _ => by simp [cmpS] at h
  | a :: L, b :: M, [], _, h => by simp [cmpS] at h
  | a :: L, b :: M, c :: N, h, k => by
    unfold cmpS at h k ⊢
    by_cases h1 : a < b
    · by_cases k1 : b < c
      · rw [if_pos (by omega)]; omega
      · rw [if_neg k1] at k
        by_cases k2 : c < b
        · rw [if_pos k2] at k; omega
        · rw [if_pos (by omega)]; omega
    · rw [if_neg h1] at h
      by_cases h2 : b < a
      · rw [if_pos h2] at h; omega
      · rw [if_neg h2] at h
        by_cases k1 : b < c
        · rw [if_pos (by omega)]; omega
        · rw [if_neg k1] at k
          by_cases k2 : c < b
          · rw [if_pos k2] at k; omega
          · rw [if_neg k2] at k
            rw [if_neg (by omega), if_neg (by omega)]
            exact cmpS_trans L M N h k
theorem underS_iff (L M : List Int) : underS L M = true ↔ L <+: M := by
  unfold underS
  simp only [Bool.and_eq_true, decide_eq_true_eq]
  constructor
  · rintro ⟨h1, h2⟩
    rcases cmpS_three L (M.take L.length) with ⟨_, _, e⟩ | ⟨h, _⟩ | ⟨h, _⟩
    · rw [e]; exact List.take_prefix _ _
    · omega
    · omega
  · rintro ⟨s, rfl⟩
    exact ⟨by simp, by rw [List.take_left']; exact cmpS_self L; rfl⟩
theorem cmpS_app : ∀ (L s : List Int), cmpS L (L ++ s) ≤ 0
  | [], [] => by simp [cmpS]
  | [], c :: s => by simp [cmpS]
  | a :: L, s => by rw [List.cons_append, cmpS, if_neg (by omega), if_neg (by omega)]; exact cmpS_app L s
theorem under_cmp {L M : List Int} (h : underS L M = true) : cmpS L M ≤ 0 := by
  obtain ⟨s, rfl⟩ := (underS_iff L M).1 h; exact cmpS_app L s
theorem cmpS_past : ∀ (L s N : List Int), cmpS L N < 0 → ¬ L <+: N → cmpS (L ++ s) N < 0
  | [], s, N, _, h => absurd (List.nil_prefix) h
  | a :: L, s, [], h, _ => by simp [cmpS] at h
  | a :: L, s, b :: N, h, k => by
    rw [List.cons_append]
    unfold cmpS at h ⊢
    by_cases h1 : a < b
    · rw [if_pos h1]; omega
    · rw [if_neg h1] at h ⊢
      by_cases h2 : b < a
      · rw [if_pos h2] at h; omega
      · rw [if_neg h2] at h ⊢
        obtain rfl : a = b := by omega
        exact cmpS_past L s N h (fun hp => k (by obtain ⟨t, rfl⟩ := hp; exact ⟨t, rfl⟩))
theorem under_past {L M N : List Int} (h : underS L M = true) (k : cmpS L N < 0) (hn : underS L N = false) : cmpS M N < 0 := by
  obtain ⟨s, rfl⟩ := (underS_iff L M).1 h
  exact cmpS_past L s N k (fun hp => by rw [(underS_iff L N).2 hp] at hn; cases hn)
theorem under_trans {L M N : List Int} (h : underS L M = true) (k : underS M N = true) : underS L N = true :=
  (underS_iff L N).2 (((underS_iff L M).1 h).trans ((underS_iff M N).1 k))

/-! Grow -/
theorem cmpS_same (K : List Int) (L M : List Int) : cmpS (K ++ L) (K ++ M) = cmpS L M := by
  induction K with
  | nil => rfl
  | cons a K ih => rw [List.cons_append, List.cons_append, cmpS, if_neg (by omega), if_neg (by omega), ih]
theorem grow_ext (L : List Int) (n : Int) : (∃ e, extS L n = ([], e) ∧ e ≠ 0 ∧ ((e = 13 ∧ validS L = false) ∨ (e = 14 ∧ L.length = 4) ∨ (e = 66 ∧ (n < 1 ∨ 1099511627776 < n)))) ∨
    (extS L n = (L ++ [n], 0) ∧ validS (L ++ [n]) = true ∧ underS L (L ++ [n]) = true ∧ cmpS L (L ++ [n]) = -1 ∧ L.length ≤ 3) := by
  unfold extS
  cases hv : validS L with
  | false => left; exact ⟨13, by simp, by decide, .inl ⟨rfl, rfl⟩⟩
  | true =>
    by_cases h4 : L.length = 4
    · left; exact ⟨14, by simp [h4], by decide, .inr (.inl ⟨rfl, h4⟩)⟩
    · cases hn : okN n with
      | false =>
        left
        refine ⟨66, by simp [h4], by decide, .inr (.inr ⟨rfl, ?_⟩)⟩
        unfold okN at hn; simp only [decide_eq_false_iff_not] at hn; omega
      | true =>
        right
        unfold validS at hv
        simp only [Bool.and_eq_true, decide_eq_true_eq] at hv
        refine ⟨by simp [h4], ?_, (underS_iff _ _).2 ⟨[n], rfl⟩, ?_, by omega⟩
        · unfold validS
          simp only [Bool.and_eq_true, decide_eq_true_eq, List.length_append, List.length_cons, List.length_nil, List.all_append, List.all_cons, List.all_nil, Bool.and_true]
          exact ⟨by omega, hv.2, hn⟩
        · have := cmpS_same L [] [n]
          rw [List.append_nil] at this; rw [this]; rfl
theorem grow_two (L : List Int) {n m : Int} (h : n < m) : cmpS (L ++ [n]) (L ++ [m]) = -1 := by rw [cmpS_same, cmpS, if_pos h]
theorem grow_next (L : List Int) : (∃ e, nextS L = ([], e) ∧ e ≠ 0) ∨ (∃ M, nextS L = (M, 0) ∧ M.length = L.length ∧ cmpS L M = -1 ∧ underS L M = false ∧ ∀ n, cmpS (L ++ [n]) M = -1) := by
  by_cases h0 : L = [] ∨ validS L = false
  · left; exact ⟨13, nextS_no h0, by decide⟩
  · have hv : validS L = true := by
      cases h : validS L with
      | false => exact absurd (.inr h) h0
      | true => rfl
    have hne : L ≠ [] := fun e => h0 (.inl e)
    obtain ⟨K, v, rfl⟩ : ∃ K v, L = K ++ [v] := ⟨L.dropLast, L.getLast hne, (List.dropLast_concat_getLast hne).symm⟩
    have hk : (K ++ [v]).length = K.length + 1 := by simp
    rw [nextS_last hk hv]
    have hg : (K ++ [v]).getD K.length 0 = v := by simp
    rw [hg]
    by_cases hm : v = 1099511627776
    · left; exact ⟨66, by rw [if_pos hm], by decide⟩
    · right
      rw [if_neg hm]
      have hs : (K ++ [v]).set K.length (v + 1) = K ++ [v + 1] := by simp
      rw [hs]
      refine ⟨_, rfl, by simp, ?_, ?_, fun n => ?_⟩
      · rw [cmpS_same, cmpS, if_pos (by omega)]
      · rw [Bool.eq_false_iff]
        intro h
        have := (underS_iff _ _).1 h
        have e := this.eq_of_length (by simp)
        have := List.append_cancel_left e
        simp at this
        omega
      · rw [List.append_assoc, cmpS_same, List.cons_append, cmpS, if_pos (by omega)]
theorem next_len (L : List Int) : (nextS L).1.length ≤ L.length := by
  rcases grow_next L with ⟨e, h, _⟩ | ⟨M, h, h2, _⟩
  · rw [h]; simp
  · rw [h]; simp [h2]
theorem ext_len (L : List Int) (n : Int) : (extS L n).1.length ≤ L.length + 1 := by
  rcases grow_ext L n with ⟨e, h, _⟩ | ⟨h, _⟩
  · rw [h]; simp
  · rw [h]; simp
end Go.Proofs.YtfbogdeodpkhcaaDoor
