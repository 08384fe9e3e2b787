/- Plain laws: the document's Parse reads loosely and takes what is written so; it answers what the program's does. -/
import Derived.Test.YtfbogdeodpkhcaaDoorStE
namespace Go.Proofs.YtfbogdeodpkhcaaDoor
open Go

def loopR : Bytes → List Int → Int → Option (List Int)
  | [], out, n => if out.length = 4 then none else some (out ++ [n])
  | c :: r, out, n => if c = 46 then (if out.length = 4 then none else loopR r (out ++ [n]) 0) else if c.toNat < 48 ∨ 57 < c.toNat ∨ 1099511627776 < n then none else loopR r out (10 * n + ((c.toNat : Int) - 48))
def rparseS (t : Bytes) : List Int × Int := if t = [45] then ([], 0) else match loopR t [] 0 with | some out => if validS out = true ∧ textS out = t then (out, 0) else ([], 13) | none => ([], 13)

theorem loop_dig : ∀ (u : Nat) (r : Bytes) (out : List Int), u ≤ 1099511627776 → loopR (Lib.decDigits u ++ r) out 0 = loopR r out (u : Int) := by
  intro u
  induction u using Nat.strongRecOn with
  | _ u ih =>
    intro r out hu
    have hne : ∀ k : Nat, 48 ≤ k → k < 58 → ¬ UInt8.ofNat k = 46 := fun k h0 h1 e => by
      have := congrArg UInt8.toNat e
      rw [ofNat_toNat (by omega)] at this
      have e46 : (46 : UInt8).toNat = 46 := rfl
      omega
    rw [Lib.decDigits]
    split
    · rename_i h
      rw [List.cons_append, List.nil_append, loopR, if_neg (hne _ (by omega) (by omega)), ofNat_toNat (by omega), if_neg (by omega)]
      congr 1; omega
    · rename_i h
      rw [List.append_assoc, ih (u / 10) (by omega) _ _ (by omega), List.cons_append, List.nil_append, loopR, if_neg (hne _ (by omega) (by omega)), ofNat_toNat (by omega), if_neg (by omega)]
      congr 1; omega
theorem ok_itoa {n : Int} (h : okN n = true) : Lib.itoa n = Lib.decDigits n.toNat ∧ n.toNat ≤ 1099511627776 ∧ (n.toNat : Int) = n := by
  unfold okN at h
  simp only [Bool.and_eq_true, decide_eq_true_eq] at h
  refine ⟨?_, by omega, by omega⟩
  unfold Lib.itoa; rw [if_neg (by omega)]
theorem loop_join : ∀ (Y out : List Int), Y ≠ [] → Y.all okN = true → out.length + Y.length ≤ 4 → loopR (Lib.join (Y.map Lib.itoa) [46]) out 0 = some (out ++ Y)
  | [], _, h, _, _ => absurd rfl h
  | [n], out, _, ha, hl => by
    simp only [List.all_cons, List.all_nil, Bool.and_true] at ha
    obtain ⟨e1, e2, e3⟩ := ok_itoa ha
    rw [List.map_cons, List.map_nil, Lib.join_one, e1, ← List.append_nil (Lib.decDigits _), loop_dig _ _ _ e2, loopR, if_neg (by simp at hl; omega), e3]
  | n :: m :: Y, out, _, ha, hl => by
    simp only [List.all_cons, Bool.and_eq_true] at ha
    obtain ⟨e1, e2, e3⟩ := ok_itoa ha.1
    have ih := loop_join (m :: Y) (out ++ [n]) (by simp) (by simp [ha.2]) (by simp at hl ⊢; omega)
    rw [List.map_cons, List.map_cons, join_cons2, e1, loop_dig _ _ _ e2, loopR, if_pos rfl, if_neg (by simp at hl; omega), e3]
    rw [List.map_cons] at ih
    rw [ih]; simp
theorem rparse_eq (t : Bytes) : rparseS t = parseS t := by
  unfold rparseS
  by_cases h45 : t = [45]
  · rw [if_pos h45, h45]; rfl
  · rw [if_neg h45]
    rcases parse_back t with h | ⟨Y, h, hv, ht⟩
    · rw [h]
      cases hl : loopR t [] 0 with
      | none => rfl
      | some out =>
        by_cases hc : validS out = true ∧ textS out = t
        · exfalso
          have := parse_text (valid_rng hc.1).2
          rw [hc.2, h, if_pos hc.1] at this
          have := congrArg Prod.snd this
          simp at this
        · simp only [if_neg hc]
    · have hY : Y ≠ [] := fun e => h45 (by rw [← ht, e]; rfl)
      have hv' := hv
      unfold validS at hv'
      simp only [Bool.and_eq_true, decide_eq_true_eq] at hv'
      have hl := loop_join Y [] hY hv'.2 (by simp; exact hv'.1)
      have htx : Lib.join (Y.map Lib.itoa) [46] = t := by rw [← ht]; unfold textS; rw [if_neg hY]
      rw [htx] at hl
      rw [hl, h]
      simp only [List.nil_append, if_pos (And.intro hv ht)]
end Go.Proofs.YtfbogdeodpkhcaaDoor
