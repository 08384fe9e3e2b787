/- Plain laws on stamps: no condition beyond what each theorem states. -/
import Derived.Test.YtfbogdeodpkhcaaDoorIg
namespace Go.Proofs.YtfbogdeodpkhcaaDoor
open Go Go.RowKit

/-! plain -/
def okN (n : Int) : Bool := decide (1 ≤ n ∧ n ≤ 1099511627776)
def validS (L : List Int) : Bool := decide (L.length ≤ 4) && L.all okN
def cmpI (a b : Int) : Int := if a < b then -1 else if b < a then 1 else 0
def cmpS : List Int → List Int → Int
  | [], [] => 0
  | [], _ :: _ => -1
  | _ :: _, [] => 1
  | a :: L, b :: M => if a < b then -1 else if b < a then 1 else cmpS L M
def underS (L M : List Int) : Bool := decide (L.length ≤ M.length) && decide (cmpS L (M.take L.length) = 0)
def laterS (L M : List Int) : List Int := if cmpS L M < 0 then M else L
def extS (L : List Int) (n : Int) : List Int × Int := if validS L = false then ([], 13) else if L.length = 4 then ([], 14) else if okN n = false then ([], 66) else (L ++ [n], 0)
def nextS (L : List Int) : List Int × Int := if L = [] ∨ validS L = false then ([], 13) else if L.getLast? = some 1099511627776 then ([], 66) else (L.set (L.length - 1) (L.getD (L.length - 1) 0 + 1), 0)

theorem cmpS_step {L M : List Int} {k : Nat} (h1 : k < L.length) (h2 : k < M.length) : cmpS (L.drop k) (M.drop k) = if L[k] < M[k] then -1 else if M[k] < L[k] then 1 else cmpS (L.drop (k + 1)) (M.drop (k + 1)) := by
  rw [List.drop_eq_getElem_cons h1, List.drop_eq_getElem_cons h2]; rfl
theorem cmpS_end1 {L M : List Int} {k : Nat} (h1 : L.length ≤ k) (h2 : k < M.length) : cmpS (L.drop k) (M.drop k) = -1 := by
  rw [List.drop_eq_nil_of_le h1, List.drop_eq_getElem_cons h2]; rfl
theorem cmpS_end2 {L M : List Int} {k : Nat} (h1 : k < L.length) (h2 : M.length ≤ k) : cmpS (L.drop k) (M.drop k) = 1 := by
  rw [List.drop_eq_nil_of_le h2, List.drop_eq_getElem_cons h1]; rfl
theorem cmpS_end0 {L M : List Int} {k : Nat} (h1 : L.length ≤ k) (h2 : M.length ≤ k) : cmpS (L.drop k) (M.drop k) = 0 := by
  rw [List.drop_eq_nil_of_le h2, List.drop_eq_nil_of_le h1]; rfl
theorem all_take {L : List Int} {k : Nat} (p : Int → Bool) (hk : k < L.length) : (L.take (k + 1)).all p = ((L.take k).all p && p L[k]) := by
  rw [List.take_succ_eq_append_getElem hk, List.all_append]; simp
end Go.Proofs.YtfbogdeodpkhcaaDoor
