/- Contracts at a known answer, for the laws of three texts. No condition beyond what each theorem states. -/
import Derived.Test.YtfbajcgkcamnnaaDoorK
import Derived.Test.YtfbajcgkcamnnaaDoorL3
import Derived.Deep.Cut
import Derived.Deep.CutRange
import Derived.Deep.DeepCutAuto
namespace Go.Proofs.YtfbajcgkcamnnaaDoor
open Go Go.RowKit Go.PlainAid

def Bv (b : Bool) : Prop := ∃ c, b = c
def Iv (b : Int) : Prop := ∃ c, b = c

theorem valid_at (s : ByteArray) (b : Bool) (h : (path s.data.toList).isSome = b) (w : World) (hs : s.size ≤ maxLen) :
    Calls Tryd.prog 12 #[.string s] w fun e w' => e = .returned (.bool b) ∧ w' = w := by rw [← h]; exact valid_any s w hs
theorem covers_at (s t : ByteArray) (b : Bool) (h : coversL s.data.toList t.data.toList = b) (w : World) (hs : s.size ≤ maxLen) (ht : t.size ≤ maxLen) :
    Calls Tryd.prog 23 #[.string s, .string t] w fun e w' => e = .returned (.bool b) ∧ w' = w := by rw [← h]; exact covers_any s t w hs ht
theorem overlap_at (s t : ByteArray) (b : Bool) (h : overlapL s.data.toList t.data.toList = b) (w : World) (hs : s.size ≤ maxLen) (ht : t.size ≤ maxLen) :
    Calls Tryd.prog 25 #[.string s, .string t] w fun e w' => e = .returned (.bool b) ∧ w' = w := by rw [← h]; exact overlap_any s t w hs ht
theorem compare_at (s t : ByteArray) (n : Int) (h : Lib.compareBytes s.data.toList t.data.toList = n) (w : World) :
    Calls Tryd.prog 27 #[.string s, .string t] w fun e w' => e = .returned (.int .i64 n) ∧ w' = w := by rw [← h]; exact compare_any s t w

theorem meet_side (s t : ByteArray) : (overlapL s.data.toList t.data.toList = false ∧ meetB s t = ⟨#[]⟩) ∨ (overlapL s.data.toList t.data.toList = true ∧ meetB s t = t ∧ coversL s.data.toList t.data.toList = true) ∨
    (overlapL s.data.toList t.data.toList = true ∧ meetB s t = s ∧ coversL t.data.toList s.data.toList = true ∧ (s.toList == t.toList) = false ∧ (s.data.toList == t.data.toList) = false) := by
  rw [meet_same]
  unfold rmeetB overlapL
  rw [covers_eq, covers_eq]
  cases h1 : rcoversL s.data.toList t.data.toList with
  | true => right; left; simp
  | false =>
    cases h2 : rcoversL t.data.toList s.data.toList with
    | false => left; simp
    | true =>
      right; right
      have hne : s ≠ t := fun e => by subst e; rw [h1] at h2; cases h2
      obtain ⟨f1, f2⟩ := str_eq_facts s t hne
      exact ⟨rfl, by simp, rfl, f1, f2⟩
end Go.Proofs.YtfbajcgkcamnnaaDoor
namespace Go.Proofs.YtfbajcgkcamnnaaDoor
open Go Go.RowKit Go.PlainAid
theorem back_split {l : Bytes} {D : List ByteArray} (h : tx D = (path l).getD []) : ((path l).isSome = false ∧ errL l = 10 ∧ D = []) ∨ ((path l).isSome = true ∧ errL l = 0 ∧ joinL (tx D) = some l ∧ depthL l = D.length ∧
    (∀ m r : ByteArray, (⟨((joinL (tx (D ++ [m]))).getD []).toArray⟩ : ByteArray) = r → errJ (tx (D ++ [m])) = 10 ∨ (errJ (tx (D ++ [m])) = 0 ∧ coversL l r.data.toList = true ∧ coversL r.data.toList l = false ∧
      depthL r.data.toList = D.length + 1 ∧ Lib.compareBytes l r.data.toList = -1 ∧ r.size ≤ maxLen)) ∧ (∀ x ∈ D, x.size ≤ 6)) := by
  unfold errL
  cases hp : path l with
  | none => left; rw [hp] at h; exact ⟨rfl, rfl, tx_inj h⟩
  | some X =>
    right
    rw [hp] at h
    have h : tx D = X := h
    subst h
    have hall := (path_all hp).1
    refine ⟨rfl, rfl, join_path hp, by unfold depthL; rw [hp]; simp only [tx_length], fun m r hr => ?_, fun x hx => ?_⟩
    · subst hr
      have e : tx (D ++ [m]) = tx D ++ [m.data.toList] := by simp [tx]
      unfold errJ
      rw [e]
      cases hj : joinL (tx D ++ [m.data.toList]) with
      | none => left; rfl
      | some r =>
        right
        obtain ⟨h1, h2, h3, h4⟩ := more_covers hp hj
        have h5 := path_len (by rw [path_join hj]; rfl : (path r).isSome = true)
        refine ⟨rfl, h1, h2, by rw [show (⟨((some r).getD []).toArray⟩ : ByteArray).data.toList = r from rfl, h3, tx_length], h4, ?_⟩
        show r.toArray.size ≤ maxLen
        unfold maxLen; simp; omega
    · have : segB x.data.toList = true := List.all_eq_true.1 hall _ (List.mem_map.2 ⟨x, hx, rfl⟩)
      simp only [segB, Bool.and_eq_true, decide_eq_true_eq] at this
      have e : x.data.toList.length = x.size := by simp
      omega
theorem back_join (L : List ByteArray) (r : ByteArray) (hr : (⟨((joinL (tx L)).getD []).toArray⟩ : ByteArray) = r) : (errJ (tx L) = 10 ∧ r = ⟨#[]⟩) ∨ (errJ (tx L) = 0 ∧ path r.data.toList = some (tx L) ∧ r.size ≤ maxLen) := by
  subst hr
  unfold errJ
  cases hj : joinL (tx L) with
  | none => left; exact ⟨rfl, rfl⟩
  | some r =>
    right
    have h5 := path_len (by rw [path_join hj]; rfl : (path r).isSome = true)
    refine ⟨rfl, path_join hj, ?_⟩
    show r.toArray.size ≤ maxLen
    unfold maxLen; simp; omega
end Go.Proofs.YtfbajcgkcamnnaaDoor
