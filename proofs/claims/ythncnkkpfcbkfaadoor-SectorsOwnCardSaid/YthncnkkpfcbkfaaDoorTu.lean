/- A sector in which one byte is turned is no part's, in plain words. No condition beyond what each theorem states. -/
import Derived.Test.YthncnkkpfcbkfaaDoorSp
namespace Go.Proofs.YthncnkkpfcbkfaaDoor
open Go

theorem layS_parts (p : Pt) (h : p.data.length ≤ 49) : (layS p).drop 60 = four (crcS ((layS p).take 60)).toNat := by
  have hp : (padS (headS p)).length = 60 := padS_length _ (by rw [headS_length]; omega)
  unfold layS
  rw [List.drop_left' hp, List.take_left' hp]
theorem lookS_turned (p : Pt) (h : p.data.length ≤ 49) (i : Nat) (hi : i < (layS p).length) (c : UInt8) (hc : c ≠ (layS p)[i]) : lookS ((layS p).set i c) = none := by
  cases hl : lookS ((layS p).set i c) with
  | none => rfl
  | some q =>
    exfalso
    obtain ⟨ok, hb, _, _⟩ := lookS_some hl
    have hq := layS_parts q (by have := ok.2.2.2.2.2.1; omega)
    have hp := layS_parts p h
    rw [← hb] at hq
    generalize hB : layS p = b at *
    have hlen : b.length = 64 := by rw [← hB]; exact layS_length p h
    by_cases h60 : i < 60
    · have e1 : (b.set i c).drop 60 = b.drop 60 := by rw [List.drop_set]; rw [if_pos h60]
      have e2 : (b.set i c).take 60 = (b.take 60).set i c := by rw [List.take_set]
      rw [e1, e2, hp] at hq
      have h1 := ofFour_four (crcS (b.take 60)).toNat (crcS _).isLt []
      have h2 := ofFour_four (crcS ((b.take 60).set i c)).toNat (crcS _).isLt []
      rw [← hq, h1] at h2
      have h3 : crcS (b.take 60) = crcS ((b.take 60).set i c) := BitVec.eq_of_toNat_eq h2
      exact crcS_set (b.take 60) i c (by simp; omega) (by rw [List.getElem_take]; exact hc) h3.symm
    · have e2 : (b.set i c).take 60 = b.take 60 := by rw [List.take_set, List.set_eq_of_length_le (by simp; omega)]
      rw [e2, ← hp] at hq
      have hg : ((b.set i c).drop 60)[i - 60]? = (b.drop 60)[i - 60]? := by rw [hq]
      rw [List.getElem?_drop, List.getElem?_drop, show 60 + (i - 60) = i by omega, List.getElem?_set_self hi, List.getElem?_eq_getElem hi] at hg
      injection hg with hg
      exact hc hg
end Go.Proofs.YthncnkkpfcbkfaaDoor
