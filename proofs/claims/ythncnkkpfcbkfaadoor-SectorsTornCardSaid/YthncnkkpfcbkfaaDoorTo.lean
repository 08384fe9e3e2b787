/- Torn tries behind packed records, in plain words (SectorsTorn). NOT BUILT YET. No condition beyond what each theorem states. -/
import Derived.Test.YthncnkkpfcbkfaaDoorSp
namespace Go.Proofs.YthncnkkpfcbkfaaDoor
open Go

def zero64S : List UInt8 := List.replicate 64 0
theorem look_zero : lookS zero64S = none := by
  unfold lookS
  rw [if_neg]
  rintro ⟨_, h, _⟩
  have h1 := h.1
  have : (readS zero64S).gen = 0 := by decide
  omega
/-- a sector of a try that was torn: none, or a part that is not its record's last -/
def TornS (gen seq k : Nat) (s : List UInt8) : Prop := s = zero64S ∨ ∃ N d, s = layS ⟨gen, seq, k, N, d⟩ ∧ okPt ⟨gen, seq, k, N, d⟩ ∧ k + 1 < N
theorem partS_torn {L : List (List UInt8)} {gen at_ seq k q i parts : Nat} {s : List UInt8} (h : L[at_]? = some s) (ht : TornS gen q k s) {p : Pt} (hp : partS L (gen : Int) at_ seq i parts = some p) : seq = q ∧ i = k ∧ k + 1 < p.parts ∧ (0 < parts → p.parts = parts) := by
  unfold partS at hp
  rw [h] at hp
  simp only at hp
  rcases ht with rfl | ⟨N, d, rfl, ok, hN⟩
  · rw [look_zero] at hp; cases hp
  · rw [lookS_layS _ ok] at hp
    simp only at hp
    split at hp
    · rename_i hc
      injection hp with hp
      subst hp
      exact ⟨hc.2.1.symm, hc.2.2.1.symm, hN, hc.2.2.2⟩
    · cases hp
/-- no record stands in torn sectors -/
theorem oneS_torn (pre : List (List UInt8)) (S : List (List UInt8)) (gen seq q : Nat) (hS : S.length = 5) (ht : ∀ k (h : k < S.length), TornS gen q k S[k]) : oneS (pre ++ S) (gen : Int) pre.length seq = none := by
  have hat : ∀ k (h : k < S.length), (pre ++ S)[pre.length + k]? = some S[k] := fun k h => by
    rw [List.getElem?_append_right (by omega), show pre.length + k - pre.length = k by omega, List.getElem?_eq_getElem h]
  unfold oneS
  cases h0 : partS (pre ++ S) (gen : Int) pre.length seq 0 0 with
  | none => rfl
  | some p =>
    simp only
    have h1 := hat 0 (by omega)
    rw [Nat.add_zero] at h1
    obtain ⟨e1, e2, e3, _⟩ := partS_torn h1 (ht 0 (by omega)) h0
    have ok := partS_ok h0
    have h4 : p.parts ≤ 4 := ok.2.2.2.1
    obtain ⟨m, hm⟩ : ∃ m, p.parts = m + 1 := ⟨p.parts - 1, by omega⟩
    have hn : uptoS (pre ++ S) (gen : Int) pre.length seq p.parts p.parts = none := by
      rw [hm]
      cases h5 : partS (pre ++ S) (gen : Int) (pre.length + m) seq m (m + 1) with
      | none =>
        rw [uptoS_succ _ _ _ _ _ _ (by omega), h5]
        cases uptoS (pre ++ S) (gen : Int) pre.length seq (m + 1) m <;> rfl
      | some r =>
        exfalso
        obtain ⟨_, _, h6, h7⟩ := partS_torn (hat m (by omega)) (ht m (by omega)) h5
        have := h7 (by omega)
        omega
    rw [hn]
end Go.Proofs.YthncnkkpfcbkfaaDoor
