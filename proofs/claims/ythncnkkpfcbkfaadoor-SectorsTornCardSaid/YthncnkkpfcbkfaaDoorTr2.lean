/- Torn tries: what the walk of SectorsTorn asks of them. No condition beyond what each theorem states. -/
import Derived.Test.YthncnkkpfcbkfaaDoorTo
import Derived.Test.YthncnkkpfcbkfaaDoorPd
import Derived.Test.YthncnkkpfcbkfaaDoorRp
namespace Go.Proofs.YthncnkkpfcbkfaaDoor
open Go Go.RowKit

theorem TornS.zero {q k : Nat} {gen : Nat} : TornS gen q k zero64S := .inl rfl
/-- torn sectors behind packed records: just the records are found -/
theorem scan_torn (gen : Int) (R S : List (List UInt8)) (hsh : ∀ d ∈ R, d.length ≤ 188) (hl : R.length ≤ 40) (hg : R = [] ∨ 1 ≤ gen ∧ gen ≤ 1073741824) (hS : S.length = 5) (ht : ∀ k (h : k < S.length), TornS gen.toNat R.length k S[k]) :
    scanS (packL gen.toNat 0 R ++ S) gen = (R, (packL gen.toNat 0 R).length) := by
  by_cases hg2 : 1 ≤ gen ∧ gen ≤ 1073741824
  · have e : ((gen.toNat : Nat) : Int) = gen := by omega
    have h := scanS_packL gen.toNat (by omega) (by omega) R S hsh (by omega) (oneS_torn _ S gen.toNat R.length R.length hS ht)
    rw [e] at h
    exact h
  · rcases hg with rfl | hg
    · have h0 := ht 0 (by omega)
      have hz : S[0]'(by omega) = zero64S := by
        rcases h0 with h | ⟨N, d, _, ok, _⟩
        · exact h
        · have h1 := ok.1; have h2 := ok.2.1
          simp only at h1 h2
          omega
      have h1 : oneS ([] ++ S) gen 0 0 = none := oneS_none (by
        unfold partS
        rw [List.nil_append, List.getElem?_eq_getElem (by omega), hz]
        simp only [look_zero])
      exact scan_stop (L := [] ++ S) (used := 0) (recs := []) rfl (by simp) h1
    · exact absurd hg hg2
/-- the whole record behind packed records, torn sectors behind it -/
theorem scan_full (gen : Int) (R S : List (List UInt8)) (data : List UInt8) (hsh : ∀ d ∈ R, d.length ≤ 188) (hl : R.length ≤ 40) (hg : 1 ≤ gen ∧ gen ≤ 1073741824) (hd : data.length ≤ 188) (hS : S.length = 5)
    (hp : ∀ j (h : j < S.length), j < chunkN data → S[j] = layS ⟨gen.toNat, R.length, j, chunkN data, pieceS data j⟩) (ht : ∀ k (h : k < S.length), chunkN data ≤ k → TornS gen.toNat R.length k S[k]) :
    scanS (packL gen.toNat 0 R ++ S) gen = (R ++ [data], (packL gen.toNat 0 R).length + chunkN data) := by
  have e : ((gen.toNat : Nat) : Int) = gen := by omega
  have hN := chunk_le hd
  have hs : S = partsS gen.toNat R.length data ++ S.drop (chunkN data) := by
    apply List.ext_getElem?
    intro j
    by_cases hj : j < chunkN data
    · rw [List.getElem?_append_left (by rw [partsS_length]; exact hj), List.getElem?_eq_getElem (by omega), hp j (by omega) hj]
      simp [partsS, hj]
    · rw [List.getElem?_append_right (by rw [partsS_length]; omega), partsS_length, List.getElem?_drop]
      congr 1; omega
  have hpk : packL gen.toNat 0 (R ++ [data]) = packL gen.toNat 0 R ++ partsS gen.toNat R.length data := by rw [packL_snoc, Nat.zero_add]
  have hlen : (packL gen.toNat 0 (R ++ [data])).length = (packL gen.toNat 0 R).length + chunkN data := by rw [hpk, List.length_append, partsS_length]
  have hnone : oneS (packL gen.toNat 0 (R ++ [data]) ++ S.drop (chunkN data)) (gen.toNat : Int) (packL gen.toNat 0 (R ++ [data])).length (R ++ [data]).length = none := by
    apply oneS_none
    cases h0 : partS (packL gen.toNat 0 (R ++ [data]) ++ S.drop (chunkN data)) (gen.toNat : Int) (packL gen.toNat 0 (R ++ [data])).length (R ++ [data]).length 0 0 with
    | none => rfl
    | some p =>
      exfalso
      have hat : (packL gen.toNat 0 (R ++ [data]) ++ S.drop (chunkN data))[(packL gen.toNat 0 (R ++ [data])).length]? = some (S[chunkN data]'(by omega)) := by
        rw [List.getElem?_append_right (Nat.le_refl _), Nat.sub_self, List.getElem?_drop, Nat.add_zero, List.getElem?_eq_getElem (by omega)]
      have := (partS_torn hat (ht (chunkN data) (by omega) (Nat.le_refl _)) h0).1
      simp at this
  have h := scanS_packL gen.toNat (by omega) (by omega) (R ++ [data]) (S.drop (chunkN data)) (by
    intro d hd'
    rcases List.mem_append.1 hd' with h | h
    · exact hsh d h
    · rw [List.mem_singleton.1 h]; exact hd) (by simp; omega) hnone
  rw [e, hlen, hpk, List.append_assoc, ← hs] at h
  exact h
/-- a list of the call's own rows in which one is replaced -/
theorem Rows.set {w : World} {B g n c i : Nat} {x : Value} {l : List UInt8} {L : List (List UInt8)} (h : Rows w B (.slice (some ⟨g, 0, Option.none⟩) n c) L) (hi : i < L.length) (hx : OwnB w B x l) :
    Rows (w.setCell ⟨g, i, Option.none⟩ x) B (.slice (some ⟨g, 0, Option.none⟩) n c) (L.set i l) ∧ Kp (One g) w (w.setCell ⟨g, i, Option.none⟩ x) ∧ B ≤ g ∧ g < w.heap.size := by
  obtain ⟨xs, hown, hr⟩ := h
  have hxl : xs.length = L.length := by have := hown.1; omega
  have hk : Kp (One g) w (w.setCell ⟨g, i, Option.none⟩ x) := (Kp.refl _ _).set (.inl (One.self _)) i x
  rcases hown.2 with ⟨hb, _⟩ | ⟨g', cap, cur, hv, hB, hh, h1, h2, h3, h4⟩
  · cases hb
  · injection hv with e1 e2 e3
    injection e1 with e1
    injection e1 with e1
    subst e1 e2 e3
    have hbk : Bk w g 26 cur.toList := by unfold Bk; simpa using hh
    have hgl := hbk.lt
    refine ⟨⟨xs.set i x, ?_, fun j hj => ?_⟩, hk, hB, hgl⟩
    · have hb2 := hbk.set_ i x
      refine ⟨by simp [hxl], .inr ⟨g, c, (cur.toList.set i x).toArray, by rw [List.length_set], hB, ?_, by rw [List.length_set]; exact h1, h2, by simpa using h3, ?_⟩⟩
      · unfold Bk at hb2; simpa using hb2
      · rw [List.length_set]
        simp only
        rw [← h4, List.take_set]
    · have hj' : j < L.length := by simpa using hj
      by_cases hij : i = j
      · subst hij
        refine ⟨x, by rw [List.getElem?_set_self (by omega)], ?_⟩
        rw [List.getElem_set_self]
        exact hx.kp hk fun g0 h0 h1 => own_ne hx hbk (by decide) (by rw [h0, show g0 = g from h1])
      · obtain ⟨y, hy, hoy⟩ := hr j hj'
        refine ⟨y, by rw [List.getElem?_set_ne hij]; exact hy, ?_⟩
        rw [List.getElem_set_ne hij]
        exact hoy.kp hk fun g0 h0 h1 => own_ne hoy hbk (by decide) (by rw [h0, show g0 = g from h1])
theorem Rows.bk {w : World} {B g n c : Nat} {L : List (List UInt8)} (h : Rows w B (.slice (some ⟨g, 0, Option.none⟩) n c) L) : ∃ cs, Bk w g 26 cs ∧ ∀ i, i < L.length → ∃ x, cs[i]? = some x := by
  obtain ⟨xs, hown, hr⟩ := h
  have hxl : xs.length = L.length := by have := hown.1; omega
  rcases hown.2 with ⟨hb, _⟩ | ⟨g', cap, cur, hv, hB, hh, h1, h2, h3, h4⟩
  · cases hb
  · injection hv with e1 e2 e3
    injection e1 with e1
    injection e1 with e1
    subst e1 e2 e3
    refine ⟨cur.toList, by unfold Bk; simpa using hh, fun i hi => ?_⟩
    have h5 : cur.toList.length = c := by simpa using h3
    exact ⟨cur.toList[i]'(by omega), List.getElem?_eq_getElem _⟩
theorem ArgR.take {w : World} {A : Option Addr} {n c : Nat} {L : List (List UInt8)} (h : ArgR w (.slice A n c) L) (k : Nat) (hk : k ≤ L.length) : ArgR w (.slice A k c) (L.take k) := by
  obtain ⟨A', c', xs, e, hc, hl, hcs, hx⟩ := h
  injection e with e1 e2 e3
  subst e1 e2 e3
  have hlen : (L.take k).length = k := by rw [List.length_take]; omega
  refine ⟨A, c, xs.take k, by rw [hlen], by rw [hlen]; omega, by rw [hlen, List.length_take]; omega, fun hne => ?_, fun i hi => ?_⟩
  · obtain ⟨g', o', e, hr⟩ := hcs (fun e => hne (by rw [e]; simp))
    refine ⟨g', o', e, fun j v hv => hr j v ?_⟩
    rw [List.getElem?_take] at hv
    split at hv
    · exact hv
    · cases hv
  · obtain ⟨x, h1, h2⟩ := hx i (by omega)
    refine ⟨x, by rw [List.getElem?_take, if_pos (by omega)]; exact h1, ?_⟩
    rw [List.getElem_take]
    exact h2
end Go.Proofs.YthncnkkpfcbkfaaDoor
