/- Lists of lists of bytes that came in. No condition beyond what each theorem states. -/
import Derived.Test.YtlgbmkdeamgpkaaGreatDoorG10
import Derived.Deep.Slices
namespace Go.Proofs.YtlgbmkdeamgpkaaGreatDoor
open Go Go.RowKit Go.PlainAid Go.ChangeShapes Go.WideShapes Go.ChangeAt Go.Deep
section
variable {H : Type} {enc : TypeId × Value → H} {P : Program}
/-- a list of lists of bytes that came in -/
theorem open_rowsR {W : World} {b0 : Nat} {t e q : TypeId} {v : Value} {d : DataW H} {ps : List MemPlace} (ht : P.underlying t = some (.slice e)) (he : P.underlying e = some (.slice q)) (hq : P.underlying q = some (.int .u8))
    (ce : P.cellsOf e = 1) (cq : P.cellsOf q = 1) (be : P.bytesOf e = 24) (bq : P.bytesOf q = 1) (hv : Value.okWide P W .any b0 t v) (h : DataW.Trod enc P W 0 (fun _ => true) true t v d ps)
    (hz : ∀ n ∈ d.weights P t, n ≤ reachBytes) :
    ∃ L : List (List UInt8), ArgR W v L ∧ L.length * 24 ≤ reachBytes ∧ ∀ l ∈ L, l.length ≤ reachBytes := by
  obtain ⟨a, len, cap, rfl⟩ := okWide_slice ht hv
  obtain ⟨fuel, hf⟩ := h
  rcases open_int_rows ht he hq ce cq hf with ⟨hcs, hx⟩ | ⟨a', len', cap', A, L, C, Z, hcs, _, hl, hm, hx, hr⟩
  · simp [Value.cells] at hcs
    obtain ⟨rfl, rfl, rfl⟩ := hcs
    exact ⟨[], ⟨Option.none, 0, [], rfl, Nat.le_refl _, rfl, fun h => absurd rfl h, by intro i hi; simp at hi⟩, by simp [reachBytes], by simp⟩
  · simp [Value.cells] at hcs
    obtain ⟨rfl, rfl, rfl⟩ := hcs
    injection hx with hd _
    let R : Nat → List UInt8 := fun r => ((Z r).take (L r)).map u8of
    have hRl : ∀ r, r < cap → (R r).length = L r := fun r hr' => by
      obtain ⟨_, h1, _, h3, _⟩ := hr r hr'
      simp [R]; omega
    refine ⟨(List.range len).map R, ⟨some a', cap, (List.range len).map fun r => .slice (A r) (L r) (C r), by simp, by simpa using hl, by simp, fun hne => ?_, fun i hi => ?_⟩, ?_, ?_⟩
    · have hlen : 0 < len := by
        rcases Nat.eq_zero_or_pos len with h0 | h0
        · subst h0; simp at hne
        · exact h0
      obtain ⟨b, o, rfl⟩ := addr_plain (hr 0 (by omega)).1
      refine ⟨b, o, rfl, fun j v hj => ?_⟩
      simp only [List.getElem?_map] at hj
      have hj' : j < len := by
        rcases Nat.lt_or_ge j len with h' | h'
        · exact h'
        · rw [List.getElem?_eq_none (by simpa using h')] at hj; simp at hj
      rw [List.getElem?_range hj'] at hj
      simp only [Option.map_some, Option.some.injEq] at hj
      subst hj
      rw [← Addr.add_mid]
      exact (hr j (by omega)).1
    · have hi' : i < len := by simpa using hi
      refine ⟨.slice (A i) (L i) (C i), by simp [hi'], ?_⟩
      simp only [List.getElem_map, List.getElem_range]
      obtain ⟨_, h1, h2, h3, h4, h5, h6⟩ := hr i (by omega)
      exact argB_cells h3 h1 h5 h4 (fun a'' h c hc => (h6 a'' h).2 c hc)
    · simp only [List.length_map, List.length_range]
      have := hz ((len + (cap - len)) * P.bytesOf e) (by rw [hd]; simp [DataW.weights, ht])
      rw [be] at this
      omega
    · intro l hl'
      simp only [List.mem_map, List.mem_range] at hl'
      obtain ⟨r, hr', rfl⟩ := hl'
      rw [hRl r (by omega)]
      obtain ⟨_, h1, h2, h3, h4, h5, h6⟩ := hr r (by omega)
      cases hA : A r with
      | none => have := h5 hA; omega
      | some a2 =>
        have hmem : (L r + (C r - L r)) * P.bytesOf q ∈ d.weights P t := by
          rw [hd]
          simp only [DataW.weights, ht, List.mem_cons, List.mem_append]
          refine .inr (.inl ?_)
          have : ∀ (l : List (DataW H)) (x : DataW H) (n : Nat), x ∈ l → n ∈ x.weights P e → n ∈ DataW.weightsAll P e l := by
            intro l
            induction l with
            | nil => intro x n hx; simp at hx
            | cons y ys ih =>
              intro x n hx hn
              simp only [DataW.weightsAll, List.mem_append]
              rcases List.mem_cons.1 hx with rfl | hx
              · exact .inl hn
              · exact .inr (ih x n hx hn)
          refine this _ (intRow .u8 (A r) (L r) (Z r)) _ (List.mem_map.2 ⟨r, by simpa using hr', rfl⟩) ?_
          rw [hA]
          simp only [intRow, DataW.weights, he, lits, List.length_map, List.length_take, List.length_drop, h3, List.mem_cons]
          left
          rw [Nat.min_eq_left h1]
        have := hz _ hmem
        rw [bq] at this
        omega
end
end Go.Proofs.YtlgbmkdeamgpkaaGreatDoor
