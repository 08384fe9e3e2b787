/- Own rows of bytes, their blocks told. No condition beyond what each theorem states. -/
import Derived.Test.YthncnkkpfcbkfaaDoorTu
import Derived.Test.YthncnkkpfcbkfaaDoorPd
namespace Go.Proofs.YthncnkkpfcbkfaaDoor
open Go Go.RowKit
theorem xor_u8 (x y : UInt8) : bits .xor .u8 (x.toNat : Int) (y.toNat : Int) = ((x ^^^ y).toNat : Int) := by
  have hx := x.toNat_lt; have hy := y.toNat_lt
  rw [u8_xor_nat _ _ hx hy, UInt8.toNat_xor]
theorem own_same {w : World} {a n c c' : Nat} {l l' : List UInt8} (h : ArgB w (.slice (some ⟨a, 0, none⟩) n c) l) (h' : ArgB w (.slice (some ⟨a, 0, none⟩) n c') l') : l = l' := by
  obtain ⟨_, hl, _⟩ := h.cs
  obtain ⟨_, hl', _⟩ := h'.cs
  apply List.ext_getElem (by omega)
  intro j h1 h2
  obtain ⟨g, o, k, e, _, hx⟩ := h.at_ (by omega)
  obtain ⟨g', o', k', e', _, hx'⟩ := h'.at_ (by omega)
  injection e with e _ _
  injection e with e
  injection e with e1 e2
  injection e' with e' _ _
  injection e' with e'
  injection e' with e3 e4
  subst e1 e2 e3 e4
  have := hx j _ (List.getElem?_eq_getElem h1)
  rw [hx' j _ (List.getElem?_eq_getElem h2)] at this
  injection this with this
  injection this with _ this
  exact (UInt8.toNat_inj.1 (by omega)).symm
theorem OwnB.bk {w : World} {B a n c : Nat} {l : List UInt8} (h : OwnB w B (.slice (some ⟨a, 0, Option.none⟩) n c) l) : ∃ cs, Bk w a 5 cs ∧ cs.take l.length = u8s l ∧ B ≤ a ∧ l.length ≤ cs.length := by
  unfold OwnB at h
  rcases h.2 with ⟨hb, _⟩ | ⟨g', cap, cur, hv, hB, hh, h1, h2, h3, h4⟩
  · cases hb
  · injection hv with e1 e2 e3
    injection e1 with e1
    injection e1 with e1
    subst e1 e2 e3
    refine ⟨cur.toList, by unfold Bk; simpa using hh, by rw [← h4, Nat.mul_one], hB, by simp; omega⟩
theorem Rows.own_at {w : World} {B : Nat} {v : Value} {L : List (List UInt8)} (h : Rows w B v L) (hn : 0 < L.length) (h0 : ∀ i (hi : i < L.length), 0 < L[i].length) : ∃ g c, v = .slice (some ⟨g, 0, Option.none⟩) L.length c ∧ B ≤ g ∧ (∃ cs, Bk w g 26 cs) ∧ ∀ i (hi : i < L.length), ∃ a k, w.cell? ⟨g, i, Option.none⟩ = some (.slice (some ⟨a, 0, Option.none⟩) L[i].length k) ∧ k ≤ maxLen ∧ OwnB w B (.slice (some ⟨a, 0, Option.none⟩) L[i].length k) L[i] := by
  obtain ⟨xs, hown, hr⟩ := h
  obtain ⟨g, c, hv, _, hb, _⟩ := own_form hown hn
  subst hv
  refine ⟨g, c, rfl, hb, ?_, fun i hi => ?_⟩
  · obtain ⟨_, cs, hb⟩ := own_bk (g := g) hown rfl
    exact ⟨cs, hb⟩
  · obtain ⟨x, hx, hox⟩ := hr i hi
    obtain ⟨a, k, hxv, _, _, _⟩ := own_form hox (h0 i hi)
    subst hxv
    obtain ⟨_, _, e, _, hk⟩ := own_cap hox
    injection e with _ _ e
    subst e
    have := hown.cells (g := g) rfl i _ hx
    rw [Addr.add_mid, Nat.zero_add] at this
    exact ⟨a, k, this, hk, hox⟩
end Go.Proofs.YthncnkkpfcbkfaaDoor
