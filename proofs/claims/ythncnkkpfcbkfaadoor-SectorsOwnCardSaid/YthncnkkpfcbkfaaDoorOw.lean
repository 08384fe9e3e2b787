/- What the loops of SectorsOwn keep. No condition beyond what each theorem states. -/
import Derived.Test.YthncnkkpfcbkfaaDoorPo
namespace Go.Proofs.YthncnkkpfcbkfaaDoor
open Go Go.RowKit

theorem own_holder {w : World} {B g n c : Nat} {xs : List Value} (h : w.ownsRow B 26 1 (.slice (some ⟨g, 0, none⟩) n c) n xs) : ∃ cs, Bk w g 26 cs ∧ ∀ i, i < n → cs[i]? = xs[i]? := by
  have hl := h.1
  rcases h.2 with ⟨hb, _⟩ | ⟨g', cap, cur, hv, hB, hh, h1, h2, h3, h4⟩
  · cases hb
  · injection hv with e1 e2 e3
    injection e1 with e1
    injection e1 with e1
    subst e1 e3
    refine ⟨cur.toList, by unfold Bk; simpa using hh, fun i hi => ?_⟩
    rw [← h4, List.getElem?_take, if_pos (by omega)]
/-- the rows x, the part p and the rows r, as they are written and grown: all in the zone Z, the rest of W0 as it was -/
structure OInv (Z : Nat → Prop) (W0 : World) (gX bP gR N K m : Nat) (f0 f1 f2 f3 : Value) (E : List Value) (w : World) : Prop where
  pool : Pool w Z m E
  len : E.length = N + 1 + K
  hx : ∃ cs, Bk w gX 26 cs ∧ ∀ j, j < N → cs[j]? = E[j]?
  hp : ∃ pv, E[N]? = some pv ∧ Bk w bP 33 [f0, f1, f2, f3, pv]
  hr : 0 < K → ∃ cs, Bk w gR 26 cs ∧ ∀ j, j < K → cs[j]? = E[N + 1 + j]?
  kp : Kp Z W0 w
section
variable {Z : Nat → Prop} {W0 w : World} {gX bP gR N K m : Nat} {f0 f1 f2 f3 : Value} {E : List Value}
theorem OInv.no {w' : World} (h : OInv Z W0 gX bP gR N K m f0 f1 f2 f3 E w) (hk : Kp No w w') : OInv Z W0 gX bP gR N K m f0 f1 f2 f3 E w' := by
  obtain ⟨h1, h2, ⟨cs, h3, h3'⟩, ⟨pv, h4, h4'⟩, h5, h6⟩ := h
  exact ⟨h1.no hk, h2, ⟨cs, h3.no hk, h3'⟩, ⟨pv, h4, h4'.no hk⟩, fun hK => by obtain ⟨cs, a, b⟩ := h5 hK; exact ⟨cs, a.no hk, b⟩, h6.trans hk.of_no⟩
theorem OInv.more {m' : Nat} (h : OInv Z W0 gX bP gR N K m f0 f1 f2 f3 E w) (hm : m ≤ m') : OInv Z W0 gX bP gR N K m' f0 f1 f2 f3 E w := ⟨h.pool.more hm, h.len, h.hx, h.hp, h.hr, h.kp⟩
/-- one byte of a row is written -/
theorem OInv.store (h : OInv Z W0 gX bP gR N K m f0 f1 f2 f3 E w) {i a n c j : Nat} (hi : E[i]? = some (.slice (some ⟨a, 0, none⟩) n c)) (hj : j < n) (z : Int) (hz : 0 ≤ z ∧ z < 256) :
    OInv Z W0 gX bP gR N K m f0 f1 f2 f3 E (w.setCell ⟨a, j, none⟩ (.int .u8 z)) ∧ (∃ v, w.cell? ⟨a, j, none⟩ = some v) ∧ w.frozen? ⟨a, j, none⟩ = false := by
  obtain ⟨p1, p2, p3, p4, ds, p5⟩ := h.pool.store hi hj z hz
  have hk : Kp (One a) w (w.setCell ⟨a, j, none⟩ (.int .u8 z)) := (Kp.refl _ _).set (.inl (One.self _)) _ _
  obtain ⟨h1, h2, ⟨cs, h3, h3'⟩, ⟨pv, h4, h4'⟩, h5, h6⟩ := h
  refine ⟨⟨p1, h2, ⟨cs, h3.kp hk (fun e => ?_), h3'⟩, ⟨pv, h4, h4'.kp hk (fun e => ?_)⟩, fun hK => ?_, ?_⟩, p2, p3⟩
  · exact Bk.ne_ h3 p5 (by decide) e
  · exact Bk.ne_ h4' p5 (by decide) e
  · obtain ⟨cs, a', b⟩ := h5 hK
    exact ⟨cs, a'.kp hk (fun e => Bk.ne_ a' p5 (by decide) e), b⟩
  · exact h6.set (.inl p4) _ _
/-- a row's header is stored anew: what all kinds of growing share -/
theorem OInv.grow {w' : World} (h : OInv Z W0 gX bP gR N K m f0 f1 f2 f3 E w) {i : Nat} {x v' : Value} {l l' : List UInt8} (hi : E[i]? = some x) (hx : OwnB w 0 x l) (hl : l.length ≤ m) (hl' : l'.length ≤ l.length + 1) (ho : OwnB w' 0 v' l') (hk : Kp (fun k => x.ownBlock = some k) w w')
    (hg : ∀ g, v'.ownBlock = some g → x.ownBlock = some g ∨ g = w.heap.size) (hz : Z w.heap.size) :
    Pool w' Z (m + 1) (E.set i v') ∧ (∃ cs, Bk w' gX 26 cs ∧ ∀ j, j < N → cs[j]? = E[j]?) ∧ (∃ pv, E[N]? = some pv ∧ Bk w' bP 33 [f0, f1, f2, f3, pv]) ∧ (0 < K → ∃ cs, Bk w' gR 26 cs ∧ ∀ j, j < K → cs[j]? = E[N + 1 + j]?) ∧ Kp Z W0 w' := by
  have pg := h.pool.grow hi hx hl hl' ho hk hg hz
  obtain ⟨l0, _, _, hxz⟩ := h.pool.own i x hi
  obtain ⟨h1, h2, ⟨cs, h3, h3'⟩, ⟨pv, h4, h4'⟩, h5, h6⟩ := h
  refine ⟨pg, ⟨cs, h3.kp hk (own_ne hx h3 (by decide)), h3'⟩, ⟨pv, h4, h4'.kp hk (own_ne hx h4' (by decide))⟩, fun hK => ?_, h6.then_ (N := fun k => x.ownBlock = some k) hk (fun j _ hj => hxz j hj)⟩
  obtain ⟨cs, a', b⟩ := h5 hK
  exact ⟨cs, a'.kp hk (own_ne hx a' (by decide)), b⟩
theorem OInv.growX {w' : World} (h : OInv Z W0 gX bP gR N K m f0 f1 f2 f3 E w) (hZ : Z gX) (hXR : 0 < K → gX ≠ gR) {k : Nat} (hk0 : k < N) {x v' : Value} {l l' : List UInt8} (hi : E[k]? = some x) (hx : OwnB w 0 x l) (hl : l.length ≤ m) (hl' : l'.length ≤ l.length + 1) (ho : OwnB w' 0 v' l') (hk : Kp (fun k => x.ownBlock = some k) w w')
    (hg : ∀ g, v'.ownBlock = some g → x.ownBlock = some g ∨ g = w.heap.size) (hz : Z w.heap.size) :
    OInv Z W0 gX bP gR N K (m + 1) f0 f1 f2 f3 (E.set k v') (w'.setCell ⟨gX, k, none⟩ v') ∧ (∃ u, w'.cell? ⟨gX, k, none⟩ = some u) ∧ w'.frozen? ⟨gX, k, none⟩ = false := by
  obtain ⟨q1, ⟨cs, q2, q2'⟩, ⟨pv, q3, q3'⟩, q4, q5⟩ := h.grow hi hx hl hl' ho hk hg hz
  have hlen := h.len
  have hkc : cs[k]? = some x := by rw [q2' k hk0]; exact hi
  refine ⟨⟨q1.holder q2 (by decide) k v', by rw [List.length_set]; exact hlen, ⟨cs.set k v', q2.set_ k v', fun j hj => ?_⟩, ⟨pv, by rw [List.getElem?_set_ne (by omega)]; exact q3, q3'.far (p := ⟨gX, k, none⟩) (fun e => Bk.ne_ q3' q2 (by decide) e) v'⟩, fun hK => ?_, q5.set (.inl hZ) _ _⟩, ⟨x, by rw [q2.cell]; exact hkc⟩, q2.frozen k⟩
  · by_cases e : k = j
    · subst e
      have hcl : k < cs.length := (List.getElem?_eq_some_iff.1 hkc).1
      rw [List.getElem?_set_self hcl, List.getElem?_set_self (by omega)]
    · rw [List.getElem?_set_ne e, List.getElem?_set_ne e]; exact q2' j hj
  · obtain ⟨cr, r1, r2⟩ := q4 hK
    exact ⟨cr, r1.far (p := ⟨gX, k, none⟩) (fun e => hXR hK e.symm) v', fun j hj => by rw [List.getElem?_set_ne (by omega)]; exact r2 j hj⟩
theorem OInv.growR {w' : World} (h : OInv Z W0 gX bP gR N K m f0 f1 f2 f3 E w) (hZ : Z gR) (hXR : gX ≠ gR) {k : Nat} (hk0 : k < K) {x v' : Value} {l l' : List UInt8} (hi : E[N + 1 + k]? = some x) (hx : OwnB w 0 x l) (hl : l.length ≤ m) (hl' : l'.length ≤ l.length + 1) (ho : OwnB w' 0 v' l') (hk : Kp (fun k => x.ownBlock = some k) w w')
    (hg : ∀ g, v'.ownBlock = some g → x.ownBlock = some g ∨ g = w.heap.size) (hz : Z w.heap.size) :
    OInv Z W0 gX bP gR N K (m + 1) f0 f1 f2 f3 (E.set (N + 1 + k) v') (w'.setCell ⟨gR, k, none⟩ v') ∧ (∃ u, w'.cell? ⟨gR, k, none⟩ = some u) ∧ w'.frozen? ⟨gR, k, none⟩ = false := by
  obtain ⟨q1, ⟨cs, q2, q2'⟩, ⟨pv, q3, q3'⟩, q4, q5⟩ := h.grow hi hx hl hl' ho hk hg hz
  have hlen := h.len
  obtain ⟨cr, r1, r2⟩ := q4 (by omega)
  have hkc : cr[k]? = some x := by rw [r2 k hk0]; exact hi
  refine ⟨⟨q1.holder r1 (by decide) k v', by rw [List.length_set]; exact hlen, ⟨cs, q2.far (p := ⟨gR, k, none⟩) hXR v', fun j hj => by rw [List.getElem?_set_ne (by omega)]; exact q2' j hj⟩, ⟨pv, by rw [List.getElem?_set_ne (by omega)]; exact q3, q3'.far (p := ⟨gR, k, none⟩) (fun e => Bk.ne_ q3' r1 (by decide) e) v'⟩, fun hK => ⟨cr.set k v', r1.set_ k v', fun j hj => ?_⟩, q5.set (.inl hZ) _ _⟩, ⟨x, by rw [r1.cell]; exact hkc⟩, r1.frozen k⟩
  by_cases e : k = j
  · subst e
    have hcl : k < cr.length := (List.getElem?_eq_some_iff.1 hkc).1
    rw [List.getElem?_set_self hcl, List.getElem?_set_self (by omega)]
  · rw [List.getElem?_set_ne e, List.getElem?_set_ne (by omega)]; exact r2 j hj
theorem OInv.growP {w' : World} (h : OInv Z W0 gX bP gR N K m f0 f1 f2 f3 E w) (hZ : Z bP) {x v' : Value} {l l' : List UInt8} (hi : E[N]? = some x) (hx : OwnB w 0 x l) (hl : l.length ≤ m) (hl' : l'.length ≤ l.length + 1) (ho : OwnB w' 0 v' l') (hk : Kp (fun k => x.ownBlock = some k) w w')
    (hg : ∀ g, v'.ownBlock = some g → x.ownBlock = some g ∨ g = w.heap.size) (hz : Z w.heap.size) :
    OInv Z W0 gX bP gR N K (m + 1) f0 f1 f2 f3 (E.set N v') (w'.setCell ⟨bP, 4, none⟩ v') ∧ w'.cell? ⟨bP, 4, none⟩ = some x ∧ w'.frozen? ⟨bP, 4, none⟩ = false := by
  obtain ⟨q1, ⟨cs, q2, q2'⟩, ⟨pv, q3, q3'⟩, q4, q5⟩ := h.grow hi hx hl hl' ho hk hg hz
  have hlen := h.len
  have e : pv = x := by rw [q3] at hi; injection hi
  subst e
  refine ⟨⟨q1.holder q3' (by decide) 4 v', by rw [List.length_set]; exact hlen, ⟨cs, q2.far (p := ⟨bP, 4, none⟩) (fun e => Bk.ne_ q2 q3' (by decide) e) v', fun j hj => by rw [List.getElem?_set_ne (by omega)]; exact q2' j hj⟩, ⟨v', by rw [List.getElem?_set_self (by omega)], ?_⟩, fun hK => ?_, q5.set (.inl hZ) _ _⟩, q3'.cell 4, q3'.frozen 4⟩
  · exact q3'.set_ 4 v'
  · obtain ⟨cr, r1, r2⟩ := q4 hK
    exact ⟨cr, r1.far (p := ⟨bP, 4, none⟩) (fun e => Bk.ne_ r1 q3' (by decide) e) v', fun j hj => by rw [List.getElem?_set_ne (by omega)]; exact r2 j hj⟩
end
theorem Pool.at_ {w : World} {Z : Nat → Prop} {m : Nat} {E : List Value} (h : Pool w Z m E) {i : Nat} (hi : i < E.length) : ∃ A n c l, E[i]? = some (.slice A n c) ∧ OwnB w 0 (.slice A n c) l ∧ l.length = n ∧ n ≤ m ∧ (0 < n → ∃ a, A = some ⟨a, 0, Option.none⟩) := by
  have he : E[i]? = some E[i] := List.getElem?_eq_getElem hi
  obtain ⟨l, h1, h2, _⟩ := h.own i _ he
  obtain ⟨A, c, e, _⟩ := own_len h1
  rw [e] at he h1
  refine ⟨A, l.length, c, l, he, h1, rfl, h2, fun hn => ?_⟩
  obtain ⟨g, cap, e2, _⟩ := own_form h1 hn
  injection e2 with e2
  exact ⟨g, e2⟩
end Go.Proofs.YthncnkkpfcbkfaaDoor
