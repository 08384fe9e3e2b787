/- Small words for StampsOwn: a row of rows, a slice's head, frames. No condition beyond what each theorem states. -/
import Derived.Test.YtfbogdeodpkhcaaDoorSb
import Derived.Test.YtfbogdeodpkhcaaDoorStR
namespace Go.Proofs.YtfbogdeodpkhcaaDoor
open Go Go.RowKit

set_option maxRecDepth 100000 in
theorem slice_toI (g n h c : Nat) (h1 : h ≤ c) (h2 : 0 < c) (W : World) : (Instr.slice 22 (.slice (some ⟨g, 0, none⟩) n c) none (some (.int .i64 (h : Int))) none).run Tryd.prog W = .ok (.slice (some ⟨g, 0, none⟩) h c) W := by
  rw [run_slice_h (P := Tryd.prog) W 22 (some ⟨g, 0, none⟩) n c Tryd.underlying22 .i64 (h : Int) (by omega) (by omega)]
  have hs : (sizeOf (Tryd.prog.elem 22)).run Tryd.prog W = .ok 1 W := by kernel_rfl
  rw [hs]
  simp [Result.andThen, sliced, show ¬ c = 0 by omega, Addr.add]
theorem cs_newI {w : World} {g : Nat} {t : TypeId} {xs : List Value} {C : Array Value} (hg : g = w.heap.size) (hC : C = xs.toArray) : Cs (w.alloc (.cells C t)) (some ⟨g, 0, none⟩) xs := fun _ => ⟨g, 0, rfl, fun j v hv => by
  rw [(Bk.new' hg hC : Bk _ g t xs).cell, Nat.zero_add]; exact hv⟩
/-- from an own row that began at the world's end, only that row or new blocks have changed -/
theorem kp_ownI {w wr w' : World} {v : Value} {n : Nat} {xs : List Value} {t : TypeId} {size B : Nat} (h : wr.ownsRow B t size v n xs) (hB : w.heap.size ≤ B) (k : Kp No w wr) (k2 : Kp (fun k => v.ownBlock = some k) wr w') : Kp No w w' :=
  k.then_ k2 fun i hi hm => by
    have := (h.lt i hm).1; omega
theorem info43 : (Tryd.prog.info? 22).map (fun i => (i.zero, i.size, i.bytes)) = some (some (.slice none 0 0), 1, 24) := by kernel_rfl
/-- a row of rows -/
def AllR (w : World) (B : Nat) (v : Value) (E : List Value) : Prop := w.ownsRow B 22 1 v E.length E
theorem AllR.kp {w w' : World} {B : Nat} {v : Value} {E : List Value} {M : Nat → Prop} (h : AllR w B v E) (hk : Kp M w w') (hm : ∀ g, v.ownBlock = some g → ¬ M g) : AllR w' B v E := own_kp h hk hm
theorem AllR.no {w w' : World} {B : Nat} {v : Value} {E : List Value} (h : AllR w B v E) (hk : Kp No w w') : AllR w' B v E := h.kp hk fun _ _ m => m
theorem AllR.at_ {w : World} {B : Nat} {v : Value} {E : List Value} (h : AllR w B v E) (hE : 0 < E.length) : ∃ g c, v = .slice (some ⟨g, 0, none⟩) E.length c ∧ (∃ cs, Bk w g 22 cs) ∧ ∀ (W : World), Kp No w W → ∀ k x, E[k]? = some x → W.cell? ⟨g, k, none⟩ = some x := by
  obtain ⟨g, c, e, _⟩ := own_form h hE
  subst e
  refine ⟨g, c, rfl, ?_, fun W hW k x hx => ?_⟩
  · rcases h.2 with ⟨hb, _⟩ | ⟨g', cap, cur, hv, _, hh, _⟩
    · cases hb
    · injection hv with e1
      injection e1 with e1
      injection e1 with e1
      subst e1
      exact ⟨cur.toList, by unfold Bk; simpa using hh⟩
  · have := (h.no hW).cells (g := g) rfl k x hx
    rwa [Addr.add_mid, Nat.zero_add] at this
/-- rows of ints lie in other blocks than a block of another type -/
theorem PoolI.far {w : World} {B : Nat} {E : List Value} {D : List (List Int)} (h : PoolI w B E D) {g : Nat} {t : TypeId} {cs : List Value} (hb : Bk w g t cs) (ht : 3 ≠ t) : ∀ (i : Nat) (x : Value) (g' : Nat), E[i]? = some x → x.ownBlock = some g' → g' ≠ g := by
  intro i x g' hx hg e
  subst e
  have hi : i < D.length := by rw [← h.len]; exact (List.getElem?_eq_some_iff.1 hx).1
  exact own_ne (h.own i x _ hx (List.getElem?_eq_getElem hi)) hb ht hg
theorem AllR.bk {w : World} {B : Nat} {v : Value} {E : List Value} (h : AllR w B v E) {g : Nat} (hg : v.ownBlock = some g) : ∃ cs, Bk w g 22 cs := by
  rcases h.2 with ⟨rfl, _⟩ | ⟨g', cap, cur, rfl, _, hh, _⟩
  · cases hg
  · injection hg with hg
    subst hg
    exact ⟨cur.toList, by unfold Bk; simpa using hh⟩
theorem PoolI.all {w w' : World} {B B' : Nat} {E F : List Value} {D : List (List Int)} {v : Value} (h : PoolI w B E D) (ha : AllR w B' v F) (hk : Kp (fun j => v.ownBlock = some j) w w') : PoolI w' B E D :=
  h.kp hk fun i x g hx hg hv => by
    obtain ⟨cs, hb⟩ := ha.bk hv
    exact h.far hb (by decide) i x g hx hg rfl
/-- the row of rows stays, whatever row of ints is written -/
theorem AllR.int {w w' : World} {B : Nat} {v x : Value} {E : List Value} {L : List Int} (h : AllR w B v E) (hx : RowI w x L) (hk : Kp (fun j => x.ownBlock = some j) w w') : AllR w' B v E :=
  h.kp hk fun g hg hxg => by
    obtain ⟨cs, hb⟩ := h.bk hg
    exact own_ne hx hb (by decide) hxg
theorem RowI.arg {w : World} {v : Value} {L : List Int} (h : RowI w v L) : ArgInts w v L := own_argI h
theorem tri_get {X Y S : List Int} {m i : Nat} (h : i < 3 * m) : ∃ T, (tri X Y S m)[i]? = some T ∧ [X, Y, S][i % 3]? = some T := by
  have h3 : i % 3 < 3 := Nat.mod_lt _ (by omega)
  have hl : (tri X Y S m).length = 3 * m := tri_len X Y S m
  refine ⟨(tri X Y S m)[i]'(by omega), List.getElem?_eq_getElem _, ?_⟩
  rw [← tri_at X Y S m i h, List.getElem?_eq_getElem]
theorem GrowI.no {w w' : World} {B : Nat} {E : List Value} {D : List (List Int)} {k : Nat} {cur : Value} {M : List Int} (h : GrowI w B E D k cur M) (hk : Kp No w w') : GrowI w' B E D k cur M :=
  ⟨h.pool.no hk, h.row.no hk, h.low, h.apart, h.same⟩
/-- what a row's growing leaves: the row of rows, and all that was there before -/
theorem GrowI.leaves {w0 w w' : World} {B B' : Nat} {E F : List Value} {D : List (List Int)} {k : Nat} {cur v v' : Value} {M : List Int} (h : GrowI w B E D k cur M) (hB : w0.heap.size ≤ B) (ha : AllR w B' v F) (h0 : Kp No w0 w)
    (hc : (∃ A c, cur = .slice A M.length c ∧ v' = .slice A (M.length + 1) c ∧ (A = none → c = 0) ∧ Kp (fun j => cur.ownBlock = some j) w w') ∨ (v'.ownBlock = some w.heap.size ∧ Kp No w w')) : AllR w' B' v F ∧ Kp No w0 w' := by
  rcases hc with ⟨A, c, e, _, _, hk⟩ | ⟨_, hk⟩
  · refine ⟨ha.int h.row hk, h0.then_ hk fun i hi hn => ?_⟩
    have := h.low i hn
    omega
  · exact ⟨ha.no hk, h0.trans hk⟩
theorem laterS_self (L : List Int) : laterS L L = L := by unfold laterS; split <;> rfl
end Go.Proofs.YtfbogdeodpkhcaaDoor
