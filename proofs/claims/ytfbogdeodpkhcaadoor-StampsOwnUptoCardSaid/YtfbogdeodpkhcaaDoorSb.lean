/- append to an own row, in room or moved: which of the two is told (StampsOwn). No condition beyond what each theorem states. -/
import Derived.Test.YtfbogdeodpkhcaaDoorSa
namespace Go.Proofs.YtfbogdeodpkhcaaDoor
open Go Go.RowKit

section
variable {P : Program}
theorem run_app2 (w : World) (t ty : TypeId) (base : Nat) (e : TypeId) (z : Value) (bytes : Nat) (ht : P.underlying t = some (.slice e)) (hi : (P.info? e).map (fun i => (i.zero, i.size, i.bytes)) = some (some z, 1, bytes)) (hzs : z.cells.size = 1)
    (v : Value) (n : Nat) (xs : List Value) (hown : w.ownsRow base e 1 v n xs)
    (ad : Addr) (m c : Nat) (news : List Value) (hl : news.length = m) (hnews : ∀ j u, news[j]? = some u → w.cell? (ad.add j) = some u) (h1 : ∀ u ∈ news, u.oneCell' = true)
    (hn : n + m ≤ 281474976710656) (hbytes : (n + m) * bytes ≤ 140737488355328) (hbase : base ≤ w.heap.size) :
    ∃ v' w', (Builtin.append_ #[t, t] ty #[v, .slice (some ad) m c]).run P w = .ok v' w' ∧ w'.ownsRow base e 1 v' (n + m) (xs ++ news) ∧
      ((∃ A k, v = .slice A n k ∧ v' = .slice A (n + m) k ∧ (A = none → k = 0) ∧ Kp (fun j => v.ownBlock = some j) w w') ∨ (v'.ownBlock = some w.heap.size ∧ Kp No w w')) := by
  obtain ⟨i0, hi0, hz0, hz1, hz2⟩ := info_parts hi
  obtain ⟨v', w', hr, h2, h3, h4, h5⟩ := run_append_own_at (P := P) w base t ty e i0 z 1 bytes ht hi0 hz0 hz1 hz2 hzs (by omega) v n xs hown ad m c news (by omega) hnews h1 (by unfold maxLen; omega) hbytes hbase
  refine ⟨v', w', hr, h2, ?_⟩
  have hk := (Kp.of_grownBy h3).mono (M' := fun k => v.ownBlock = some k) (fun k _ e => e)
  rcases hown.2 with ⟨rfl, rfl⟩ | ⟨g, cap, cur, rfl, _, hg, hnc, hcm, hcs, htake⟩
  · by_cases hm : m = 0
    · subst hm
      exact .inl ⟨none, 0, rfl, h4.2 ⟨rfl, rfl⟩, fun _ => rfl, hk⟩
    · obtain ⟨g, cap, e1, _⟩ := own_form h2 (by omega)
      subst e1
      rcases h5 with h5 | h5
      · cases h5
      · exact .inr ⟨h5, hk.mono fun j _ h => by cases h⟩
  · by_cases hroom : n + m ≤ cap
    · have hr2 := run_append_room (P := P) w t ty e i0 ht hi0 g n cap cur hg ad m c news (by rw [hz1]; omega) hnews h1 hroom (by rw [hz1, hl, hcs]; omega)
      rw [hr] at hr2
      injection hr2 with e1 e2
      exact .inl ⟨_, cap, rfl, e1, (by intro h; cases h), hk⟩
    · have holds : ∀ j u, xs[j]? = some u → w.cell? ((⟨g, 0, none⟩ : Addr).add j) = some u := hown.cells (g := g) rfl
      have hr2 := run_append_grow (P := P) w t ty e i0 z ht hi0 hz0 ⟨g, 0, none⟩ n cap xs (by rw [hz1]; exact hown.1) holds ad m c news (by rw [hz1]; omega) hnews (by omega) (by omega) (growslice_fits (by omega) (by rw [hz2]; exact hbytes))
      rw [hr] at hr2
      injection hr2 with e1 e2
      subst e1 e2
      exact .inr ⟨rfl, (Kp.refl No w).drew.alloc _⟩
theorem wpList_app2 (w : World) {ops : Array Oper} {rest : List Oper} {o : Oper} {a : Act} {Q : Exit → Act → World → Prop} (hgd : o.guard = none) (s x : Operand) (t : TypeId)
    (ho : o.op = .call { callee := .builtin .append, args := #[s, x], argTypes := #[t, t] })
    (base : Nat) (e : TypeId) (z : Value) (bytes : Nat) (ht : P.underlying t = some (.slice e)) (hi : (P.info? e).map (fun i => (i.zero, i.size, i.bytes)) = some (some z, 1, bytes)) (hzs : z.cells.size = 1)
    (v : Value) (n : Nat) (xs : List Value) (hs : a.eval s = v) (hown : w.ownsRow base e 1 v n xs)
    (ad : Addr) (m c : Nat) (news : List Value) (hx : a.eval x = .slice (some ad) m c) (hl : news.length = m) (hnews : ∀ j u, news[j]? = some u → w.cell? (ad.add j) = some u) (h1 : ∀ u ∈ news, u.oneCell' = true)
    (hn : n + m ≤ 281474976710656) (hbytes : (n + m) * bytes ≤ 140737488355328) (hbase : base ≤ w.heap.size)
    (h : ∀ v' w', w'.ownsRow base e 1 v' (n + m) (xs ++ news) → ((∃ A k, v = .slice A n k ∧ v' = .slice A (n + m) k ∧ (A = none → k = 0) ∧ Kp (fun j => v.ownBlock = some j) w w') ∨ (v'.ownBlock = some w.heap.size ∧ Kp No w w')) → wpList P ops Q rest (a.put o.dst v') w') : wpList P ops Q (o :: rest) a w :=
  wpList_plain hgd fun _ hK => by
    obtain ⟨v', w', hr, h2, h3⟩ := run_app2 (P := P) w t o.type base e z bytes ht hi hzs v n xs hown ad m c news hl hnews h1 hn hbytes hbase
    unfold Oper.wp execOp
    simp only [ho, resolve, invoke, builtin, Sem.run_bind, Sem.run_pure, Result.andThen_ok, List.map_toArray, List.map_cons, List.map_nil, hs, hx, hr]
    exact hK _ _ (h v' w' h2 h3)
end
/-- a row that is grown by one: it, and the pool beside it -/
theorem GrowI.step {w w' : World} {B : Nat} {E : List Value} {D : List (List Int)} {k : Nat} {cur v' : Value} {M : List Int} (h : GrowI w B E D k cur M) (u : Int) (hB : B ≤ w.heap.size)
    (ho : w'.ownsRow 0 3 1 v' (M.length + 1) (ints M ++ [.int .i64 u]))
    (hc : (∃ A c, cur = .slice A M.length c ∧ v' = .slice A (M.length + 1) c ∧ (A = none → c = 0) ∧ Kp (fun j => cur.ownBlock = some j) w w') ∨ (v'.ownBlock = some w.heap.size ∧ Kp No w w')) : GrowI w' B E D k v' (M ++ [u]) := by
  have ho' : RowI w' v' (M ++ [u]) := by
    unfold RowI
    rw [List.length_append, show ints (M ++ [u]) = ints M ++ [.int .i64 u] by simp [ints]]
    exact ho
  rcases hc with ⟨A, c, rfl, rfl, hA, hk⟩ | ⟨h1, h2⟩
  · exact h.room hk ho' ⟨[u], rfl⟩ hA
  · exact h.moved h2 ho' h1 hB
end Go.Proofs.YtfbogdeodpkhcaaDoor
