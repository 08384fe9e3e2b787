/- Lists of ints in memory: no condition beyond what each theorem states. -/
import Derived.Test.YtccadcefhfdmgaaGreatDoorM
import Derived.Lib.Hide
namespace Go.Proofs.YtccadcefhfdmgaaGreatDoor
open Go Go.RowKit

def ints (L : List Int) : List Value := L.map (Value.int .i64)
@[simp] theorem ints_length (L : List Int) : (ints L).length = L.length := by simp [ints]
theorem ints_get (L : List Int) (j : Nat) : (ints L)[j]? = (L[j]?).map (Value.int .i64) := by simp [ints]
theorem ints_append (L M : List Int) : ints (L ++ M) = ints L ++ ints M := by simp [ints]
theorem ints_one (L : List Int) : ∀ u ∈ ints L, u.oneCell' = true := by
  intro v hv; simp only [ints, List.mem_map] at hv; obtain ⟨c, _, rfl⟩ := hv; rfl
theorem ints_take (L : List Int) (k : Nat) : ints (L.take k) = (ints L).take k := by simp [ints]
/-- what a slice of ints holds -/
def ArgInts (w : World) (v : Value) (L : List Int) : Prop := ∃ A c, v = .slice A L.length c ∧ L.length ≤ c ∧ Cs w A (ints L)
theorem Cs.kp {w w' : World} {A : Option Addr} {xs : List Value} {M : Nat → Prop} (h : Cs w A xs) (hk : Kp M w w') (hM : ∀ g o, A = some ⟨g, o, none⟩ → ¬ M g) : Cs w' A xs := fun hx => by
  obtain ⟨g, o, e, hr⟩ := h hx
  exact ⟨g, o, e, range_kp hr hk (hM g o e)⟩
theorem ArgInts.kp {w w' : World} {v : Value} {L : List Int} {M : Nat → Prop} (h : ArgInts w v L) (hk : Kp M w w') (hM : ∀ g o n c, v = .slice (some ⟨g, o, none⟩) n c → ¬ M g) : ArgInts w' v L := by
  obtain ⟨A, c, rfl, hc, h⟩ := h
  exact ⟨A, c, rfl, hc, h.kp hk fun g o e => hM g o _ _ (by rw [e])⟩
theorem ArgInts.no {w w' : World} {v : Value} {L : List Int} (h : ArgInts w v L) (hk : Kp No w w') : ArgInts w' v L := h.kp hk fun _ _ _ _ _ m => m
theorem ArgInts.nil (w : World) (A : Option Addr) (c : Nat) : ArgInts w (.slice A 0 c) [] := ⟨A, c, rfl, Nat.zero_le _, fun h => absurd rfl h⟩
theorem ArgInts.at_ {w : World} {v : Value} {L : List Int} (h : ArgInts w v L) {k : Nat} (hk : k < L.length) : ∃ g o c, v = .slice (some ⟨g, o, none⟩) L.length c ∧ ∀ j x, L[j]? = some x → w.cell? ⟨g, o + j, none⟩ = some (.int .i64 x) := by
  obtain ⟨A, c, rfl, hc, hcs⟩ := h
  obtain ⟨g, o, rfl, hr⟩ := hcs (by intro e; have h0 := congrArg List.length e; rw [ints_length, List.length_nil] at h0; omega)
  exact ⟨g, o, c, rfl, fun j x hx => hr j _ (by rw [ints_get, hx]; rfl)⟩
theorem ArgInts.take {w : World} {A : Option Addr} {n c : Nat} {L : List Int} (h : ArgInts w (.slice A n c) L) (k : Nat) (hk : k ≤ L.length) : ArgInts w (.slice A k c) (L.take k) := by
  obtain ⟨A', c', e, hc, h⟩ := h
  injection e with e1 e2 e3
  subst e1 e2 e3
  refine ⟨A, c, by rw [List.length_take, Nat.min_eq_left hk], by rw [List.length_take]; omega, fun hx => ?_⟩
  obtain ⟨g, o, rfl, hr⟩ := h (fun e => hx (by rw [ints_take, e]; simp))
  refine ⟨g, o, rfl, fun j v hv => hr j v ?_⟩
  rw [ints_take, List.getElem?_take] at hv
  split at hv
  · exact hv
  · cases hv
theorem ArgInts.cs {w : World} {A : Option Addr} {n c : Nat} {L : List Int} (h : ArgInts w (.slice A n c) L) : Cs w A (ints L) ∧ n = L.length ∧ n ≤ c := by
  obtain ⟨A', c', e, hc, h⟩ := h
  injection e with e1 e2 e3
  subst e1 e2 e3
  exact ⟨h, rfl, hc⟩
theorem own_argI {w : World} {B : Nat} {v : Value} {L : List Int} {n : Nat} {t : TypeId} (hown : w.ownsRow B t 1 v n (ints L)) : ArgInts w v L := by
  have hl : L.length = n := by have := hown.1; simp at this; omega
  subst hl
  rcases hown.2 with ⟨rfl, h0⟩ | ⟨g, cap, cur, rfl, hb, hh, h1, h2, h3, h4⟩
  · exact ⟨Option.none, 0, by rw [h0], by omega, fun hx => absurd (List.eq_nil_of_length_eq_zero (by simp [h0])) hx⟩
  · refine ⟨_, cap, rfl, by omega, fun hx => ⟨g, 0, rfl, fun j v hv => ?_⟩⟩
    have := hown.cells (g := g) rfl j v hv
    rwa [Addr.add_mid] at this
theorem own_kp {w w' : World} {base : Nat} {e : TypeId} {size n : Nat} {v : Value} {xs : List Value} {M : Nat → Prop} (h : w.ownsRow base e size v n xs) (hk : Kp M w w') (hm : ∀ g, v.ownBlock = some g → ¬ M g) : w'.ownsRow base e size v n xs := by
  refine ⟨h.1, ?_⟩
  rcases h.2 with hn | ⟨g, cap, cur, rfl, hb, hgg, rest⟩
  · exact .inl hn
  · exact .inr ⟨g, cap, cur, rfl, hb, (hk.block g (Array.getElem?_eq_some_iff.1 hgg).1 (hm g rfl)).trans hgg, rest⟩
theorem own_mono {w : World} {base base' : Nat} {e : TypeId} {size n : Nat} {v : Value} {xs : List Value} (h : w.ownsRow base e size v n xs) (hb : base' ≤ base) : w.ownsRow base' e size v n xs := by
  refine ⟨h.1, ?_⟩
  rcases h.2 with hn | ⟨g, cap, cur, rfl, hb', rest⟩
  · exact .inl hn
  · exact .inr ⟨g, cap, cur, rfl, by omega, rest⟩
theorem own_fresh (w : World) (base : Nat) (e : TypeId) (hb : base ≤ w.heap.size) : (w.alloc (.cells #[] e)).ownsRow base e 1 (.slice (some ⟨w.heap.size, 0, none⟩) 0 0) 0 [] := by
  refine ⟨rfl, .inr ⟨w.heap.size, 0, #[], rfl, hb, heap_alloc_new w _, ?_, ?_, ?_, ?_⟩⟩ <;> simp
theorem own_of_bk {w : World} {g : Nat} {t : TypeId} {cs : List Value} {base n cap : Nat} (h : Bk w g t cs) (hb : base ≤ g) (hn : cs.length = cap) (hc : n ≤ cap) (hm : cap ≤ maxLen) : w.ownsRow base t 1 (.slice (some ⟨g, 0, none⟩) n cap) n (cs.take n) :=
  ⟨by rw [List.length_take]; omega, .inr ⟨g, cap, cs.toArray, rfl, hb, h, hc, hm, by simp [hn], by rw [Nat.mul_one]⟩⟩
theorem own_len {w : World} {B n size : Nat} {t : TypeId} {v : Value} {xs : List Value} (h : w.ownsRow B t size v n xs) : ∃ A c, v = .slice A n c ∧ n ≤ c := by
  rcases h.2 with ⟨rfl, rfl⟩ | ⟨g, cap, cur, hv, _, _, hc, _⟩
  · exact ⟨_, _, rfl, Nat.le_refl _⟩
  · exact ⟨_, _, hv, hc⟩
theorem own_form {w : World} {B n size : Nat} {t : TypeId} {v : Value} {xs : List Value} (h : w.ownsRow B t size v n xs) (hn : 0 < n) : ∃ g cap, v = .slice (some ⟨g, 0, none⟩) n cap ∧ n ≤ cap ∧ B ≤ g ∧ g < w.heap.size := by
  rcases h.2 with ⟨_, h0⟩ | ⟨g, cap, cur, hv, _, _, hc, _⟩
  · omega
  · have := h.lt g (by rw [hv]; rfl)
    exact ⟨g, cap, hv, hc, this.1, this.2⟩

theorem nil_own (w : World) (base : Nat) (e : TypeId) (size : Nat) : w.ownsRow base e size (.slice none 0 0) 0 [] := World.ownsRow_nil w base e size
section
variable {P : Program}
/-- append(v, xs...): cells onto a row of the call's own, nil or not, from whatever source -/
theorem run_appV (w : World) (t ty : TypeId) (base : Nat) (e : TypeId) (z : Value) (bytes : Nat) (ht : P.underlying t = some (.slice e)) (hi : (P.info? e).map (fun i => (i.zero, i.size, i.bytes)) = some (some z, 1, bytes)) (hzs : z.cells.size = 1)
    (v : Value) (n : Nat) (xs : List Value) (hown : w.ownsRow base e 1 v n xs)
    (A : Option Addr) (m c : Nat) (news : List Value) (hl : news.length = m) (hc : Cs w A news) (h1 : ∀ u ∈ news, u.oneCell' = true)
    (hn : n + m ≤ 281474976710656) (hbytes : (n + m) * bytes ≤ 140737488355328) (hbase : base ≤ w.heap.size) :
    ∃ v' w', (Builtin.append_ #[t, t] ty #[v, .slice A m c]).run P w = .ok v' w' ∧ w'.ownsRow base e 1 v' (n + m) (xs ++ news) ∧ Kp (fun k => v.ownBlock = some k) w w' ∧ (∀ g, v'.ownBlock = some g → v.ownBlock = some g ∨ g = w.heap.size) := by
  obtain ⟨i0, hi0, hz0, hz1, hz2⟩ := info_parts hi
  cases A with
  | none =>
    have hm : news = [] := by
      by_cases hne : news = []
      · exact hne
      · obtain ⟨g, o, e, _⟩ := hc hne; cases e
    subst hm
    have hm0 : m = 0 := by simpa using hl.symm
    subst hm0
    refine ⟨v, w, ?_, by simpa using hown, Kp.refl _ _, fun g h => .inl h⟩
    rcases hown.2 with ⟨rfl, rfl⟩ | ⟨g, cap, cur, rfl, _, _, hnc, _⟩
    · simp [Builtin.append_, run_underlying ht, sizeOf, typeInfo, hi0, Builtin.lenOf, Builtin.firstCells]
    · simp [Builtin.append_, run_underlying ht, sizeOf, typeInfo, hi0, Builtin.lenOf, Builtin.firstCells, hnc, storeCells]
  | some ad =>
    have hnews : ∀ j u, news[j]? = some u → w.cell? (ad.add j) = some u := by
      intro j u hu
      obtain ⟨g, o, e, hr⟩ := hc (by intro e; subst e; simp at hu)
      injection e with e; subst e
      rw [Addr.add_mid]; exact hr j u hu
    obtain ⟨v', w', hr, h2, h3, _, h5⟩ := run_append_own_at (P := P) w base t ty e i0 z 1 bytes ht hi0 hz0 hz1 hz2 hzs (by omega) v n xs hown ad m c news (by omega) hnews h1 (by unfold maxLen; omega) hbytes hbase
    refine ⟨v', w', hr, h2, (Kp.of_grownBy h3).mono (fun k _ e => e), fun g hg => ?_⟩
    rcases h5 with e | e
    · left; rw [← e]; exact hg
    · right; rw [e] at hg; injection hg with hg; exact hg.symm
theorem wp_appV (w : World) {o : Oper} {a : Act} {K : Act → World → Prop} {Q : Exit → Act → World → Prop} (s x : Operand) (t : TypeId)
    (ho : o.op = .call { callee := .builtin .append, args := #[s, x], argTypes := #[t, t] })
    (base : Nat) (e : TypeId) (z : Value) (bytes : Nat) (ht : P.underlying t = some (.slice e)) (hi : (P.info? e).map (fun i => (i.zero, i.size, i.bytes)) = some (some z, 1, bytes)) (hzs : z.cells.size = 1)
    (v : Value) (n : Nat) (xs : List Value) (hs : a.eval s = v) (hown : w.ownsRow base e 1 v n xs)
    (A : Option Addr) (m c : Nat) (news : List Value) (hx : a.eval x = .slice A m c) (hl : news.length = m) (hc : Cs w A news) (h1 : ∀ u ∈ news, u.oneCell' = true)
    (hn : n + m ≤ 281474976710656) (hbytes : (n + m) * bytes ≤ 140737488355328) (hbase : base ≤ w.heap.size)
    (h : ∀ v' w', w'.ownsRow base e 1 v' (n + m) (xs ++ news) → Kp (fun k => v.ownBlock = some k) w w' → (∀ g, v'.ownBlock = some g → v.ownBlock = some g ∨ g = w.heap.size) → K (a.put o.dst v') w') : o.wp P a w K Q := by
  obtain ⟨v', w', hr, h2, h3, h4⟩ := run_appV (P := P) w t o.type base e z bytes ht hi hzs v n xs hown A m c news hl hc h1 hn hbytes hbase
  unfold Oper.wp execOp
  simp only [ho, resolve, invoke, builtin, Sem.run_bind, Sem.run_pure, Result.andThen_ok, List.map_toArray, List.map_cons, List.map_nil, hs, hx, hr]
  exact h v' w' h2 h3 h4
theorem wpList_appV (w : World) {ops : Array Oper} {rest : List Oper} {o : Oper} {a : Act} {Q : Exit → Act → World → Prop} (hgd : o.guard = none) (s x : Operand) (t : TypeId)
    (ho : o.op = .call { callee := .builtin .append, args := #[s, x], argTypes := #[t, t] })
    (base : Nat) (e : TypeId) (z : Value) (bytes : Nat) (ht : P.underlying t = some (.slice e)) (hi : (P.info? e).map (fun i => (i.zero, i.size, i.bytes)) = some (some z, 1, bytes)) (hzs : z.cells.size = 1)
    (v : Value) (n : Nat) (xs : List Value) (hs : a.eval s = v) (hown : w.ownsRow base e 1 v n xs)
    (A : Option Addr) (m c : Nat) (news : List Value) (hx : a.eval x = .slice A m c) (hl : news.length = m) (hc : Cs w A news) (h1 : ∀ u ∈ news, u.oneCell' = true)
    (hn : n + m ≤ 281474976710656) (hbytes : (n + m) * bytes ≤ 140737488355328) (hbase : base ≤ w.heap.size)
    (h : ∀ v' w', w'.ownsRow base e 1 v' (n + m) (xs ++ news) → Kp (fun k => v.ownBlock = some k) w w' → (∀ g, v'.ownBlock = some g → v.ownBlock = some g ∨ g = w.heap.size) → wpList P ops Q rest (a.put o.dst v') w') : wpList P ops Q (o :: rest) a w :=
  wpList_plain hgd fun _ hK => wp_appV w s x t ho base e z bytes ht hi hzs v n xs hs hown A m c news hx hl hc h1 hn hbytes hbase fun v' w' h2 h3 h4 => hK _ _ (h v' w' h2 h3 h4)
/-- make([]T, 0, c) -/
theorem mk_run0 (t e : TypeId) (i : TypeInfo) (z : Value) (ht : P.underlying t = some (.slice e)) (hi : P.info? e = some i) (hz : i.zero = some z) (v : Value) (hc : z.cells = #[v]) (hsz : i.size = 1)
    (n : Nat) (hbytes : i.bytes * n ≤ 281474976710656) (h63 : n ≤ 9223372036854775807) (w : World) :
    (Instr.makeSlice t (.int .i64 0) (.int .i64 (n : Int))).run P w = .ok (.slice (some ⟨w.heap.size, 0, none⟩) 0 n) (w.alloc (.cells (List.replicate n v).toArray e)) := by
  have hr := run_make (P := P) w t e i z ht hi hz .i64 .i64 (0 : Nat) n (by omega) (by omega) (by omega) (by omega)
  rw [hc, show (#[v] : Array Value) = Array.replicate 1 v from rfl, madeCells_same _ _ _ (by omega), hsz, Nat.mul_one] at hr
  exact hr
theorem own_made0 (w : World) (base : Nat) (e : TypeId) (v : Value) (n : Nat) (hb : base ≤ w.heap.size) (hm : n ≤ maxLen) : (w.alloc (.cells (List.replicate n v).toArray e)).ownsRow base e 1 (.slice (some ⟨w.heap.size, 0, none⟩) 0 n) 0 [] :=
  ⟨rfl, .inr ⟨w.heap.size, n, (List.replicate n v).toArray, rfl, hb, heap_alloc_new w _, Nat.zero_le _, hm, by simp, by simp⟩⟩
end

theorem ret_bool {x : Value} {b c : Bool} (hx : x = .bool b) (h : b = c) : Ending.returned x = .returned (.bool c) := by rw [hx, h]
theorem ret_int {x : Value} {b c : Int} (hx : x = .int .i64 b) (h : b = c) : Ending.returned x = .returned (.int .i64 c) := by rw [hx, h]
end Go.Proofs.YtccadcefhfdmgaaGreatDoor
