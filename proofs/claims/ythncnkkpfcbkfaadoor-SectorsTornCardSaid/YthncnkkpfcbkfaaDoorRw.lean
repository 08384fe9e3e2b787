/- Lists of lists of bytes in memory. No condition beyond what each theorem states. -/
import Derived.Test.YthncnkkpfcbkfaaDoorBy
namespace Go.Proofs.YthncnkkpfcbkfaaDoor
open Go Go.RowKit

theorem own_bk {w : World} {base : Nat} {e : TypeId} {size n : Nat} {v : Value} {xs : List Value} {g : Nat} (h : w.ownsRow base e size v n xs) (hg : v.ownBlock = some g) : base ≤ g ∧ ∃ cs, Bk w g e cs := by
  rcases h.2 with ⟨rfl, _⟩ | ⟨g', cap, cur, rfl, hb, hh, _⟩
  · simp [Value.ownBlock] at hg
  · have : g' = g := by simpa [Value.ownBlock] using hg
    subst this
    exact ⟨hb, cur.toList, by unfold Bk; simpa using hh⟩
/-- own rows of unlike types lie apart -/
theorem own_apart {w : World} {B B' : Nat} {v x : Value} {n m : Nat} {xs ys : List Value} {t t' : TypeId} {s s' : Nat} (h : w.ownsRow B t s v n xs) (h' : w.ownsRow B' t' s' x m ys) (hne : t ≠ t') : ∀ g, x.ownBlock = some g → v.ownBlock ≠ some g := fun g hg => by
  obtain ⟨_, cs, hb⟩ := own_bk h' hg
  exact own_ne h hb hne
theorem own_cap {w : World} {B n size : Nat} {t : TypeId} {v : Value} {xs : List Value} (h : w.ownsRow B t size v n xs) : ∃ A c, v = .slice A n c ∧ n ≤ c ∧ c ≤ maxLen := by
  rcases h.2 with ⟨rfl, rfl⟩ | ⟨g, cap, cur, hv, _, _, hc, hm, _⟩
  · exact ⟨_, _, rfl, Nat.le_refl _, by unfold maxLen; omega⟩
  · exact ⟨_, _, hv, hc, hm⟩

/-- a list of fresh lists of bytes: all of the call's own -/
def Rows (w : World) (B : Nat) (v : Value) (L : List (List UInt8)) : Prop :=
  ∃ xs : List Value, w.ownsRow B 26 1 v L.length xs ∧ ∀ i (h : i < L.length), ∃ x, xs[i]? = some x ∧ OwnB w B x L[i]
theorem Rows.nil (w : World) (B : Nat) : Rows w B (.slice Option.none 0 0) [] := ⟨[], World.ownsRow_nil _ _ _ _, by intro i hi; simp at hi⟩
/-- a block of neither a list nor bytes, or below B, may change -/
theorem Rows.kp {w w' : World} {B : Nat} {v : Value} {L : List (List UInt8)} {M : Nat → Prop} (h : Rows w B v L) (hk : Kp M w w')
    (hM : ∀ g cs, B ≤ g → (Bk w g 26 cs ∨ Bk w g 5 cs) → ¬ M g) : Rows w' B v L := by
  obtain ⟨xs, hown, hr⟩ := h
  refine ⟨xs, own_kp hown hk (fun g hg => ?_), fun i hi => ?_⟩
  · obtain ⟨hb, cs, hbk⟩ := own_bk hown hg
    exact hM g cs hb (.inl hbk)
  · obtain ⟨x, hx, hox⟩ := hr i hi
    refine ⟨x, hx, hox.kp hk fun g hg => ?_⟩
    obtain ⟨hb, cs, hbk⟩ := own_bk hox hg
    exact hM g cs hb (.inr hbk)
theorem Rows.no {w w' : World} {B : Nat} {v : Value} {L : List (List UInt8)} (h : Rows w B v L) (hk : Kp No w w') : Rows w' B v L := h.kp hk fun _ _ _ _ m => m
theorem Rows.mono {w : World} {B B' : Nat} {v : Value} {L : List (List UInt8)} (h : Rows w B v L) (hb : B' ≤ B) : Rows w B' v L := by
  obtain ⟨xs, hown, hr⟩ := h
  refine ⟨xs, own_mono hown hb, fun i hi => ?_⟩
  obtain ⟨x, hx, hox⟩ := hr i hi
  exact ⟨x, hx, hox.mono hb⟩
/-- one list more -/
theorem Rows.push {w w1 : World} {B : Nat} {v v1 x : Value} {L : List (List UInt8)} {l : List UInt8} {n m : Nat} {xs : List Value}
    (hown : w.ownsRow B 26 1 v n xs) (hn : n = L.length) (hrows : ∀ i (h : i < L.length), ∃ x, xs[i]? = some x ∧ OwnB w B x L[i]) (hx : OwnB w B x l)
    (hown1 : w1.ownsRow B 26 1 v1 m (xs ++ [x])) (hm : m = L.length + 1) (hk1 : Kp (fun k => v.ownBlock = some k) w w1) : Rows w1 B v1 (L ++ [l]) := by
  subst hn hm
  have hxs : xs.length = L.length := by have := hown.1; omega
  refine ⟨xs ++ [x], by simpa using hown1, fun i hi => ?_⟩
  by_cases hlt : i < L.length
  · obtain ⟨y, hy, hr⟩ := hrows i hlt
    refine ⟨y, by rw [List.getElem?_append_left (by omega)]; exact hy, ?_⟩
    rw [List.getElem_append_left hlt]
    exact hr.kp hk1 fun g hg => own_apart hown hr (by decide) g hg
  · have hi' : i = L.length := by simp at hi; omega
    subst hi'
    refine ⟨x, by rw [List.getElem?_append_right (by omega), hxs]; simp, ?_⟩
    simp only [List.getElem_concat_length]
    exact hx.kp hk1 fun g hg => own_apart hown hx (by decide) g hg

/-- what a slice of slices of bytes holds -/
def ArgR (w : World) (v : Value) (L : List (List UInt8)) : Prop := ∃ A c xs, v = .slice A L.length c ∧ L.length ≤ c ∧ xs.length = L.length ∧ Cs w A xs ∧ ∀ i (h : i < L.length), ∃ x, xs[i]? = some x ∧ ArgB w x L[i]
/-- the same, the lists' capacities within the bounds -/
def CapR (w : World) (v : Value) (L : List (List UInt8)) : Prop := ∃ A c xs, v = .slice A L.length c ∧ L.length ≤ c ∧ c ≤ maxLen ∧ xs.length = L.length ∧ Cs w A xs ∧ ∀ i (h : i < L.length), ∃ a k, xs[i]? = some (.slice a L[i].length k) ∧ k ≤ maxLen ∧ ArgB w (.slice a L[i].length k) L[i]
theorem CapR.arg {w : World} {v : Value} {L : List (List UInt8)} (h : CapR w v L) : ArgR w v L := by
  obtain ⟨A, c, xs, rfl, hc, _, hl, hcs, hx⟩ := h
  refine ⟨A, c, xs, rfl, hc, hl, hcs, fun i hi => ?_⟩
  obtain ⟨a, k, h1, _, h2⟩ := hx i hi
  exact ⟨_, h1, h2⟩
theorem Rows.cap {w : World} {B : Nat} {v : Value} {L : List (List UInt8)} (h : Rows w B v L) : CapR w v L := by
  obtain ⟨xs, hown, hr⟩ := h
  obtain ⟨A, c, hv, hc, hm⟩ := own_cap hown
  subst hv
  have hxl : xs.length = L.length := by have := hown.1; omega
  refine ⟨A, c, xs, rfl, hc, hm, hxl, fun hx => ?_, fun i hi => ?_⟩
  · rcases hown.2 with ⟨_, h0⟩ | ⟨g, cap, cur, hv, hb, hh, h1, h2, h3, h4⟩
    · exact absurd (List.eq_nil_of_length_eq_zero (by omega)) hx
    · injection hv with hv
      subst hv
      refine ⟨g, 0, rfl, fun j v hv => ?_⟩
      have := hown.cells (g := g) rfl j v hv
      rwa [Addr.add_mid] at this
  · obtain ⟨x, hx, hox⟩ := hr i hi
    obtain ⟨a, k, hxv, _, hk⟩ := own_cap hox
    subst hxv
    exact ⟨a, k, hx, hk, own_argB hox⟩
theorem Rows.arg {w : World} {B : Nat} {v : Value} {L : List (List UInt8)} (h : Rows w B v L) : ArgR w v L := h.cap.arg
theorem ArgR.no {w w' : World} {v : Value} {L : List (List UInt8)} (h : ArgR w v L) (hk : Kp No w w') : ArgR w' v L := by
  obtain ⟨A, c, xs, rfl, hc, hl, hcs, hx⟩ := h
  refine ⟨A, c, xs, rfl, hc, hl, hcs.kp hk (fun _ _ _ m => m), fun i hi => ?_⟩
  obtain ⟨x, h1, h2⟩ := hx i hi
  exact ⟨x, h1, h2.no hk⟩
theorem CapR.no {w w' : World} {v : Value} {L : List (List UInt8)} (h : CapR w v L) (hk : Kp No w w') : CapR w' v L := by
  obtain ⟨A, c, xs, rfl, hc, hm, hl, hcs, hx⟩ := h
  refine ⟨A, c, xs, rfl, hc, hm, hl, hcs.kp hk (fun _ _ _ m => m), fun i hi => ?_⟩
  obtain ⟨a, k, h1, h2, h3⟩ := hx i hi
  exact ⟨a, k, h1, h2, h3.no hk⟩
theorem CapR.at_ {w : World} {v : Value} {L : List (List UInt8)} (h : CapR w v L) : ∃ A c, v = .slice A L.length c ∧ L.length ≤ c ∧ c ≤ maxLen ∧ ∀ i (hi : i < L.length), ∃ g o a k, A = some ⟨g, o, Option.none⟩ ∧ w.cell? ⟨g, o + i, Option.none⟩ = some (.slice a L[i].length k) ∧ k ≤ maxLen ∧ ArgB w (.slice a L[i].length k) L[i] := by
  obtain ⟨A, c, xs, rfl, hc, hm, hl, hcs, hx⟩ := h
  refine ⟨A, c, rfl, hc, hm, fun i hi => ?_⟩
  obtain ⟨a, k, h1, h2, h3⟩ := hx i hi
  obtain ⟨g, o, e, hr⟩ := hcs (by intro e; subst e; simp at hl; omega)
  exact ⟨g, o, a, k, e, hr i _ h1, h2, h3⟩
theorem ArgR.at_ {w : World} {v : Value} {L : List (List UInt8)} (h : ArgR w v L) : ∃ A c, v = .slice A L.length c ∧ L.length ≤ c ∧ ∀ i (hi : i < L.length), ∃ g o a k, A = some ⟨g, o, Option.none⟩ ∧ w.cell? ⟨g, o + i, Option.none⟩ = some (.slice a L[i].length k) ∧ ArgB w (.slice a L[i].length k) L[i] := by
  obtain ⟨A, c, xs, rfl, hc, hl, hcs, hx⟩ := h
  refine ⟨A, c, rfl, hc, fun i hi => ?_⟩
  obtain ⟨x, h1, h3⟩ := hx i hi
  obtain ⟨a, k, e2, _⟩ := h3.form
  subst e2
  obtain ⟨g, o, e, hr⟩ := hcs (by intro e; subst e; simp at hl; omega)
  exact ⟨g, o, a, k, e, hr i _ h1, h3⟩

/-- append(v, x..) of bytes onto bytes of the call's own -/
theorem wp_appB (w : World) {o : Oper} {a : Act} {K : Act → World → Prop} {Q : Exit → Act → World → Prop} (s x : Operand)
    (ho : o.op = .call { callee := .builtin .append, args := #[s, x], argTypes := #[26, 26] })
    (base : Nat) (v : Value) (l : List UInt8) (hs : a.eval s = v) (hown : OwnB w base v l) (A : Option Addr) (m c : Nat) (ms : List UInt8) (hx : a.eval x = .slice A m c) (hl : ms.length = m) (hc : Cs w A (u8s ms))
    (hn : l.length + m ≤ 140737488355328) (hbase : base ≤ w.heap.size)
    (h : ∀ A' n' c' w', OwnB w' base (.slice A' n' c') (l ++ ms) → (∀ w0, w0.heap.size ≤ base → Kp No w0 w → Kp No w0 w') → Kp (fun k => v.ownBlock = some k) w w' → K (a.put o.dst (.slice A' n' c')) w') : o.wp Tryd.prog a w K Q :=
  wp_appV w s x 26 ho base 5 _ 1 Tryd.underlying26 Tryd.infoByte rfl v l.length (u8s l) hs hown A m c (u8s ms) hx (by rw [u8s_length]; exact hl) hc (u8s_one _) (by omega) (by omega) hbase
    fun v' w' o1 k1 _ => by
      have ob : OwnB w' base v' (l ++ ms) := own_of o1 rfl
      obtain ⟨A', c', e, _⟩ := own_len ob
      subst e
      exact h _ _ _ w' ob (fun w0 h0 k => k.then_ k1 fun i hi hm => by have := (hown.lt i hm).1; omega) k1
theorem wpList_appB (w : World) {ops : Array Oper} {rest : List Oper} {o : Oper} {a : Act} {Q : Exit → Act → World → Prop} (hgd : o.guard = none) (s x : Operand)
    (ho : o.op = .call { callee := .builtin .append, args := #[s, x], argTypes := #[26, 26] })
    (base : Nat) (v : Value) (l : List UInt8) (hs : a.eval s = v) (hown : OwnB w base v l) (A : Option Addr) (m c : Nat) (ms : List UInt8) (hx : a.eval x = .slice A m c) (hl : ms.length = m) (hc : Cs w A (u8s ms))
    (hn : l.length + m ≤ 140737488355328) (hbase : base ≤ w.heap.size)
    (h : ∀ A' n' c' w', OwnB w' base (.slice A' n' c') (l ++ ms) → (∀ w0, w0.heap.size ≤ base → Kp No w0 w → Kp No w0 w') → Kp (fun k => v.ownBlock = some k) w w' → wpList Tryd.prog ops Q rest (a.put o.dst (.slice A' n' c')) w') : wpList Tryd.prog ops Q (o :: rest) a w :=
  wpList_plain hgd fun _ hK => wp_appB w s x ho base v l hs hown A m c ms hx hl hc hn hbase fun A' n' c' w' h1 h2 h3 => hK _ _ (h A' n' c' w' h1 h2 h3)
theorem step_appB (w : World) {ops : Array Oper} {o : Oper} {a : Act} {K : Act → World → Prop} {Q : Exit → Act → World → Prop} {E : Prop} (hgd : o.guard = none) (s x : Operand)
    (ho : o.op = .call { callee := .builtin .append, args := #[s, x], argTypes := #[26, 26] })
    (base : Nat) (v : Value) (l : List UInt8) (hs : a.eval s = v) (hown : OwnB w base v l) (A : Option Addr) (m c : Nat) (ms : List UInt8) (hx : a.eval x = .slice A m c) (hl : ms.length = m) (hc : Cs w A (u8s ms))
    (hn : l.length + m ≤ 140737488355328) (hbase : base ≤ w.heap.size)
    (h : ∀ A' n' c' w', OwnB w' base (.slice A' n' c') (l ++ ms) → (∀ w0, w0.heap.size ≤ base → Kp No w0 w → Kp No w0 w') → Kp (fun k => v.ownBlock = some k) w w' → K (a.put o.dst (.slice A' n' c')) w') : if Region.wanted o (yielded ops a.tmps) = true then Oper.wp Tryd.prog o a w K Q else E := by
  have hw : Region.wanted o (yielded ops a.tmps) = true := by simp [Region.wanted, hgd]
  rw [if_pos hw]
  exact wp_appB w s x ho base v l hs hown A m c ms hx hl hc hn hbase h
theorem Tryd.infoBytes' : (Tryd.prog.info? 26).map (fun i => (i.zero, i.size, i.bytes)) = some (some (.slice Option.none 0 0), 1, 24) := by kernel_rfl
/-- append(v, x) of one list of bytes onto a list of lists of the call's own -/
theorem wpList_appR (w : World) {ops : Array Oper} {rest : List Oper} {o : Oper} {a : Act} {Q : Exit → Act → World → Prop} (hgd : o.guard = none) (s x : Operand)
    (ho : o.op = .call { callee := .builtin .append, args := #[s, x], argTypes := #[22, 22] })
    (base : Nat) (v : Value) (L : List (List UInt8)) (hs : a.eval s = v) (hown : Rows w base v L) (A : Option Addr) (c : Nat) (y : Value) (hy : y.oneCell' = true) (l : List UInt8) (hx : a.eval x = .slice A 1 c) (hc : Cs w A [y]) (hoy : OwnB w base y l)
    (hn : (L.length + 1) * 24 ≤ 140737488355328) (hbase : base ≤ w.heap.size)
    (h : ∀ A' n' c' w', Rows w' base (.slice A' n' c') (L ++ [l]) → (∀ w0, w0.heap.size ≤ base → Kp No w0 w → Kp No w0 w') → wpList Tryd.prog ops Q rest (a.put o.dst (.slice A' n' c')) w') : wpList Tryd.prog ops Q (o :: rest) a w := by
  obtain ⟨xs, ho1, hr⟩ := hown
  refine wpList_appV w hgd s x 22 ho base 26 _ 24 Tryd.underlying22 Tryd.infoBytes' rfl v L.length xs hs ho1 A 1 c [y] hx rfl hc (by intro u hu; rw [List.mem_singleton.1 hu]; exact hy) (by omega) (by omega) hbase ?_
  intro v' w' o1 k1 _
  obtain ⟨A', c', e, _⟩ := own_len o1
  subst e
  exact h _ _ _ w' (Rows.push ho1 rfl hr hoy o1 rfl k1) (fun w0 h0 k => k.then_ k1 fun i hi hm => by have := (ho1.lt i hm).1; omega)
end Go.Proofs.YthncnkkpfcbkfaaDoor
