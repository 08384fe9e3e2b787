/- Several texts of this claim in one. No condition beyond what each theorem states. -/
import Derived.Maps.OwnSet
import Derived.Lib.SlKeysI
import Derived.Maps.RangeWalk
import Derived.Test.YtkiaclldjofdoaaGreatB01
import Derived.Maps.RangeRun
import Derived.OwnWalk
import Derived.Lib.Hide
import Derived.PlainAid
import Derived.Deep.QuietTactic
/- A list of open calls as a map's datum: what a map of ints does to it. No condition beyond what each theorem states. -/
namespace Go.Proofs.YtkiaclldjofdoaaGreat
open Go Go.Maps

structure Cll where
  seq : Int := 0
  dest : Int := 0
  verb : Int := 0
  path : List UInt8 := []
  mode : Int := 0
  term : Int := 0
  id : Int := 0
  fresh : Bool := false
  sent : Int := 0
  tries : Int := 0
deriving DecidableEq

section
variable {H : Type}

/-- how a call reads -/
def cllD (x : Cll) : DataW H :=
  .agg [.lit (.int .i64 x.seq), .lit (.int .i64 x.dest), .lit (.int .i64 x.verb), .lit (.string x.path), .lit (.int .i64 x.mode),
    .lit (.int .i64 x.term), .lit (.int .i64 x.id), .lit (.bool x.fresh), .lit (.int .i64 x.sent), .lit (.int .i64 x.tries)]

/-- an entry of the map -/
def entC (x : Cll) : Lit × DataW H := (.int .i64 x.seq, cllD x)

/-- the map of the open calls -/
def mapC (l : List Cll) : DataW H := .map (l.map entC)

/-- calls that rise by number -/
def Ris (l : List Cll) : Prop := l.Pairwise (fun x y => x.seq < y.seq)

theorem same_int (a b : Int) : (Lit.int .i64 a).sameKey (.int .i64 b) = decide (a = b) := by simp [Lit.sameKey]

theorem mapC_size (l : List Cll) : Maps.size (mapC (H := H) l) = l.length := by simp [mapC, Maps.size]

theorem mapC_keys (l : List Cll) : intKeys (mapC (H := H) l) = l.map Cll.seq := by
  simp [mapC, intKeys, entC, intOf, Function.comp_def]

/-- the call of a number -/
def getC (l : List Cll) (s : Int) : Option Cll := l.find? (fun x => decide (x.seq = s))

theorem mapC_has (l : List Cll) (s : Int) : Maps.has (mapC (H := H) l) (.int .i64 s) = (getC l s).isSome := by
  induction l with
  | nil => rfl
  | cons x r ih =>
    simp only [mapC, Maps.has_eq, getC, List.map_cons, List.any_cons, List.find?_cons, entC, same_int] at ih ⊢
    by_cases h : x.seq = s
    · simp [h]
    · simp only [h, decide_false, Bool.false_or]; exact ih

theorem mapC_at (l : List Cll) (s : Int) (z : DataW H) : (mapC l).atKey (.int .i64 s) z = match getC l s with | some x => cllD x | none => z := by
  induction l with
  | nil => rfl
  | cons x r ih =>
    simp only [mapC, DataW.atKey, getC, List.map_cons, List.find?_cons, entC, same_int] at ih ⊢
    by_cases h : x.seq = s
    · simp [h]
    · simp only [h, decide_false]; exact ih

theorem mapC_del (l : List Cll) (s : Int) : (mapC (H := H) l).del (.int .i64 s) = mapC (l.filter (fun x => decide (x.seq ≠ s))) := by
  simp only [mapC, DataW.del, DataW.map.injEq]
  induction l with
  | nil => rfl
  | cons x r ih =>
    simp only [List.map_cons, List.filter_cons, entC, same_int]
    by_cases h : x.seq = s
    · simpa [h] using ih
    · simp only [h, decide_false, Bool.not_false, if_true, ne_eq, not_false_eq_true, decide_true, List.map_cons, entC, List.cons.injEq, true_and]
      exact ih

theorem insert_last (e : Lit × DataW H) : ∀ (l : List (Lit × DataW H)), (∀ p ∈ l, e.1.before p.1 = false) → DataW.insert e l = l ++ [e]
  | [], _ => rfl
  | y :: r, h => by
    simp only [DataW.insert, h y (by simp), Bool.false_eq_true, if_false, List.cons_append]
    rw [insert_last e r (fun p hp => h p (by simp [hp]))]

/-- a call with a higher number comes last -/
theorem mapC_put_new (l : List Cll) (x : Cll) (h : ∀ y ∈ l, y.seq < x.seq) : (mapC (H := H) l).put (.int .i64 x.seq) (cllD x) = mapC (l ++ [x]) := by
  have hf : ∀ p ∈ l.map (entC (H := H)), (!p.1.sameKey (.int .i64 x.seq)) = true := by
    intro p hp
    obtain ⟨y, hy, rfl⟩ := List.mem_map.1 hp
    have := h y hy
    simp only [entC, same_int, Bool.not_eq_true', decide_eq_false_iff_not]
    omega
  simp only [mapC, DataW.put, DataW.map.injEq]
  rw [List.filter_eq_self.2 hf, insert_last]
  · simp [entC]
  · intro p hp
    obtain ⟨y, hy, rfl⟩ := List.mem_map.1 hp
    have := h y hy
    simp only [entC, Lit.before, decide_eq_false_iff_not]
    omega

theorem insert_mid (e : Lit × DataW H) : ∀ (a b : List (Lit × DataW H)), (∀ p ∈ a, e.1.before p.1 = false) → (∀ p ∈ b, e.1.before p.1 = true) → DataW.insert e (a ++ b) = a ++ e :: b
  | [], [], _, _ => rfl
  | [], y :: r, _, h => by simp [DataW.insert, h y (by simp)]
  | y :: r, b, h, hb => by
    simp only [List.cons_append, DataW.insert, h y (by simp), Bool.false_eq_true, if_false]
    rw [insert_mid e r b (fun p hp => h p (by simp [hp])) hb]

/-- a call's entry turned -/
theorem mapC_put_at (a b : List Cll) (x y : Cll) (hx : x.seq = y.seq) (hr : Ris (a ++ y :: b)) : (mapC (H := H) (a ++ y :: b)).put (.int .i64 x.seq) (cllD x) = mapC (a ++ x :: b) := by
  obtain ⟨_, h2, h3⟩ := List.pairwise_append.1 hr
  obtain ⟨h4, _⟩ := List.pairwise_cons.1 h2
  have ha : ∀ p ∈ a.map (entC (H := H)), (!p.1.sameKey (.int .i64 x.seq)) = true := by
    intro p hp
    obtain ⟨z, hz, rfl⟩ := List.mem_map.1 hp
    have := h3 z hz y (by simp)
    simp only [entC, same_int, Bool.not_eq_true', decide_eq_false_iff_not]
    omega
  have hb : ∀ p ∈ b.map (entC (H := H)), (!p.1.sameKey (.int .i64 x.seq)) = true := by
    intro p hp
    obtain ⟨z, hz, rfl⟩ := List.mem_map.1 hp
    have := h4 z hz
    simp only [entC, same_int, Bool.not_eq_true', decide_eq_false_iff_not]
    omega
  simp only [mapC, DataW.put, DataW.map.injEq, List.map_append, List.map_cons, List.filter_append, List.filter_cons]
  rw [List.filter_eq_self.2 ha, List.filter_eq_self.2 hb]
  have hy : (!(entC (H := H) y).1.sameKey (.int .i64 x.seq)) = false := by simp [entC, same_int, hx]
  simp only [hy, Bool.false_eq_true, if_false]
  rw [insert_mid]
  · rfl
  · intro p hp
    obtain ⟨z, hz, rfl⟩ := List.mem_map.1 hp
    have := h3 z hz y (by simp)
    simp only [entC, Lit.before, decide_eq_false_iff_not]
    omega
  · intro p hp
    obtain ⟨z, hz, rfl⟩ := List.mem_map.1 hp
    have := h4 z hz
    simp only [entC, Lit.before, decide_eq_true_eq]
    omega

/-- numbers that rise are sorted -/
theorem ris_sorted {l : List Cll} (h : Ris l) {ss : List Int} (hp : ss.Perm (l.map Cll.seq)) : ss.mergeSort (fun x y => decide (x ≤ y)) = l.map Cll.seq := by
  have h1 : (ss.mergeSort (fun x y => decide (x ≤ y))).Perm (l.map Cll.seq) := (List.mergeSort_perm _ _).trans hp
  refine h1.eq_of_pairwise (le := fun x y : Int => x ≤ y) (fun a b _ _ h1 h2 => Int.le_antisymm h1 h2) ?_ ?_
  · have := List.pairwise_mergeSort (le := fun x y : Int => decide (x ≤ y)) (by intro a b c; simp; omega) (by intro a b; simp; omega) ss
    exact this.imp (by simp)
  · unfold Ris at h
    exact (List.pairwise_map.2 (h.imp (fun hxy => Int.le_of_lt hxy)))

theorem getC_mem {l : List Cll} {s : Int} {x : Cll} (h : getC l s = some x) : x ∈ l ∧ x.seq = s := by
  have h1 := List.find?_some h
  exact ⟨List.mem_of_find?_eq_some h, by simpa using h1⟩

theorem getC_of {l : List Cll} (h : Ris l) {x : Cll} (hx : x ∈ l) : getC l x.seq = some x := by
  induction l with
  | nil => cases hx
  | cons y r ih =>
    obtain ⟨h1, h2⟩ := List.pairwise_cons.1 h
    simp only [getC, List.find?_cons]
    by_cases he : y = x
    · simp [he]
    · have hxr : x ∈ r := by simpa [Ne.symm he] using hx
      have := h1 x hxr
      have hne : ¬ y.seq = x.seq := by omega
      simp only [hne, decide_false]
      exact ih h2 hxr
end
end Go.Proofs.YtkiaclldjofdoaaGreat

/- How an open call lies as a map's value, and how it reads. No condition beyond what each theorem states. -/
namespace Go.Proofs.YtkiaclldjofdoaaGreat
open Go Go.Maps

def cC (x : Cll) : List Value :=
  [.int .i64 x.seq, .int .i64 x.dest, .int .i64 x.verb, .string ⟨x.path.toArray⟩, .int .i64 x.mode, .int .i64 x.term, .int .i64 x.id, .bool x.fresh, .int .i64 x.sent, .int .i64 x.tries]
/-- a call as a value -/
def vC (x : Cll) : Value := .agg (cC x).toArray

theorem vC_inj {x y : Cll} (h : vC x = vC y) : x = y := by
  cases x; cases y
  simp [vC, cC] at h
  simpa using h

section
variable {H : Type}
theorem cllD_inj {x y : Cll} (h : cllD (H := H) x = cllD y) : x = y := by
  cases x; cases y
  simp [cllD] at h
  simpa using h

open Classical in
/-- a call's reader -/
noncomputable def RC (v : Value) : Option (DataW H × List MemPlace) :=
  if h : ∃ x, v = vC x then some (cllD h.choose, []) else none

theorem RC_mk (x : Cll) : RC (H := H) (vC x) = some (cllD x, []) := by
  have h : ∃ y, vC x = vC y := ⟨x, rfl⟩
  unfold RC
  rw [dif_pos h]
  rw [← vC_inj h.choose_spec]

theorem RC_inv {v : Value} {y : DataW H × List MemPlace} (h : RC v = some y) : ∃ x, v = vC x ∧ y = (cllD x, []) := by
  unfold RC at h
  split at h
  · rename_i hx
    exact ⟨hx.choose, hx.choose_spec, by cases h; rfl⟩
  · cases h

theorem RC_of {v : Value} {x : Cll} {ps : List MemPlace} (h : RC (H := H) v = some (cllD x, ps)) : v = vC x := by
  obtain ⟨y, rfl, hy⟩ := RC_inv h
  have : cllD (H := H) x = cllD y := congrArg Prod.fst hy
  rw [cllD_inj this]
/-- what a lookup finds -/
theorem RC_look {l : List Cll} {s : Int} {v : Value} {ps : List MemPlace} (h : RC (H := H) v = some ((mapC l).atKey (.int .i64 s) (cllD {}), ps)) : v = vC ((getC l s).getD {}) := by
  rw [mapC_at] at h
  cases hg : getC l s with
  | none => rw [hg] at h; exact RC_of h
  | some x => rw [hg] at h; exact RC_of h

end
end Go.Proofs.YtkiaclldjofdoaaGreat

/- The map of open calls in memory, at the operation. No condition beyond what each theorem states. -/
namespace Go.Proofs.YtkiaclldjofdoaaGreat
open Go Go.Maps

/-- block b is the map of the open calls l -/
def OwnM (P : Program) (w : World) (k : TypeId) (b : Nat) (l : List Cll) : Prop :=
  w.ownsMap (H := Unit) P k RC b l.length (mapC l)

section
variable {P : Program} {k e t : TypeId}

theorem OwnM.tight {w : World} {b n : Nat} {l : List Cll} (h : w.ownsMap (H := Unit) P k RC b n (mapC l)) : OwnM P w k b l := by
  obtain ⟨es, clock, h1, h2, _, h4⟩ := h
  refine ⟨es, clock, h1, h2, ?_, h4⟩
  have := length_read (H := Unit) (P := P) (k := k) (R0 := RC) es
  simp only [mapC, DataW.map.injEq] at h4
  rw [← h4] at this
  simp at this
  omega

theorem OwnM.lt {w : World} {b : Nat} {l : List Cll} (h : OwnM P w k b l) : b < w.heap.size := World.ownsMap.lt h

theorem OwnM.made (w : World) (P : Program) (k : TypeId) : OwnM P (w.alloc (.map #[] 0)) k w.heap.size [] :=
  World.ownsMap_made w P k RC

theorem OwnM.kept {w w' : World} {b : Nat} {row : Option Nat} {l : List Cll} (h : OwnM P w k b l) (hg : w.grownBy w' row) (hne : some b ≠ row) : OwnM P w' k b l :=
  World.ownsMap.kept h hg hne

theorem OwnM.same {w w' : World} {b : Nat} {l : List Cll} (h : OwnM P w k b l) (he : w'.heap[b]? = w.heap[b]?) : OwnM P w' k b l := by
  obtain ⟨es, clock, h1, h2⟩ := h
  exact ⟨es, clock, he.trans h1, h2⟩

theorem OwnM.one {w : World} {b : Nat} {l l' : List Cll} (h : OwnM P w k b l) (h' : OwnM P w k b l') : l = l' := by
  obtain ⟨es, clock, h1, _, _, h4⟩ := h
  obtain ⟨es', clock', h1', _, _, h4'⟩ := h'
  rw [h1] at h1'
  simp only [Option.some.injEq, Obj.map.injEq] at h1'
  rw [← h1'.1, ← h4] at h4'
  simp only [mapC, DataW.map.injEq] at h4'
  have hi : Function.Injective (entC (H := Unit)) := fun x y hxy => cllD_inj (congrArg Prod.snd hxy)
  exact (List.map_inj_right (fun _ _ h => hi h)).1 h4'.symm

variable (w : World) {ops : Array Oper} {rest : List Oper} {o : Oper} {a : Act} {Q : Exit → Act → World → Prop}

theorem key_i64 (hk : P.underlying k = some (.int .i64)) {s : Int} (hs : (Lit.int .i64 s).wf = true) : keyOf P k (.int .i64 s) = some (.int .i64 s) := keyOf_int_mk hk hs

/-- 'x, ok := m[s]' -/
theorem wp_look (hg : o.guard = none) (m x : Operand) (t : TypeId) (hop : o.op = Op.lookup t m x true) (k e : TypeId) (hk : P.underlying k = some (.int .i64)) (ht : P.underlying t = some (.map k e))
    (hz : (zeroValue e).run P w = .ok (vC {}) w) (b : Nat) (l : List Cll) (s : Int) (hm : a.eval m = .map (some b)) (hown : OwnM P w k b l) (hx : a.eval x = .int .i64 s) (hs : (Lit.int .i64 s).wf = true)
    (hK : wpList P ops Q rest (a.put o.dst (.tuple #[vC ((getC l s).getD {}), .bool (getC l s).isSome])) w) : wpList P ops Q (o :: rest) a w := by
  refine wpList_lookup_own_ok w hg m x t hop k e (int_keyed hk) ht RC hz (cllD {}) [] (RC_mk {}) b _ (mapC l) hm hown _ _ hx (key_i64 hk hs) ?_
  intro v ps hv
  rw [RC_look hv, mapC_has]
  exact hK

/-- 'delete(m, s)' -/
theorem wp_drop (hg : o.guard = none) (m x : Operand) (t k : TypeId) (hop : o.op = Op.call { callee := Callee.builtin Builtin.delete, args := #[m, x], argTypes := #[t, k] }) (e : TypeId)
    (hk : P.underlying k = some (.int .i64)) (ht : P.underlying t = some (.map k e)) (b : Nat) (l : List Cll) (s : Int) (hm : a.eval m = .map (some b)) (hown : OwnM P w k b l) (hx : a.eval x = .int .i64 s)
    (hs : (Lit.int .i64 s).wf = true)
    (hK : ∀ w', OwnM P w' k b (l.filter (fun x => decide (x.seq ≠ s))) → w.mapTurned w' b → wpList P ops Q rest (a.put o.dst (.tuple #[])) w') : wpList P ops Q (o :: rest) a w := by
  refine wpList_delete_own w hg m x t k hop e (int_keyed hk) ht RC b _ (mapC l) hm hown _ _ hx (key_i64 hk hs) ?_
  intro w' h1 h2
  rw [mapC_del] at h1
  exact hK w' (OwnM.tight h1) h2

/-- 'len(m)' -/
theorem wp_lenM (hg : o.guard = none) (m : Operand) (t : TypeId) (hop : o.op = Op.call { callee := Callee.builtin Builtin.len, args := #[m], argTypes := #[t] }) (k e : TypeId)
    (ht : P.underlying t = some (.map k e)) (b : Nat) (l : List Cll) (hm : a.eval m = .map (some b)) (hown : OwnM P w k b l) (hK : wpList P ops Q rest (a.put o.dst (.int .i64 l.length)) w) : wpList P ops Q (o :: rest) a w := by
  refine wpList_len_own w hg m t hop k e ht RC b _ (mapC l) hm hown ?_
  rw [mapC_size]
  exact hK

/-- 'm[s] = x', a number above all -/
theorem wp_putNew (hg : o.guard = none) (m x v : Operand) (t : TypeId) (hop : o.op = Op.mapUpdate t m x v) (k e : TypeId) (hk : P.underlying k = some (.int .i64)) (ht : P.underlying t = some (.map k e))
    (b : Nat) (l : List Cll) (c : Cll) (hm : a.eval m = .map (some b)) (hown : OwnM P w k b l) (hn : l.length < maxLen) (hx : a.eval x = .int .i64 c.seq) (hs : (Lit.int .i64 c.seq).wf = true) (hv : a.eval v = vC c)
    (hl : ∀ y ∈ l, y.seq < c.seq) (hK : ∀ w', OwnM P w' k b (l ++ [c]) → w.mapTurned w' b → wpList P ops Q rest (a.put o.dst undef) w') : wpList P ops Q (o :: rest) a w := by
  refine wpList_mapUpdate_in w hg m x v t hop k e (int_keyed hk) ht RC b _ (mapC l) hm hown hn _ _ _ hx hv (key_i64 hk hs) (cllD c) [] (RC_mk c) ?_
  intro w' h1 h2
  rw [mapC_put_new l c hl] at h1
  exact hK w' (OwnM.tight h1) h2

/-- 'm[s] = x', a number that is there -/
theorem wp_putAt (hg : o.guard = none) (m x v : Operand) (t : TypeId) (hop : o.op = Op.mapUpdate t m x v) (k e : TypeId) (hk : P.underlying k = some (.int .i64)) (ht : P.underlying t = some (.map k e))
    (b : Nat) (p q : List Cll) (y c : Cll) (hm : a.eval m = .map (some b)) (hown : OwnM P w k b (p ++ y :: q)) (hn : (p ++ y :: q).length < maxLen) (hx : a.eval x = .int .i64 c.seq) (hs : (Lit.int .i64 c.seq).wf = true)
    (hv : a.eval v = vC c) (hc : c.seq = y.seq) (hr : Ris (p ++ y :: q)) (hK : ∀ w', OwnM P w' k b (p ++ c :: q) → w.mapTurned w' b → wpList P ops Q rest (a.put o.dst undef) w') : wpList P ops Q (o :: rest) a w := by
  refine wpList_mapUpdate_in w hg m x v t hop k e (int_keyed hk) ht RC b _ (mapC (p ++ y :: q)) hm hown hn _ _ _ hx hv (key_i64 hk hs) (cllD c) [] (RC_mk c) ?_
  intro w' h1 h2
  rw [mapC_put_at p q c y hc hr] at h1
  exact hK w' (OwnM.tight h1) h2
end
end Go.Proofs.YtkiaclldjofdoaaGreat

/- A range over the map of open calls: its lowest number. No condition beyond what each theorem states. -/
namespace Go.Proofs.YtkiaclldjofdoaaGreat
open Go Go.Maps

/-- the lowest number that is open, or the next -/
def lowC (l : List Cll) (nx : Int) : Int := match l with | [] => nx | x :: _ => x.seq

/-- what a range has found when 'left' is yet to come -/
def LowAt (l : List Cll) (nx : Int) (left : Lit → Bool) (v : Int) : Prop :=
  (v = nx ∨ ∃ x ∈ l, v = x.seq) ∧ ∀ x ∈ l, left (.int .i64 x.seq) = false → v ≤ x.seq

theorem LowAt.first (l : List Cll) (nx : Int) : LowAt l nx (Maps.has (mapC (H := Unit) l)) nx := by
  refine ⟨.inl rfl, fun x hx h => ?_⟩
  rw [mapC_has] at h
  simp only [Option.isSome_eq_false_iff, Option.isNone_iff_eq_none, getC, List.find?_eq_none, decide_eq_true_eq] at h
  exact absurd rfl (h x hx)

theorem LowAt.step {l : List Cll} {nx : Int} {left : Lit → Bool} {v s : Int} (h : LowAt l nx left v) (hs : ∃ x ∈ l, s = x.seq) :
    LowAt l nx (fun z => left z && !z.sameKey (.int .i64 s)) (min v s) := by
  obtain ⟨h1, h2⟩ := h
  refine ⟨?_, fun x hx hl => ?_⟩
  · by_cases hv : v ≤ s
    · rw [Int.min_eq_left hv]; exact h1
    · rw [Int.min_eq_right (by omega)]; exact .inr hs
  · simp only [same_int, Bool.and_eq_false_iff, Bool.not_eq_false', decide_eq_true_eq] at hl
    rcases hl with hl | hl
    · have := h2 x hx hl; omega
    · omega

theorem LowAt.last {l : List Cll} {nx v : Int} {left : Lit → Bool} (h : LowAt l nx left v) (hr : Ris l) (hn : ∀ x ∈ l, x.seq < nx) (hl : ∀ kl, left kl = false) : v = lowC l nx := by
  obtain ⟨h1, h2⟩ := h
  cases l with
  | nil => rcases h1 with h1 | ⟨x, hx, _⟩; · exact h1
           cases hx
  | cons y r =>
    have h3 := h2 y (by simp) (hl _)
    have h4 := hn y (by simp)
    show v = y.seq
    rcases h1 with h1 | ⟨x, hx, h1⟩
    · omega
    · rcases List.mem_cons.1 hx with rfl | hx
      · exact h1
      · have := (List.pairwise_cons.1 hr).1 x hx
        omega

/-- the open calls l, a range under way at block r -/
def RanM (P : Program) (w : World) (k : TypeId) (b r : Nat) (l : List Cll) (left : Lit → Bool) (cnt : Nat) : Prop :=
  w.ranges (H := Unit) P k RC b r l.length (mapC l) left cnt

section
variable {P : Program} {k e t : TypeId} (w : World) {ops : Array Oper} {rest : List Oper} {o : Oper} {a : Act} {Q : Exit → Act → World → Prop}

/-- 'range m' -/
theorem wp_rangeM (hg : o.guard = none) (m : Operand) (t : TypeId) (hop : o.op = Op.range t m) (k e : TypeId) (hk : P.underlying k = some (.int .i64)) (ht : P.underlying t = some (.map k e)) (b : Nat) (l : List Cll)
    (hm : a.eval m = .map (some b)) (hown : OwnM P w k b l)
    (hK : ∀ w', RanM P w' k b w.heap.size l (Maps.has (mapC (H := Unit) l)) l.length → w.grownBy w' none → w'.heap.size = w.heap.size + 1 → wpList P ops Q rest (a.put o.dst (.pointer (some ⟨w.heap.size, 0, none⟩))) w') :
    wpList P ops Q (o :: rest) a w := by
  refine wpList_range_own w hg m t hop k e (int_keyed hk) ht RC b _ (mapC l) hm hown ?_
  intro w' h1 h2 h3
  rw [mapC_size] at h1
  exact hK w' h1 h2 h3

/-- the step -/
theorem wp_nextM (hg : o.guard = none) (it : Operand) (hop : o.op = Op.next it false) (k : TypeId) (hk : P.underlying k = some (.int .i64)) (b r : Nat) (l : List Cll) (left : Lit → Bool) (cnt : Nat)
    (hit : a.eval it = .pointer (some ⟨r, 0, none⟩)) (h : RanM P w k b r l left cnt)
    (hDone : (∀ kl, left kl = false) → wpList P ops Q rest (a.put o.dst (.tuple #[.bool false])) w)
    (hMore : ∀ (c : Cll) (w' : World) (cnt' : Nat), c ∈ l → (Lit.int .i64 c.seq).wf = true → RanM P w' k b r l (fun z => left z && !z.sameKey (.int .i64 c.seq)) cnt' → cnt' < cnt → w.grownBy w' (some r) → w'.heap.size = w.heap.size →
      (Instr.entry (.pointer (some ⟨r, 0, none⟩))).run P w' = .ok (.tuple #[.int .i64 c.seq, vC c]) w' → wpList P ops Q rest (a.put o.dst (.tuple #[.bool true, .int .i64 c.seq, vC c])) w') : wpList P ops Q (o :: rest) a w := by
  refine wpList_next_ranges w hg it hop k (int_keyed hk) RC (Value.int .i64) vC (fun key kl hkey => by obtain ⟨x, rfl, _⟩ := Maps.keyOf_int_inv hk hkey; exact ⟨x, rfl⟩) (fun v y hv => by obtain ⟨c, rfl, _⟩ := RC_inv hv; exact ⟨c, rfl⟩)
    b r _ (mapC l) left cnt hit h (fun _ h0 => hDone h0) ?_
  intro x c kl y w' cnt' hkey hlk hv hat hrg hlt hgr hsz hen
  obtain ⟨x', ex, rfl, hwx⟩ := Maps.keyOf_int_inv hk hkey
  cases ex
  obtain ⟨c', ec, rfl⟩ := RC_inv hv
  cases vC_inj ec
  have h1 : getC l x = some c := by
    have h2 := hat .nil
    rw [mapC_at] at h2
    cases hg : getC l x with
    | none => rw [hg] at h2; cases h2
    | some c' => rw [hg] at h2; rw [cllD_inj h2]
  obtain ⟨hm, rfl⟩ := getC_mem h1
  exact hMore c w' cnt' hm hwx hrg hlt hgr hsz hen
end
end Go.Proofs.YtkiaclldjofdoaaGreat

/- The document's calls in plain words: what each operation keeps. No condition beyond what each theorem states. -/
namespace Go.Proofs.YtkiaclldjofdoaaGreat
open Go Go.Maps

structure Cls where
  boot : Int := 0
  next : Int := 0
  opn : List Cll := []

def Cls.low (c : Cls) : Int := lowC c.opn c.next

structure CsOk (c : Cls) : Prop where
  boot : 1 ≤ c.boot ∧ c.boot ≤ 1099511627776
  next : 1 ≤ c.next ∧ c.next ≤ 1099511627777
  ris : Ris c.opn
  num : ∀ x ∈ c.opn, 1 ≤ x.seq ∧ x.seq < c.next
  win : c.next ≤ c.low + 8
  len : c.opn.length ≤ 4

theorem low_cons (x : Cll) (l : List Cll) (n : Int) : lowC (x :: l) n = x.seq := rfl
theorem low_nil (n : Int) : lowC [] n = n := rfl

/-- the lowest is below all -/
theorem CsOk.low_le {c : Cls} (h : CsOk c) : (∀ x ∈ c.opn, c.low ≤ x.seq) ∧ c.low ≤ c.next ∧ 1 ≤ c.low := by
  have h1 := h.ris; have h2 := h.num; have h3 := h.next
  unfold Cls.low
  cases hc : c.opn with
  | nil => exact ⟨by simp, by rw [low_nil]; omega, by rw [low_nil]; omega⟩
  | cons y r =>
    rw [hc] at h1 h2
    have h4 := h2 y (by simp)
    refine ⟨fun x hx => ?_, by rw [low_cons]; omega, by rw [low_cons]; omega⟩
    rw [low_cons]
    rcases List.mem_cons.1 hx with rfl | hx
    · omega
    · have := (List.pairwise_cons.1 h1).1 x hx
      omega

/-- no calls yet -/
theorem CsOk.new {b : Int} (h : 1 ≤ b ∧ b ≤ 1099511627776) : CsOk { boot := b, next := 1, opn := [] } where
  boot := h
  next := by show (1 : Int) ≤ 1 ∧ (1 : Int) ≤ 1099511627777; omega
  ris := List.Pairwise.nil
  num := by simp
  win := by simp [Cls.low, low_nil]
  len := by simp

def callC (c : Cls) (now : Int) (x : Cll) : Cll := { x with seq := c.next, sent := now, tries := 1 }
def openC (c : Cls) (now : Int) (x : Cll) : Cls := { c with next := c.next + 1, opn := c.opn ++ [callC c now x] }
/-- may one more be opened? -/
def startE (ok : Bool) (c : Cls) (now : Int) : Int :=
  if now < 0 ∨ 1152921504606846976 < now then 2 else if ok = false then 22 else if 1099511627776 < c.next then 66 else if 4 ≤ c.opn.length ∨ c.low + 8 ≤ c.next then 52 else 0

theorem CsOk.opened {c : Cls} (h : CsOk c) {ok : Bool} {now : Int} (x : Cll) (h0 : startE ok c now = 0) : CsOk (openC c now x) := by
  have h1 := h.low_le
  unfold startE at h0
  split at h0; · cases h0
  split at h0; · cases h0
  split at h0; · cases h0
  split at h0; · cases h0
  rename_i ha hb hc hd
  have hlow : (openC c now x).low = c.low := by
    unfold Cls.low openC
    cases c.opn with
    | nil => rfl
    | cons y r => rfl
  refine ⟨h.boot, ?_, ?_, ?_, ?_, ?_⟩
  · have := h.next; simp only [openC]; omega
  · simp only [openC, Ris, List.pairwise_append]
    refine ⟨h.ris, List.pairwise_singleton _ _, fun y hy z hz => ?_⟩
    simp only [List.mem_singleton] at hz
    subst hz
    exact (h.num y hy).2
  · intro y hy
    simp only [openC, List.mem_append, List.mem_singleton] at hy ⊢
    have := h.next
    rcases hy with hy | rfl
    · have := h.num y hy; omega
    · simp only [callC]; omega
  · rw [hlow]; simp only [openC]; omega
  · simp only [openC, List.length_append, List.length_singleton]; omega

def closeC (c : Cls) (s : Int) : Cls := { c with opn := c.opn.filter (fun x => decide (x.seq ≠ s)) }

theorem CsOk.closed {c : Cls} (h : CsOk c) (s : Int) : CsOk (closeC c s) := by
  have h1 := h.low_le
  have hsub : ∀ x ∈ (closeC c s).opn, x ∈ c.opn := fun x hx => (List.mem_filter.1 hx).1
  refine ⟨h.boot, h.next, h.ris.sublist List.filter_sublist, fun x hx => h.num x (hsub x hx), ?_, ?_⟩
  · have h2 := h.win
    unfold Cls.low
    cases hc : (closeC c s).opn with
    | nil => rw [low_nil]; omega
    | cons y r =>
      rw [low_cons]
      have := h1.1 y (hsub y (by rw [hc]; simp))
      show c.next ≤ _
      omega
  · exact Nat.le_trans (List.length_filter_le _ _) h.len

/-- the call x turned to y at its number -/
def turnC (c : Cls) (y : Cll) : Cls := { c with opn := c.opn.map (fun x => if x.seq = y.seq then y else x) }

theorem turn_seqs (l : List Cll) (y : Cll) : (l.map (fun x => if x.seq = y.seq then y else x)).map Cll.seq = l.map Cll.seq := by
  rw [List.map_map]
  refine List.map_congr_left (fun x _ => ?_)
  simp only [Function.comp]
  split
  · rename_i h; exact h.symm
  · rfl

theorem CsOk.turned {c : Cls} (h : CsOk c) (y : Cll) : CsOk (turnC c y) := by
  have hs := turn_seqs c.opn y
  refine ⟨h.boot, h.next, ?_, ?_, ?_, ?_⟩
  · have h1 := List.pairwise_map.2 h.ris
    rw [← hs] at h1
    exact List.pairwise_map.1 h1
  · intro x hx
    have : x.seq ∈ c.opn.map Cll.seq := by rw [← hs]; exact List.mem_map_of_mem hx
    obtain ⟨z, hz, he⟩ := List.mem_map.1 this
    have := h.num z hz
    simp only [turnC]
    omega
  · have h2 := h.win
    have hl : (turnC c y).low = c.low := by
      unfold Cls.low turnC
      cases hc : c.opn with
      | nil => rfl
      | cons z r =>
        simp only [List.map_cons, low_cons]
        split
        · rename_i h; exact h.symm
        · rfl
    rw [hl]; exact h2
  · simp only [turnC, List.length_map]; exact h.len

/-- a list that rises, cut at a number -/
theorem cut_at {l : List Cll} (hr : Ris l) {s : Int} {x : Cll} (h : getC l s = some x) : ∃ p q, l = p ++ x :: q ∧ x.seq = s ∧ ∀ y, y.seq = s → l.map (fun z => if z.seq = y.seq then y else z) = p ++ y :: q := by
  obtain ⟨hm, rfl⟩ := getC_mem h
  obtain ⟨p, q, rfl⟩ := List.append_of_mem hm
  refine ⟨p, q, rfl, rfl, fun y hy => ?_⟩
  obtain ⟨_, h2, h3⟩ := List.pairwise_append.1 hr
  have h4 := (List.pairwise_cons.1 h2).1
  rw [List.map_append, List.map_cons, if_pos hy.symm]
  congr 1
  · refine (List.map_congr_left (fun z hz => ?_)).trans (List.map_id p)
    have := h3 z hz x (by simp)
    rw [if_neg (by omega)]; rfl
  · congr 1
    refine (List.map_congr_left (fun z hz => ?_)).trans (List.map_id q)
    have := h4 z hz
    rw [if_neg (by omega)]; rfl
end Go.Proofs.YtkiaclldjofdoaaGreat

/- The calls of a node in memory; Low by contract. No condition beyond what each theorem states. -/
namespace Go.Proofs.YtkiaclldjofdoaaGreat
open Go Go.RowKit Go.Maps

theorem mapT : Tryz.prog.underlying 64 = some (.map 3 32) := by kernel_rfl
theorem intT : Tryz.prog.underlying 3 = some (.int .i64) := by kernel_rfl
theorem zeroT (w : World) : (zeroValue 32).run Tryz.prog w = .ok (vC {}) w := by kernel_rfl

/-- a node's calls in memory -/
def OwnCs (w : World) (b mb : Nat) (c : Cls) : Prop :=
  Bk w b 66 [.int .i64 c.boot, .int .i64 c.next, .map (some mb)] ∧ OwnM Tryz.prog w 3 mb c.opn

theorem OwnM.kp {M : Nat → Prop} {w w' : World} {k : TypeId} {b : Nat} {l : List Cll} (h : OwnM Tryz.prog w k b l) (hk : Kp M w w') (hm : ¬ M b) : OwnM Tryz.prog w' k b l :=
  h.same (hk.block b h.lt hm)
theorem OwnCs.kp {M : Nat → Prop} {w w' : World} {b mb : Nat} {c : Cls} (h : OwnCs w b mb c) (hk : Kp M w w') (h1 : ¬ M b) (h2 : ¬ M mb) : OwnCs w' b mb c :=
  ⟨h.1.kp hk h1, h.2.kp hk h2⟩
theorem OwnCs.no {w w' : World} {b mb : Nat} {c : Cls} (h : OwnCs w b mb c) (hk : Kp No w w') : OwnCs w' b mb c := h.kp hk id id

set_option maxHeartbeats 1000000 in
theorem low_any (b mb : Nat) (c : Cls) (W : World) (h : OwnCs W b mb c) (hc : CsOk c) :
    Calls Tryz.prog 22 #[.pointer (some ⟨b, 0, none⟩)] W fun e w' => e = .returned (.int .i64 c.low) ∧ Kp No W w' := by
  have HC := Lib.hid hc
  have c1 : W.cell? ⟨b, 1, none⟩ = some (.int .i64 c.next) := h.1.cell 1
  have c2 : W.cell? ⟨b, 2, none⟩ = some (.map (some mb)) := h.1.cell 2
  have HM := h.2
  go_enter Tryz.func22, Tryz.ntmps22
  go_wp2_with (first
    | (at_range; refine wp_rangeM _ rfl _ _ rfl 3 32 intT mapT mb c.opn rfl HM ?_; intro w0 hrg0 hg0 hs0)
    | go_in)
  have K0 : Kp No W w0 := (Kp.of_grownBy hg0).mono (fun _ _ m => by cases m)
  go_frame
  go_loopw [3] (fun v wr => ∃ (left : Lit → Bool) (cnt : Nat) (n : Int), v = .int .i64 n ∧ RanM Tryz.prog wr 3 mb W.heap.size c.opn left cnt ∧ LowAt c.opn c.next left n ∧ Kp No W wr) (fun _ wr => wr.rangeLeft mb W.heap.size)
  case atStart => exact ⟨_, _, _, rfl, hrg0, LowAt.first _ _, K0⟩
  case round =>
    obtain ⟨left, cnt, n, rfl, hrg, hL, hK⟩ := hrel
    have HL := Lib.hid hL; have HK := Lib.hid hK; clear hL hK
    go_wp2_with (first
      | (at_next; refine wp_nextM _ rfl _ rfl 3 intT mb W.heap.size c.opn _ _ rfl hrg ?_ ?_)
      | go_in)
    · intro hl
      have he := HL.out.last HC.out.ris (fun x hx => (HC.out.num x hx).2) hl
      go_wp2
      go_ret
      exact ⟨by rw [he]; rfl, HK.out⟩
    · intro x w1 cnt1 hx hwf hrg1 hlt hg1 hs1 hen
      have K1 : Kp No W w1 := HK.out.then_ (Kp.of_grownBy hg1) (fun i hi m => by cases m; omega)
      go_wp2
      refine ⟨⟨_, cnt1, _, rfl, hrg1, ?_, K1⟩, ?_⟩
      · have e1 : (if x.seq < n then x.seq else n) = min n x.seq := by split <;> omega
        rw [e1]
        exact HL.out.step ⟨x, hx, rfl⟩
      · rw [World.ranges.left_eq hrg1, World.ranges.left_eq hrg]
        exact hlt
end Go.Proofs.YtkiaclldjofdoaaGreat

/- Get, Close, Boot by contract. No condition beyond what each theorem states. -/
namespace Go.Proofs.YtkiaclldjofdoaaGreat
open Go Go.RowKit Go.Maps

/-- the call of a number, or none -/
def atC (l : List Cll) (s : Int) : Cll := (getC l s).getD {}

theorem boot_any (b mb : Nat) (c : Cls) (W : World) (h : OwnCs W b mb c) :
    Calls Tryz.prog 24 #[.pointer (some ⟨b, 0, none⟩)] W fun e w' => e = .returned (.int .i64 c.boot) ∧ Kp No W w' := by
  have c0 : W.cell? ⟨b, 0, none⟩ = some (.int .i64 c.boot) := h.1.cell 0
  go_enter Tryz.func24, Tryz.ntmps24
  go_wp2
  go_ret
  exact ⟨rfl, Kp.refl _ _⟩

set_option maxHeartbeats 1000000 in
theorem get_any (b mb : Nat) (c : Cls) (s : Int) (W : World) (h : OwnCs W b mb c) (hs : (Lit.int .i64 s).wf = true) :
    Calls Tryz.prog 13 #[.pointer (some ⟨b, 0, none⟩), .int .i64 s] W fun e w' => e = .returned (.tuple #[vC (atC c.opn s), .bool (getC c.opn s).isSome]) ∧ Kp No W w' := by
  have H := Lib.hid h
  have c2 : W.cell? ⟨b, 2, none⟩ = some (.map (some mb)) := h.1.cell 2
  have K1 := (Kp.refl No W).alloc (.cells (cC {}).toArray 32)
  have HM := (h.no K1).2
  have d2 := (h.no K1).1.cell 2
  have f2 := (h.no K1).1.frozen 2
  have hb : b < W.heap.size := h.1.lt
  clear h
  unfold atC
  generalize hg : (getC c.opn s).getD {} = x
  obtain ⟨a0, a1, a2, a3, a4, a5, a6, a7, a8, a9⟩ := x
  simp only [cC] at K1 HM d2 f2
  simp at d2
  go_enter Tryz.func13, Tryz.ntmps13
  go_wp2_with (first
    | (at_lookup; refine wp_look _ rfl _ _ _ rfl 3 32 intT mapT (zeroT _) mb c.opn s rfl HM rfl hs ?_; rw [hg]; simp only [vC, cC])
    | go_in)
  have B9 : Bk ((W.alloc (.cells (cC ⟨a0, a1, a2, a3, a4, a5, a6, a7, a8, a9⟩).toArray 32)).alloc (.cells (cC ⟨a0, a1, a2, a3, a4, a5, a6, a7, a8, a9⟩).toArray 32)) W.heap.size 32 (cC ⟨a0, a1, a2, a3, a4, a5, a6, a7, a8, a9⟩) := by
    exact (Bk.new W _ _).alloc _
  have K9 := ((Kp.refl No W).alloc (.cells (cC ⟨a0, a1, a2, a3, a4, a5, a6, a7, a8, a9⟩).toArray 32)).alloc (.cells (cC ⟨a0, a1, a2, a3, a4, a5, a6, a7, a8, a9⟩).toArray 32)
  simp only [cC] at B9 K9
  generalize hw9 : World.alloc (W.alloc _) _ = w9 at B9 K9 ⊢
  have x0 := B9.cell 0; have x1 := B9.cell 1; have x2 := B9.cell 2; have x3 := B9.cell 3; have x4 := B9.cell 4
  have x5 := B9.cell 5; have x6 := B9.cell 6; have x7 := B9.cell 7; have x8 := B9.cell 8; have x9 := B9.cell 9
  simp only [List.getElem?_cons_zero, List.getElem?_cons_succ] at x0 x1 x2 x3 x4 x5 x6 x7 x8 x9
  refine bodyPost_ret (v := .tuple #[vC ⟨a0, a1, a2, a3, a4, a5, a6, a7, a8, a9⟩, .bool (getC c.opn s).isSome]) (by simp [results, Tryz.results13, go_sem, vC, cC, x0, x1, x2, x3, x4, x5, x6, x7, x8, x9]) rfl ?_
  exact ⟨rfl, K9⟩
end Go.Proofs.YtkiaclldjofdoaaGreat
