/- Words for memory of this claim: a block known whole, a frame with a set of blocks that may change. -/
import Derived.Test.YtccadcefhfdmgaaGreatDoorRows
import Derived.WalkKit
import Derived.WalkSpells
import Derived.WalkLawsBesides
import Derived.Deep.MidRow
import Derived.Maps.AppendAt
namespace Go.Proofs.YtccadcefhfdmgaaGreatDoor
open Go.RowKit

/-- Block g holds just the cells cs, of element type t, none of them frozen. -/
def Bk (w : World) (g : Nat) (t : TypeId) (cs : List Value) : Prop := w.heap[g]? = some (.cells cs.toArray t (0, 0))

/-- From w to w' only blocks of M (and new ones) have changed. -/
structure Kp (M : Nat → Prop) (w w' : World) : Prop where
  os : w'.os = w.os
  tape : w'.tape = w.tape
  output : w'.output = w.output
  size : w.heap.size ≤ w'.heap.size
  block : ∀ k, k < w.heap.size → ¬ M k → w'.heap[k]? = w.heap[k]?

def No : Nat → Prop := fun _ => False

theorem Kp.refl (M : Nat → Prop) (w : World) : Kp M w w := ⟨rfl, rfl, rfl, Nat.le_refl _, fun _ _ _ => rfl⟩
theorem Kp.mono {M M' : Nat → Prop} {w w' : World} (h : Kp M w w') (hm : ∀ k, k < w.heap.size → M k → M' k) : Kp M' w w' :=
  ⟨h.os, h.tape, h.output, h.size, fun k hk hn => h.block k hk fun m => hn (hm k hk m)⟩
theorem Kp.of_no {M : Nat → Prop} {w w' : World} (h : Kp No w w') : Kp M w w' := h.mono fun _ _ m => m.elim
theorem Kp.trans {M : Nat → Prop} {a b c : World} (h : Kp M a b) (k : Kp M b c) : Kp M a c :=
  ⟨k.os.trans h.os, k.tape.trans h.tape, k.output.trans h.output, Nat.le_trans h.size k.size, fun i hi hn => (k.block i (Nat.lt_of_lt_of_le hi h.size) hn).trans (h.block i hi hn)⟩
theorem Kp.then_ {M N : Nat → Prop} {a b c : World} (h : Kp M a b) (k : Kp N b c) (hn : ∀ i, i < a.heap.size → N i → M i) : Kp M a c :=
  ⟨k.os.trans h.os, k.tape.trans h.tape, k.output.trans h.output, Nat.le_trans h.size k.size, fun i hi hm => (k.block i (Nat.lt_of_lt_of_le hi h.size) (fun m => hm (hn i hi m))).trans (h.block i hi hm)⟩
theorem Kp.drew {M : Nat → Prop} {a w : World} (h : Kp M a w) : Kp M a w.drew := ⟨h.os, h.tape, h.output, h.size, h.block⟩
theorem Kp.drewN {M : Nat → Prop} {a w : World} (h : Kp M a w) (n : Nat) : Kp M a (w.drewN n) := ⟨h.os, h.tape, h.output, h.size, h.block⟩
theorem Kp.alloc {M : Nat → Prop} {a w : World} (h : Kp M a w) (o : Obj) : Kp M a (w.alloc o) :=
  ⟨h.os, h.tape, h.output, Nat.le_trans h.size (by simp), fun k hk hn => (Below.heap_alloc w o k (Nat.lt_of_lt_of_le hk h.size)).trans (h.block k hk hn)⟩
theorem Kp.setCell {M : Nat → Prop} {a w : World} (h : Kp M a w) {p : Addr} (hp : M p.block ∨ a.heap.size ≤ p.block) (u : Value) : Kp M a (w.setCell p u) :=
  ⟨h.os, h.tape, h.output, by simpa [World.setCell] using h.size, fun k hk hn => (Below.heap_setCell w p u k (by
    rintro rfl
    rcases hp with hp | hp
    · exact hn hp
    · omega)).trans (h.block k hk hn)⟩
theorem Kp.of_grownBy {w w' : World} {row : Option Nat} (h : w.grownBy w' row) : Kp (fun k => row = some k) w w' :=
  ⟨h.os, h.tape, h.output, h.size, fun k hk hn => h.block k hk fun e => hn e.symm⟩
theorem Kp.below {w w' : World} {M : Nat → Prop} {B : Nat} (h : Kp M w w') (hB : B ≤ w.heap.size) (hM : ∀ k, k < B → ¬ M k) : Below B w w' :=
  ⟨h.os, h.tape, h.output, h.size, fun k hk => h.block k (Nat.lt_of_lt_of_le hk hB) (hM k hk)⟩
theorem Kp.of_below {w w' : World} (h : Below w.heap.size w w') : Kp No w w' := ⟨h.os, h.tape, h.output, h.size, fun k hk _ => h.block k hk⟩

section
variable {w w' : World} {g : Nat} {t : TypeId} {cs : List Value}
theorem Bk.lt (h : Bk w g t cs) : g < w.heap.size := (Array.getElem?_eq_some_iff.1 h).1
theorem Bk.cell (h : Bk w g t cs) (i : Nat) : w.cell? ⟨g, i, none⟩ = cs[i]? := by
  unfold Bk at h; simp [World.cell?, h]
theorem Bk.frozen (h : Bk w g t cs) (i : Nat) : w.frozen? ⟨g, i, none⟩ = false := by
  unfold Bk at h; simp [World.frozen?, h]
theorem Bk.new (w : World) (t : TypeId) (cs : List Value) : Bk (w.alloc (.cells cs.toArray t)) w.heap.size t cs := heap_alloc_new w _
theorem Bk.drew (h : Bk w g t cs) : Bk w.drew g t cs := h
theorem Bk.drewN (h : Bk w g t cs) (n : Nat) : Bk (w.drewN n) g t cs := h
theorem Bk.alloc (h : Bk w g t cs) (o : Obj) : Bk (w.alloc o) g t cs := (Below.heap_alloc w o g h.lt).trans h
theorem Bk.set_ (h : Bk w g t cs) (i : Nat) (u : Value) : Bk (w.setCell ⟨g, i, none⟩ u) g t (cs.set i u) := by
  unfold Bk at h ⊢
  simp [World.setCell, Array.getElem?_modify, h]
theorem Bk.far (h : Bk w g t cs) {p : Addr} (hp : g ≠ p.block) (u : Value) : Bk (w.setCell p u) g t cs := (Below.heap_setCell w p u g hp).trans h
theorem Bk.kp {M : Nat → Prop} (h : Bk w g t cs) (hk : Kp M w w') (hm : ¬ M g) : Bk w' g t cs := (hk.block g h.lt hm).trans h
theorem Bk.no (h : Bk w g t cs) (hk : Kp No w w') : Bk w' g t cs := h.kp hk (fun m => m)
theorem Bk.below {B : Nat} (h : Bk w g t cs) (hb : Below B w w') (hg : g < B) : Bk w' g t cs := (hb.block g hg).trans h
theorem Bk.ne_ {g' : Nat} {t' : TypeId} {cs' : List Value} (h : Bk w g t cs) (h' : Bk w g' t' cs') (hne : t ≠ t') : g ≠ g' := by
  rintro rfl
  unfold Bk at h h'
  rw [h] at h'
  injection h' with h'
  injection h' with _ ht
  exact hne ht
end

theorem Kp.set {M : Nat → Prop} {a w : World} {g : Nat} (h : Kp M a w) (hp : M g ∨ a.heap.size ≤ g) (i : Nat) (u : Value) : Kp M a (w.setCell ⟨g, i, none⟩ u) := h.setCell (p := ⟨g, i, none⟩) hp u

/-- the cells from o on, in the kit's word -/
theorem Bk.range {w : World} {g : Nat} {t : TypeId} {cs : List Value} (h : Bk w g t cs) (o n : Nat) : w.rangeAt g o ((cs.drop o).take n) := fun j v hv => by
  rw [h.cell, ← List.getElem?_drop]
  rw [List.getElem?_take] at hv
  split at hv
  · exact hv
  · cases hv
theorem Bk.there {w : World} {g : Nat} {t : TypeId} {cs : List Value} (h : Bk w g t cs) (o n : Nat) (hn : o + n ≤ cs.length) : w.there g o n := fun j hj => by
  refine ⟨?_, h.frozen _⟩
  rw [h.cell, List.getElem?_eq_getElem (by omega)]; rfl
theorem Bk.sets {g : Nat} {t : TypeId} : ∀ (vs : List Value) (o : Nat) {w : World} {cs : List Value}, Bk w g t cs → o + vs.length ≤ cs.length → Bk (w.setCells g o vs) g t (cs.take o ++ vs ++ cs.drop (o + vs.length))
  | [], o, w, cs, h, _ => by simpa [World.setCells] using h
  | v :: r, o, w, cs, h, hl => by
    simp only [List.length_cons] at hl
    have := Bk.sets r (o + 1) (h.set_ o v) (by simp; omega)
    rw [World.setCells]
    have e : (cs.set o v).take (o + 1) ++ r ++ (cs.set o v).drop (o + 1 + r.length) = cs.take o ++ v :: r ++ cs.drop (o + (v :: r).length) := by
      rw [List.drop_set_of_lt (by omega), List.take_add_one, List.take_set_of_le (by omega)]
      simp [show o < cs.length by omega, Nat.add_assoc, Nat.add_comm 1]
    rw [← e]
    exact this
theorem Kp.sets {M : Nat → Prop} {a : World} {g : Nat} : ∀ (vs : List Value) (o : Nat) {w : World}, Kp M a w → (M g ∨ a.heap.size ≤ g) → Kp M a (w.setCells g o vs)
  | [], _, _, h, _ => h
  | v :: r, o, _, h, hp => Kp.sets r (o + 1) (h.set hp o v) hp

theorem madeCells_same (k n : Nat) (v : Value) (hk : 0 < k) : madeCells (Array.replicate k v) n = (List.replicate n v).toArray := by
  apply Array.ext
  · simp [madeCells]
  · intro i h1 h2
    simp [madeCells, Nat.mod_lt i hk]

theorem mk_run {P : Program} (t e : TypeId) (i : TypeInfo) (z : Value) (ht : P.underlying t = some (.slice e)) (hi : P.info? e = some i) (hz : i.zero = some z) (k : Nat) (v : Value) (hk : 0 < k)
    (hc : z.cells = Array.replicate k v) (n : Nat) (hbytes : i.bytes * n ≤ 281474976710656) (h63 : n ≤ 9223372036854775807) (w : World) :
    (Instr.makeSlice t (.int .i64 (n : Int)) (.int .i64 (n : Int))).run P w = .ok (.slice (some ⟨w.heap.size, 0, none⟩) n n) (w.alloc (.cells (List.replicate (n * i.size) v).toArray e)) := by
  have hr := run_make (P := P) w t e i z ht hi hz .i64 .i64 n n (by omega) (by omega) (by omega) (by omega)
  rw [hc, madeCells_same _ _ _ hk] at hr
  exact hr

/-- one block alone -/
def One (b : Nat) : Nat → Prop := fun k => k = b
theorem One.self (b : Nat) : One b b := rfl
theorem Bk.new' {w : World} {g : Nat} {t : TypeId} {cs : List Value} {C : Array Value} (hg : g = w.heap.size) (hC : C = cs.toArray) : Bk (w.alloc (.cells C t)) g t cs := by
  subst hg; subst hC; exact Bk.new w t cs

theorem Bk.setsFar {g g' : Nat} {t : TypeId} {cs : List Value} (hne : g ≠ g') : ∀ (vs : List Value) (o : Nat) {w : World}, Bk w g t cs → Bk (w.setCells g' o vs) g t cs
  | [], _, _, h => h
  | v :: r, o, _, h => Bk.setsFar hne r (o + 1) (h.far (p := ⟨g', o, none⟩) hne v)

theorem setRow_alloc (w : World) (C D : Array Value) (t : TypeId) : (w.alloc (.cells C t)).setRow w.heap.size D = w.alloc (.cells D t) := by
  have e : ∀ (H : Array Obj) (f : Obj → Obj) (x : Obj), (H.push x).modify H.size f = H.push (f x) := by
    intro H f x
    apply Array.ext_getElem?
    intro i
    rw [Array.getElem?_modify, Array.getElem?_push, Array.getElem?_push]
    by_cases h : i = H.size
    · subst h; simp
    · rw [if_neg h, if_neg (Ne.symm h), if_neg h]
  simp only [World.setRow]
  congr 1
  exact e _ _ _

section
variable {P : Program}
/-- append(v, x): one element, of size cells, onto a row of the call's own -/
theorem wp_app1 (w : World) {o : Oper} {a : Act} {K : Act → World → Prop} {Q : Exit → Act → World → Prop} (s x : Operand) (t : TypeId)
    (ho : o.op = .call { callee := .builtin .append, args := #[s, x], argTypes := #[t, t] })
    (base : Nat) (e : TypeId) (z : Value) (size bytes : Nat) (ht : P.underlying t = some (.slice e)) (hi : (P.info? e).map (fun i => (i.zero, i.size, i.bytes)) = some (some z, size, bytes))
    (hzs : z.cells.size = size) (hsz : 0 < size)
    (v : Value) (n : Nat) (xs : List Value) (hs : a.eval s = v) (hown : w.ownsRow base e size v n xs)
    (q c : Nat) (ys : List Value) (hx : a.eval x = .slice (some ⟨q, 0, none⟩) 1 c) (hq : Bk w q e ys) (hl : ys.length = size) (h1 : ∀ u ∈ ys, u.oneCell' = true)
    (hn : n + 1 ≤ 281474976710656) (hbytes : (n + 1) * bytes ≤ 140737488355328) (hbase : base ≤ w.heap.size)
    (h : ∀ g cap w', w'.ownsRow base e size (.slice (some ⟨g, 0, none⟩) (n + 1) cap) (n + 1) (xs ++ ys) → Kp (fun k => v.ownBlock = some k) w w' → (v.ownBlock = some g ∨ g = w.heap.size) → K (a.put o.dst (.slice (some ⟨g, 0, none⟩) (n + 1) cap)) w') : o.wp P a w K Q := by
  obtain ⟨i0, hi0, hz0, hz1, hz2⟩ := info_parts hi
  have hnews : ∀ j u, ys[j]? = some u → w.cell? ((⟨q, 0, none⟩ : Addr).add j) = some u := by
    intro j u hu; rw [Addr.add_mid, Nat.zero_add, hq.cell]; exact hu
  obtain ⟨v', w', hr, h2, h3, _, h5⟩ := run_append_own_at (P := P) w base t o.type e i0 z size bytes ht hi0 hz0 hz1 hz2 hzs hsz v n xs hown ⟨q, 0, none⟩ 1 c ys (by omega) hnews h1 (by unfold maxLen; omega) hbytes hbase
  unfold Oper.wp execOp
  simp only [ho, resolve, invoke, builtin, Sem.run_bind, Sem.run_pure, Result.andThen_ok, List.map_toArray, List.map_cons, List.map_nil, hs, hx, hr]
  rcases h2.2 with ⟨_, hbad⟩ | ⟨g, cap, cur, hv', hrest⟩
  · omega
  · subst hv'
    have h5' : v.ownBlock = some g ∨ g = w.heap.size := by
      rcases h5 with e | e
      · exact .inl e.symm
      · right; simpa [Value.ownBlock] using e
    exact h g cap w' h2 ((Kp.of_grownBy h3).mono (fun k _ e => e)) h5'
theorem wpList_app1 (w : World) {ops : Array Oper} {rest : List Oper} {o : Oper} {a : Act} {Q : Exit → Act → World → Prop} (hgd : o.guard = none) (s x : Operand) (t : TypeId)
    (ho : o.op = .call { callee := .builtin .append, args := #[s, x], argTypes := #[t, t] })
    (base : Nat) (e : TypeId) (z : Value) (size bytes : Nat) (ht : P.underlying t = some (.slice e)) (hi : (P.info? e).map (fun i => (i.zero, i.size, i.bytes)) = some (some z, size, bytes))
    (hzs : z.cells.size = size) (hsz : 0 < size)
    (v : Value) (n : Nat) (xs : List Value) (hs : a.eval s = v) (hown : w.ownsRow base e size v n xs)
    (q c : Nat) (ys : List Value) (hx : a.eval x = .slice (some ⟨q, 0, none⟩) 1 c) (hq : Bk w q e ys) (hl : ys.length = size) (h1 : ∀ u ∈ ys, u.oneCell' = true)
    (hn : n + 1 ≤ 281474976710656) (hbytes : (n + 1) * bytes ≤ 140737488355328) (hbase : base ≤ w.heap.size)
    (h : ∀ g cap w', w'.ownsRow base e size (.slice (some ⟨g, 0, none⟩) (n + 1) cap) (n + 1) (xs ++ ys) → Kp (fun k => v.ownBlock = some k) w w' → (v.ownBlock = some g ∨ g = w.heap.size) → wpList P ops Q rest (a.put o.dst (.slice (some ⟨g, 0, none⟩) (n + 1) cap)) w') : wpList P ops Q (o :: rest) a w :=
  wpList_plain hgd fun _ hK => wp_app1 w s x t ho base e z size bytes ht hi hzs hsz v n xs hs hown q c ys hx hq hl h1 hn hbytes hbase fun g cap w' h2 h3 h4 => hK _ _ (h g cap w' h2 h3 h4)
/-- the same in a region that draws its order -/
theorem step_app1 (w : World) {ops : Array Oper} {o : Oper} {a : Act} {K : Act → World → Prop} {Q : Exit → Act → World → Prop} {E : Prop} (hgd : o.guard = none) (s x : Operand) (t : TypeId)
    (ho : o.op = .call { callee := .builtin .append, args := #[s, x], argTypes := #[t, t] })
    (base : Nat) (e : TypeId) (z : Value) (size bytes : Nat) (ht : P.underlying t = some (.slice e)) (hi : (P.info? e).map (fun i => (i.zero, i.size, i.bytes)) = some (some z, size, bytes))
    (hzs : z.cells.size = size) (hsz : 0 < size)
    (v : Value) (n : Nat) (xs : List Value) (hs : a.eval s = v) (hown : w.ownsRow base e size v n xs)
    (q c : Nat) (ys : List Value) (hx : a.eval x = .slice (some ⟨q, 0, none⟩) 1 c) (hq : Bk w q e ys) (hl : ys.length = size) (h1 : ∀ u ∈ ys, u.oneCell' = true)
    (hn : n + 1 ≤ 281474976710656) (hbytes : (n + 1) * bytes ≤ 140737488355328) (hbase : base ≤ w.heap.size)
    (h : ∀ g cap w', w'.ownsRow base e size (.slice (some ⟨g, 0, none⟩) (n + 1) cap) (n + 1) (xs ++ ys) → Kp (fun k => v.ownBlock = some k) w w' → (v.ownBlock = some g ∨ g = w.heap.size) → K (a.put o.dst (.slice (some ⟨g, 0, none⟩) (n + 1) cap)) w') :
    if Region.wanted o (yielded ops a.tmps) = true then Oper.wp P o a w K Q else E := by
  have hw : Region.wanted o (yielded ops a.tmps) = true := by simp [Region.wanted, hgd]
  rw [if_pos hw]
  exact wp_app1 w s x t ho base e z size bytes ht hi hzs hsz v n xs hs hown q c ys hx hq hl h1 hn hbytes hbase h
end

/-- an own row and a block of another element type are not one -/
theorem own_ne {w : World} {base : Nat} {e : TypeId} {size n : Nat} {v : Value} {xs : List Value} {g : Nat} {t : TypeId} {cs : List Value} (h : w.ownsRow base e size v n xs) (hg : Bk w g t cs) (hne : e ≠ t) : v.ownBlock ≠ some g := by
  rcases h.2 with ⟨rfl, _⟩ | ⟨g', cap, cur, rfl, _, hh, _⟩
  · simp [Value.ownBlock]
  · intro he
    have : g' = g := by simpa [Value.ownBlock] using he
    subst this
    have h1 : Bk w g' e cur.toList := by unfold Bk; simpa using hh
    exact Bk.ne_ h1 hg hne rfl

/-- a whole array read in a region that draws its order -/
theorem step_load_mid {P : Program} {ops : Array Oper} {op : Oper} {a : Act} {w : World} {K : Act → World → Prop} {Q : Exit → Act → World → Prop} {E : Prop} (hgd : op.guard = none) (ty : TypeId) (x : Operand) (ho : op.op = .load ty x)
    (b o : Nat) (hx : a.eval x = .pointer (some ⟨b, o, none⟩)) (cs : List Value) (d : TypeDesc) (hc : w.rangeAt b o cs)
    (hu : P.underlying ty = some d) (hd : d.isRow = true) (hi : (P.info? ty).map (·.size) = some cs.length)
    (h : K (a.put op.dst (.agg cs.toArray)) w) : if Region.wanted op (yielded ops a.tmps) = true then Oper.wp P op a w K Q else E := by
  have hw : Region.wanted op (yielded ops a.tmps) = true := by simp [Region.wanted, hgd]
  rw [if_pos hw]
  exact wp_load_mid ty x ho b o hx cs d hc hu hd hi h

theorem foldl_set_from : ∀ (l : List Value) (k : Nat) (z : Array Value), k + l.length ≤ z.size →
    (l.zipIdx k).foldl (fun cs (x : Value × Nat) => cs.setIfInBounds (0 + x.2) x.1) z = (z.toList.take k ++ l ++ z.toList.drop (k + l.length)).toArray
  | [], k, z, _ => by simp
  | v :: r, k, z, h => by
    simp only [List.length_cons] at h
    rw [List.zipIdx_cons, List.foldl_cons, foldl_set_from r (k + 1) _ (by simp; omega)]
    congr 1
    simp only [Nat.zero_add, Array.toList_setIfInBounds]
    rw [List.drop_set_of_lt (by omega), List.take_add_one, List.take_set_of_le (by omega)]
    simp [show k < z.size by omega, Nat.add_assoc, Nat.add_comm 1]
/-- one part that is the whole element -/
theorem run_buildOne {P : Program} (t e : TypeId) (z : Value) (size bytes : Nat) (ht : P.underlying t = some (.slice e)) (hi : (P.info? e).map (fun i => (i.zero, i.size, i.bytes)) = some (some z, size, bytes))
    (h0 : 0 < size) (h1 : size ≤ 16777216) (v : Value) (cs : List Value) (hv : v.cells = cs.toArray) (hl : cs.length = size) (w : World) :
    (Instr.buildSlice t 1 #[(0, v)]).run P w = .ok (.slice (some ⟨w.heap.size, 0, none⟩) 1 1) (w.alloc (.cells cs.toArray e)) := by
  obtain ⟨i0, hi0, hz0, hz1, hz2⟩ := info_parts hi
  have hf : Instr.fill (fun i => some (i * size, size)) ((Array.range (1 * size)).map (z.cells[· % z.cells.size]!)) [(0, v)] = some cs.toArray := by
    simp only [Instr.fill, Nat.zero_mul, hv, List.size_toArray, hl, ne_eq, not_true_eq_false, Nat.zero_add]
    have e1 : (Array.map (fun x => z.cells[x % z.cells.size]!) (Array.range (1 * size))).size = size := by simp
    rw [if_neg (by simp)]
    congr 1
    have := foldl_set_from cs 0 (Array.map (fun x => z.cells[x % z.cells.size]!) (Array.range (1 * size))) (by rw [e1]; omega)
    rw [← Array.foldl_toList, Array.toList_zipIdx]
    simp only [Nat.zero_add] at this ⊢
    rw [this]
    simp only [List.take_zero, List.nil_append]
    rw [List.drop_eq_nil_of_le (by simp; omega), List.append_nil]
  simp [Instr.buildSlice, run_underlying ht, sizeOf, typeInfo, hi0, hz1, zeroValue, hz0, show ¬ 16777216 < size by omega, show size ≠ 0 by omega, newRow]
  simp only [Nat.one_mul] at hf
  rw [hf]
  simp

theorem wp_build1 {P : Program} {o : Oper} {a : Act} {w : World} {K : Act → World → Prop} {Q : Exit → Act → World → Prop} (t : TypeId) (x : Operand) (ho : o.op = .buildSlice t 1 #[(0, x)])
    (e : TypeId) (z : Value) (size bytes : Nat) (ht : P.underlying t = some (.slice e)) (hi : (P.info? e).map (fun i => (i.zero, i.size, i.bytes)) = some (some z, size, bytes))
    (h0 : 0 < size) (h1 : size ≤ 16777216) (v : Value) (hx : a.eval x = v) (cs : List Value) (hv : v.cells = cs.toArray) (hl : cs.length = size)
    (h : K (a.put o.dst (.slice (some ⟨w.heap.size, 0, none⟩) 1 1)) (w.alloc (.cells cs.toArray e))) : o.wp P a w K Q := by
  unfold Oper.wp execOp
  simp only [ho, List.map_toArray, List.map_cons, List.map_nil, hx, Sem.run_bind, Sem.run_pure, Result.andThen_ok, run_buildOne (P := P) t e z size bytes ht hi h0 h1 v cs hv hl w]
  exact h
theorem step_build1 {P : Program} {ops : Array Oper} {o : Oper} {a : Act} {w : World} {K : Act → World → Prop} {Q : Exit → Act → World → Prop} {E : Prop} (hgd : o.guard = none) (t : TypeId) (x : Operand) (ho : o.op = .buildSlice t 1 #[(0, x)])
    (e : TypeId) (z : Value) (size bytes : Nat) (ht : P.underlying t = some (.slice e)) (hi : (P.info? e).map (fun i => (i.zero, i.size, i.bytes)) = some (some z, size, bytes))
    (h0 : 0 < size) (h1 : size ≤ 16777216) (v : Value) (hx : a.eval x = v) (cs : List Value) (hv : v.cells = cs.toArray) (hl : cs.length = size)
    (h : K (a.put o.dst (.slice (some ⟨w.heap.size, 0, none⟩) 1 1)) (w.alloc (.cells cs.toArray e))) : if Region.wanted o (yielded ops a.tmps) = true then Oper.wp P o a w K Q else E := by
  have hw : Region.wanted o (yielded ops a.tmps) = true := by simp [Region.wanted, hgd]
  rw [if_pos hw]
  exact wp_build1 t x ho e z size bytes ht hi h0 h1 v hx cs hv hl h

theorem exec_load_mid {P : Program} {op : Oper} {a : Act} (w : World) (ty : TypeId) (x : Operand) (ho : op.op = .load ty x) (b o : Nat) (hx : a.eval x = .pointer (some ⟨b, o, none⟩)) (cs : List Value) (d : TypeDesc) (hc : w.rangeAt b o cs)
    (hu : P.underlying ty = some d) (hd : d.isRow = true) (hi : (P.info? ty).map (·.size) = some cs.length) : (execOp a.eval op).run P w = .ok (.value (.agg cs.toArray)) w := by
  unfold execOp
  simp only [ho, hx, Instr.loadAt, Instr.sureAddr, Sem.run_bind, Sem.run_pure, Result.andThen_ok, run_loadVar_mid w b o ty cs d hc hu hd hi]
theorem range_kp {w w' : World} {g o : Nat} {xs : List Value} {M : Nat → Prop} (h : w.rangeAt g o xs) (hk : Kp M w w') (hm : ¬ M g) : w'.rangeAt g o xs := fun j v hv => by
  have := h j v hv
  rw [World.cell?_of_block (w := w) (hk.block g (World.block_lt_of_cell? w _ this) hm)]; exact this
theorem range_lt {w : World} {g o : Nat} {xs : List Value} (h : w.rangeAt g o xs) (hx : 0 < xs.length) : g < w.heap.size :=
  World.block_lt_of_cell? w _ (h 0 _ (List.getElem?_eq_getElem hx))

/-- the cells of a slice of one-cell elements -/
def Cs (w : World) (A : Option Addr) (xs : List Value) : Prop := xs ≠ [] → ∃ g o, A = some ⟨g, o, none⟩ ∧ w.rangeAt g o xs
section
variable {P : Program}
/-- append(v, xs...): cells onto a row of the call's own that is not nil -/
theorem wp_appN (w : World) {o : Oper} {a : Act} {K : Act → World → Prop} {Q : Exit → Act → World → Prop} (s x : Operand) (t : TypeId)
    (ho : o.op = .call { callee := .builtin .append, args := #[s, x], argTypes := #[t, t] })
    (base : Nat) (e : TypeId) (z : Value) (bytes : Nat) (ht : P.underlying t = some (.slice e)) (hi : (P.info? e).map (fun i => (i.zero, i.size, i.bytes)) = some (some z, 1, bytes)) (hzs : z.cells.size = 1)
    (g0 n c0 : Nat) (xs : List Value) (hs : a.eval s = .slice (some ⟨g0, 0, none⟩) n c0) (hown : w.ownsRow base e 1 (.slice (some ⟨g0, 0, none⟩) n c0) n xs)
    (A : Option Addr) (m c : Nat) (news : List Value) (hx : a.eval x = .slice A m c) (hl : news.length = m) (hc : Cs w A news) (h1 : ∀ u ∈ news, u.oneCell' = true)
    (hn : n + m ≤ 281474976710656) (hbytes : (n + m) * bytes ≤ 140737488355328) (hbase : base ≤ w.heap.size)
    (h : ∀ g cap w', w'.ownsRow base e 1 (.slice (some ⟨g, 0, none⟩) (n + m) cap) (n + m) (xs ++ news) → Kp (fun k => k = g0) w w' → (g = g0 ∨ g = w.heap.size) → K (a.put o.dst (.slice (some ⟨g, 0, none⟩) (n + m) cap)) w') : o.wp P a w K Q := by
  obtain ⟨i0, hi0, hz0, hz1, hz2⟩ := info_parts hi
  have key : ∃ g cap w', (Builtin.append_ #[t, t] o.type #[.slice (some ⟨g0, 0, none⟩) n c0, .slice A m c]).run P w = .ok (.slice (some ⟨g, 0, none⟩) (n + m) cap) w' ∧
      w'.ownsRow base e 1 (.slice (some ⟨g, 0, none⟩) (n + m) cap) (n + m) (xs ++ news) ∧ Kp (fun k => k = g0) w w' ∧ (g = g0 ∨ g = w.heap.size) := by
    cases A with
    | none =>
      have hm : news = [] := by
        by_cases hne : news = []
        · exact hne
        · obtain ⟨g, o, e, _⟩ := hc hne; cases e
      subst hm
      have hm0 : m = 0 := by simpa using hl.symm
      subst hm0
      have hnc : n ≤ c0 := by
        rcases hown.2 with ⟨hb, _⟩ | ⟨g, cap, cur, hb, _, _, hnc, _⟩
        · cases hb
        · injection hb with _ _ hc; omega
      refine ⟨g0, c0, w, ?_, by simpa using hown, Kp.refl _ _, .inl rfl⟩
      simp [Builtin.append_, run_underlying ht, sizeOf, typeInfo, hi0, Builtin.lenOf, Builtin.firstCells, hnc, storeCells]
    | some ad =>
      have hnews : ∀ j u, news[j]? = some u → w.cell? (ad.add j) = some u := by
        intro j u hu
        obtain ⟨g, o, e, hr⟩ := hc (by intro e; subst e; simp at hu)
        injection e with e; subst e
        rw [Addr.add_mid]; exact hr j u hu
      obtain ⟨v', w', hr, h2, h3, h4, h5⟩ := run_append_own_at (P := P) w base t o.type e i0 z 1 bytes ht hi0 hz0 hz1 hz2 hzs (by omega) _ n xs hown ad m c news (by omega) hnews h1 (by unfold maxLen; omega) hbytes hbase
      have hnn : v' ≠ .slice none 0 0 := fun e => by have := (h4.1 e).1; cases this
      rcases h2.2 with ⟨hb, _⟩ | ⟨g, cap, cur, hv', _⟩
      · exact absurd hb hnn
      · subst hv'
        refine ⟨g, cap, w', hr, h2, (Kp.of_grownBy h3).mono (fun k _ e => by simpa [Value.ownBlock] using e.symm), ?_⟩
        rcases h5 with e | e <;> simp [Value.ownBlock] at e
        · exact .inl e
        · exact .inr e
  obtain ⟨g, cap, w', hr, k2, k3, k4⟩ := key
  unfold Oper.wp execOp
  simp only [ho, resolve, invoke, builtin, Sem.run_bind, Sem.run_pure, Result.andThen_ok, List.map_toArray, List.map_cons, List.map_nil, hs, hx, hr]
  exact h g cap w' k2 k3 k4
theorem wpList_appN (w : World) {ops : Array Oper} {rest : List Oper} {o : Oper} {a : Act} {Q : Exit → Act → World → Prop} (hgd : o.guard = none) (s x : Operand) (t : TypeId)
    (ho : o.op = .call { callee := .builtin .append, args := #[s, x], argTypes := #[t, t] })
    (base : Nat) (e : TypeId) (z : Value) (bytes : Nat) (ht : P.underlying t = some (.slice e)) (hi : (P.info? e).map (fun i => (i.zero, i.size, i.bytes)) = some (some z, 1, bytes)) (hzs : z.cells.size = 1)
    (g0 n c0 : Nat) (xs : List Value) (hs : a.eval s = .slice (some ⟨g0, 0, none⟩) n c0) (hown : w.ownsRow base e 1 (.slice (some ⟨g0, 0, none⟩) n c0) n xs)
    (A : Option Addr) (m c : Nat) (news : List Value) (hx : a.eval x = .slice A m c) (hl : news.length = m) (hc : Cs w A news) (h1 : ∀ u ∈ news, u.oneCell' = true)
    (hn : n + m ≤ 281474976710656) (hbytes : (n + m) * bytes ≤ 140737488355328) (hbase : base ≤ w.heap.size)
    (h : ∀ g cap w', w'.ownsRow base e 1 (.slice (some ⟨g, 0, none⟩) (n + m) cap) (n + m) (xs ++ news) → Kp (fun k => k = g0) w w' → (g = g0 ∨ g = w.heap.size) → wpList P ops Q rest (a.put o.dst (.slice (some ⟨g, 0, none⟩) (n + m) cap)) w') : wpList P ops Q (o :: rest) a w :=
  wpList_plain hgd fun _ hK => wp_appN w s x t ho base e z bytes ht hi hzs g0 n c0 xs hs hown A m c news hx hl hc h1 hn hbytes hbase fun g cap w' h2 h3 h4 => hK _ _ (h g cap w' h2 h3 h4)
end
end Go.Proofs.YtccadcefhfdmgaaGreatDoor
