/- Several texts of this claim in one. No condition beyond what each theorem states. -/
import Derived.Test.YtbnpdghfbiacaaaGreatRows
import Derived.WalkKit
import Derived.WalkSpells
import Derived.WalkLawsBesides
import Derived.Deep.MidRow
import Derived.Maps.AppendAt
import Derived.Laws.BitsAllLaws
/- Words for memory of this claim: a block known whole, a frame with a set of blocks that may change. -/
namespace Go.Proofs.YtbnpdghfbiacaaaGreat
open Go.RowKit

/-- Block g holds just the cells cs, of element type t, none of them frozen. -/
def Bk (w : World) (g : Nat) (t : TypeId) (cs : List Value) : Prop := w.heap[g]? = some (.cells cs.toArray t (0, 0))

/-- From w to w' only blocks of M (and new ones) have changed. -/
structure Kp (M : Nat → Prop) (w w' : World) : Prop where
  os : w'.os = w.os
  tape : w'.tape = w.tape
  output : w'.output = w.output
  size : w.heap.size ≤ w'.heap.size
  block : ∀ k, k < w.heap.size → ¬ M k → w'.heap[k]? = w.heap[k]?

def No : Nat → Prop := fun _ => False

theorem Kp.refl (M : Nat → Prop) (w : World) : Kp M w w := ⟨rfl, rfl, rfl, Nat.le_refl _, fun _ _ _ => rfl⟩
theorem Kp.mono {M M' : Nat → Prop} {w w' : World} (h : Kp M w w') (hm : ∀ k, k < w.heap.size → M k → M' k) : Kp M' w w' :=
  ⟨h.os, h.tape, h.output, h.size, fun k hk hn => h.block k hk fun m => hn (hm k hk m)⟩
theorem Kp.of_no {M : Nat → Prop} {w w' : World} (h : Kp No w w') : Kp M w w' := h.mono fun _ _ m => m.elim
theorem Kp.trans {M : Nat → Prop} {a b c : World} (h : Kp M a b) (k : Kp M b c) : Kp M a c :=
  ⟨k.os.trans h.os, k.tape.trans h.tape, k.output.trans h.output, Nat.le_trans h.size k.size, fun i hi hn => (k.block i (Nat.lt_of_lt_of_le hi h.size) hn).trans (h.block i hi hn)⟩
theorem Kp.then_ {M N : Nat → Prop} {a b c : World} (h : Kp M a b) (k : Kp N b c) (hn : ∀ i, i < a.heap.size → N i → M i) : Kp M a c :=
  ⟨k.os.trans h.os, k.tape.trans h.tape, k.output.trans h.output, Nat.le_trans h.size k.size, fun i hi hm => (k.block i (Nat.lt_of_lt_of_le hi h.size) (fun m => hm (hn i hi m))).trans (h.block i hi hm)⟩
theorem Kp.drew {M : Nat → Prop} {a w : World} (h : Kp M a w) : Kp M a w.drew := ⟨h.os, h.tape, h.output, h.size, h.block⟩
theorem Kp.drewN {M : Nat → Prop} {a w : World} (h : Kp M a w) (n : Nat) : Kp M a (w.drewN n) := ⟨h.os, h.tape, h.output, h.size, h.block⟩
theorem Kp.alloc {M : Nat → Prop} {a w : World} (h : Kp M a w) (o : Obj) : Kp M a (w.alloc o) :=
  ⟨h.os, h.tape, h.output, Nat.le_trans h.size (by simp), fun k hk hn => (Below.heap_alloc w o k (Nat.lt_of_lt_of_le hk h.size)).trans (h.block k hk hn)⟩
theorem Kp.setCell {M : Nat → Prop} {a w : World} (h : Kp M a w) {p : Addr} (hp : M p.block ∨ a.heap.size ≤ p.block) (u : Value) : Kp M a (w.setCell p u) :=
  ⟨h.os, h.tape, h.output, by simpa [World.setCell] using h.size, fun k hk hn => (Below.heap_setCell w p u k (by
    rintro rfl
    rcases hp with hp | hp
    · exact hn hp
    · omega)).trans (h.block k hk hn)⟩
theorem Kp.of_grownBy {w w' : World} {row : Option Nat} (h : w.grownBy w' row) : Kp (fun k => row = some k) w w' :=
  ⟨h.os, h.tape, h.output, h.size, fun k hk hn => h.block k hk fun e => hn e.symm⟩
theorem Kp.below {w w' : World} {M : Nat → Prop} {B : Nat} (h : Kp M w w') (hB : B ≤ w.heap.size) (hM : ∀ k, k < B → ¬ M k) : Below B w w' :=
  ⟨h.os, h.tape, h.output, h.size, fun k hk => h.block k (Nat.lt_of_lt_of_le hk hB) (hM k hk)⟩
theorem Kp.of_below {w w' : World} (h : Below w.heap.size w w') : Kp No w w' := ⟨h.os, h.tape, h.output, h.size, fun k hk _ => h.block k hk⟩

section
variable {w w' : World} {g : Nat} {t : TypeId} {cs : List Value}
theorem Bk.lt (h : Bk w g t cs) : g < w.heap.size := (Array.getElem?_eq_some_iff.1 h).1
theorem Bk.cell (h : Bk w g t cs) (i : Nat) : w.cell? ⟨g, i, none⟩ = cs[i]? := by
  unfold Bk at h; simp [World.cell?, h]
theorem Bk.frozen (h : Bk w g t cs) (i : Nat) : w.frozen? ⟨g, i, none⟩ = false := by
  unfold Bk at h; simp [World.frozen?, h]
theorem Bk.new (w : World) (t : TypeId) (cs : List Value) : Bk (w.alloc (.cells cs.toArray t)) w.heap.size t cs := heap_alloc_new w _
theorem Bk.drew (h : Bk w g t cs) : Bk w.drew g t cs := h
theorem Bk.drewN (h : Bk w g t cs) (n : Nat) : Bk (w.drewN n) g t cs := h
theorem Bk.alloc (h : Bk w g t cs) (o : Obj) : Bk (w.alloc o) g t cs := (Below.heap_alloc w o g h.lt).trans h
theorem Bk.set_ (h : Bk w g t cs) (i : Nat) (u : Value) : Bk (w.setCell ⟨g, i, none⟩ u) g t (cs.set i u) := by
  unfold Bk at h ⊢
  simp [World.setCell, Array.getElem?_modify, h]
theorem Bk.far (h : Bk w g t cs) {p : Addr} (hp : g ≠ p.block) (u : Value) : Bk (w.setCell p u) g t cs := (Below.heap_setCell w p u g hp).trans h
theorem Bk.kp {M : Nat → Prop} (h : Bk w g t cs) (hk : Kp M w w') (hm : ¬ M g) : Bk w' g t cs := (hk.block g h.lt hm).trans h
theorem Bk.no (h : Bk w g t cs) (hk : Kp No w w') : Bk w' g t cs := h.kp hk (fun m => m)
theorem Bk.below {B : Nat} (h : Bk w g t cs) (hb : Below B w w') (hg : g < B) : Bk w' g t cs := (hb.block g hg).trans h
theorem Bk.ne_ {g' : Nat} {t' : TypeId} {cs' : List Value} (h : Bk w g t cs) (h' : Bk w g' t' cs') (hne : t ≠ t') : g ≠ g' := by
  rintro rfl
  unfold Bk at h h'
  rw [h] at h'
  injection h' with h'
  injection h' with _ ht
  exact hne ht
end

theorem Kp.set {M : Nat → Prop} {a w : World} {g : Nat} (h : Kp M a w) (hp : M g ∨ a.heap.size ≤ g) (i : Nat) (u : Value) : Kp M a (w.setCell ⟨g, i, none⟩ u) := h.setCell (p := ⟨g, i, none⟩) hp u

/-- the cells from o on, in the kit's word -/
theorem Bk.range {w : World} {g : Nat} {t : TypeId} {cs : List Value} (h : Bk w g t cs) (o n : Nat) : w.rangeAt g o ((cs.drop o).take n) := fun j v hv => by
  rw [h.cell, ← List.getElem?_drop]
  rw [List.getElem?_take] at hv
  split at hv
  · exact hv
  · cases hv
theorem Bk.there {w : World} {g : Nat} {t : TypeId} {cs : List Value} (h : Bk w g t cs) (o n : Nat) (hn : o + n ≤ cs.length) : w.there g o n := fun j hj => by
  refine ⟨?_, h.frozen _⟩
  rw [h.cell, List.getElem?_eq_getElem (by omega)]; rfl
theorem Bk.sets {g : Nat} {t : TypeId} : ∀ (vs : List Value) (o : Nat) {w : World} {cs : List Value}, Bk w g t cs → o + vs.length ≤ cs.length → Bk (w.setCells g o vs) g t (cs.take o ++ vs ++ cs.drop (o + vs.length))
  | [], o, w, cs, h, _ => by simpa [World.setCells] using h
  | v :: r, o, w, cs, h, hl => by
    simp only [List.length_cons] at hl
    have := Bk.sets r (o + 1) (h.set_ o v) (by simp; omega)
    rw [World.setCells]
    have e : (cs.set o v).take (o + 1) ++ r ++ (cs.set o v).drop (o + 1 + r.length) = cs.take o ++ v :: r ++ cs.drop (o + (v :: r).length) := by
      rw [List.drop_set_of_lt (by omega), List.take_add_one, List.take_set_of_le (by omega)]
      simp [show o < cs.length by omega, Nat.add_assoc, Nat.add_comm 1]
    rw [← e]
    exact this
theorem Kp.sets {M : Nat → Prop} {a : World} {g : Nat} : ∀ (vs : List Value) (o : Nat) {w : World}, Kp M a w → (M g ∨ a.heap.size ≤ g) → Kp M a (w.setCells g o vs)
  | [], _, _, h, _ => h
  | v :: r, o, _, h, hp => Kp.sets r (o + 1) (h.set hp o v) hp

theorem madeCells_same (k n : Nat) (v : Value) (hk : 0 < k) : madeCells (Array.replicate k v) n = (List.replicate n v).toArray := by
  apply Array.ext
  · simp [madeCells]
  · intro i h1 h2
    simp [madeCells, Nat.mod_lt i hk]

theorem mk_run {P : Program} (t e : TypeId) (i : TypeInfo) (z : Value) (ht : P.underlying t = some (.slice e)) (hi : P.info? e = some i) (hz : i.zero = some z) (k : Nat) (v : Value) (hk : 0 < k)
    (hc : z.cells = Array.replicate k v) (n : Nat) (hbytes : i.bytes * n ≤ 281474976710656) (h63 : n ≤ 9223372036854775807) (w : World) :
    (Instr.makeSlice t (.int .i64 (n : Int)) (.int .i64 (n : Int))).run P w = .ok (.slice (some ⟨w.heap.size, 0, none⟩) n n) (w.alloc (.cells (List.replicate (n * i.size) v).toArray e)) := by
  have hr := run_make (P := P) w t e i z ht hi hz .i64 .i64 n n (by omega) (by omega) (by omega) (by omega)
  rw [hc, madeCells_same _ _ _ hk] at hr
  exact hr

/-- one block alone -/
def One (b : Nat) : Nat → Prop := fun k => k = b
theorem One.self (b : Nat) : One b b := rfl
theorem Bk.new' {w : World} {g : Nat} {t : TypeId} {cs : List Value} {C : Array Value} (hg : g = w.heap.size) (hC : C = cs.toArray) : Bk (w.alloc (.cells C t)) g t cs := by
  subst hg; subst hC; exact Bk.new w t cs

theorem Bk.setsFar {g g' : Nat} {t : TypeId} {cs : List Value} (hne : g ≠ g') : ∀ (vs : List Value) (o : Nat) {w : World}, Bk w g t cs → Bk (w.setCells g' o vs) g t cs
  | [], _, _, h => h
  | v :: r, o, _, h => Bk.setsFar hne r (o + 1) (h.far (p := ⟨g', o, none⟩) hne v)

theorem setRow_alloc (w : World) (C D : Array Value) (t : TypeId) : (w.alloc (.cells C t)).setRow w.heap.size D = w.alloc (.cells D t) := by
  have e : ∀ (H : Array Obj) (f : Obj → Obj) (x : Obj), (H.push x).modify H.size f = H.push (f x) := by
    intro H f x
    apply Array.ext_getElem?
    intro i
    rw [Array.getElem?_modify, Array.getElem?_push, Array.getElem?_push]
    by_cases h : i = H.size
    · subst h; simp
    · rw [if_neg h, if_neg (Ne.symm h), if_neg h]
  simp only [World.setRow]
  congr 1
  exact e _ _ _

section
variable {P : Program}
/-- append(v, x): one element, of size cells, onto a row of the call's own -/
theorem wp_app1 (w : World) {o : Oper} {a : Act} {K : Act → World → Prop} {Q : Exit → Act → World → Prop} (s x : Operand) (t : TypeId)
    (ho : o.op = .call { callee := .builtin .append, args := #[s, x], argTypes := #[t, t] })
    (base : Nat) (e : TypeId) (z : Value) (size bytes : Nat) (ht : P.underlying t = some (.slice e)) (hi : (P.info? e).map (fun i => (i.zero, i.size, i.bytes)) = some (some z, size, bytes))
    (hzs : z.cells.size = size) (hsz : 0 < size)
    (v : Value) (n : Nat) (xs : List Value) (hs : a.eval s = v) (hown : w.ownsRow base e size v n xs)
    (q c : Nat) (ys : List Value) (hx : a.eval x = .slice (some ⟨q, 0, none⟩) 1 c) (hq : Bk w q e ys) (hl : ys.length = size) (h1 : ∀ u ∈ ys, u.oneCell' = true)
    (hn : n + 1 ≤ 281474976710656) (hbytes : (n + 1) * bytes ≤ 140737488355328) (hbase : base ≤ w.heap.size)
    (h : ∀ g cap w', w'.ownsRow base e size (.slice (some ⟨g, 0, none⟩) (n + 1) cap) (n + 1) (xs ++ ys) → Kp (fun k => v.ownBlock = some k) w w' → (v.ownBlock = some g ∨ g = w.heap.size) → K (a.put o.dst (.slice (some ⟨g, 0, none⟩) (n + 1) cap)) w') : o.wp P a w K Q := by
  obtain ⟨i0, hi0, hz0, hz1, hz2⟩ := info_parts hi
  have hnews : ∀ j u, ys[j]? = some u → w.cell? ((⟨q, 0, none⟩ : Addr).add j) = some u := by
    intro j u hu; rw [Addr.add_mid, Nat.zero_add, hq.cell]; exact hu
  obtain ⟨v', w', hr, h2, h3, _, h5⟩ := run_append_own_at (P := P) w base t o.type e i0 z size bytes ht hi0 hz0 hz1 hz2 hzs hsz v n xs hown ⟨q, 0, none⟩ 1 c ys (by omega) hnews h1 (by unfold maxLen; omega) hbytes hbase
  unfold Oper.wp execOp
  simp only [ho, resolve, invoke, builtin, Sem.run_bind, Sem.run_pure, Result.andThen_ok, List.map_toArray, List.map_cons, List.map_nil, hs, hx, hr]
  rcases h2.2 with ⟨_, hbad⟩ | ⟨g, cap, cur, hv', hrest⟩
  · omega
  · subst hv'
    have h5' : v.ownBlock = some g ∨ g = w.heap.size := by
      rcases h5 with e | e
      · exact .inl e.symm
      · right; simpa [Value.ownBlock] using e
    exact h g cap w' h2 ((Kp.of_grownBy h3).mono (fun k _ e => e)) h5'
theorem wpList_app1 (w : World) {ops : Array Oper} {rest : List Oper} {o : Oper} {a : Act} {Q : Exit → Act → World → Prop} (hgd : o.guard = none) (s x : Operand) (t : TypeId)
    (ho : o.op = .call { callee := .builtin .append, args := #[s, x], argTypes := #[t, t] })
    (base : Nat) (e : TypeId) (z : Value) (size bytes : Nat) (ht : P.underlying t = some (.slice e)) (hi : (P.info? e).map (fun i => (i.zero, i.size, i.bytes)) = some (some z, size, bytes))
    (hzs : z.cells.size = size) (hsz : 0 < size)
    (v : Value) (n : Nat) (xs : List Value) (hs : a.eval s = v) (hown : w.ownsRow base e size v n xs)
    (q c : Nat) (ys : List Value) (hx : a.eval x = .slice (some ⟨q, 0, none⟩) 1 c) (hq : Bk w q e ys) (hl : ys.length = size) (h1 : ∀ u ∈ ys, u.oneCell' = true)
    (hn : n + 1 ≤ 281474976710656) (hbytes : (n + 1) * bytes ≤ 140737488355328) (hbase : base ≤ w.heap.size)
    (h : ∀ g cap w', w'.ownsRow base e size (.slice (some ⟨g, 0, none⟩) (n + 1) cap) (n + 1) (xs ++ ys) → Kp (fun k => v.ownBlock = some k) w w' → (v.ownBlock = some g ∨ g = w.heap.size) → wpList P ops Q rest (a.put o.dst (.slice (some ⟨g, 0, none⟩) (n + 1) cap)) w') : wpList P ops Q (o :: rest) a w :=
  wpList_plain hgd fun _ hK => wp_app1 w s x t ho base e z size bytes ht hi hzs hsz v n xs hs hown q c ys hx hq hl h1 hn hbytes hbase fun g cap w' h2 h3 h4 => hK _ _ (h g cap w' h2 h3 h4)
/-- the same in a region that draws its order -/
theorem step_app1 (w : World) {ops : Array Oper} {o : Oper} {a : Act} {K : Act → World → Prop} {Q : Exit → Act → World → Prop} {E : Prop} (hgd : o.guard = none) (s x : Operand) (t : TypeId)
    (ho : o.op = .call { callee := .builtin .append, args := #[s, x], argTypes := #[t, t] })
    (base : Nat) (e : TypeId) (z : Value) (size bytes : Nat) (ht : P.underlying t = some (.slice e)) (hi : (P.info? e).map (fun i => (i.zero, i.size, i.bytes)) = some (some z, size, bytes))
    (hzs : z.cells.size = size) (hsz : 0 < size)
    (v : Value) (n : Nat) (xs : List Value) (hs : a.eval s = v) (hown : w.ownsRow base e size v n xs)
    (q c : Nat) (ys : List Value) (hx : a.eval x = .slice (some ⟨q, 0, none⟩) 1 c) (hq : Bk w q e ys) (hl : ys.length = size) (h1 : ∀ u ∈ ys, u.oneCell' = true)
    (hn : n + 1 ≤ 281474976710656) (hbytes : (n + 1) * bytes ≤ 140737488355328) (hbase : base ≤ w.heap.size)
    (h : ∀ g cap w', w'.ownsRow base e size (.slice (some ⟨g, 0, none⟩) (n + 1) cap) (n + 1) (xs ++ ys) → Kp (fun k => v.ownBlock = some k) w w' → (v.ownBlock = some g ∨ g = w.heap.size) → K (a.put o.dst (.slice (some ⟨g, 0, none⟩) (n + 1) cap)) w') :
    if Region.wanted o (yielded ops a.tmps) = true then Oper.wp P o a w K Q else E := by
  have hw : Region.wanted o (yielded ops a.tmps) = true := by simp [Region.wanted, hgd]
  rw [if_pos hw]
  exact wp_app1 w s x t ho base e z size bytes ht hi hzs hsz v n xs hs hown q c ys hx hq hl h1 hn hbytes hbase h
end

/-- an own row and a block of another element type are not one -/
theorem own_ne {w : World} {base : Nat} {e : TypeId} {size n : Nat} {v : Value} {xs : List Value} {g : Nat} {t : TypeId} {cs : List Value} (h : w.ownsRow base e size v n xs) (hg : Bk w g t cs) (hne : e ≠ t) : v.ownBlock ≠ some g := by
  rcases h.2 with ⟨rfl, _⟩ | ⟨g', cap, cur, rfl, _, hh, _⟩
  · simp [Value.ownBlock]
  · intro he
    have : g' = g := by simpa [Value.ownBlock] using he
    subst this
    have h1 : Bk w g' e cur.toList := by unfold Bk; simpa using hh
    exact Bk.ne_ h1 hg hne rfl

/-- a whole array read in a region that draws its order -/
theorem step_load_mid {P : Program} {ops : Array Oper} {op : Oper} {a : Act} {w : World} {K : Act → World → Prop} {Q : Exit → Act → World → Prop} {E : Prop} (hgd : op.guard = none) (ty : TypeId) (x : Operand) (ho : op.op = .load ty x)
    (b o : Nat) (hx : a.eval x = .pointer (some ⟨b, o, none⟩)) (cs : List Value) (d : TypeDesc) (hc : w.rangeAt b o cs)
    (hu : P.underlying ty = some d) (hd : d.isRow = true) (hi : (P.info? ty).map (·.size) = some cs.length)
    (h : K (a.put op.dst (.agg cs.toArray)) w) : if Region.wanted op (yielded ops a.tmps) = true then Oper.wp P op a w K Q else E := by
  have hw : Region.wanted op (yielded ops a.tmps) = true := by simp [Region.wanted, hgd]
  rw [if_pos hw]
  exact wp_load_mid ty x ho b o hx cs d hc hu hd hi h

theorem foldl_set_from : ∀ (l : List Value) (k : Nat) (z : Array Value), k + l.length ≤ z.size →
    (l.zipIdx k).foldl (fun cs (x : Value × Nat) => cs.setIfInBounds (0 + x.2) x.1) z = (z.toList.take k ++ l ++ z.toList.drop (k + l.length)).toArray
  | [], k, z, _ => by simp
  | v :: r, k, z, h => by
    simp only [List.length_cons] at h
    rw [List.zipIdx_cons, List.foldl_cons, foldl_set_from r (k + 1) _ (by simp; omega)]
    congr 1
    simp only [Nat.zero_add, Array.toList_setIfInBounds]
    rw [List.drop_set_of_lt (by omega), List.take_add_one, List.take_set_of_le (by omega)]
    simp [show k < z.size by omega, Nat.add_assoc, Nat.add_comm 1]
/-- one part that is the whole element -/
theorem run_buildOne {P : Program} (t e : TypeId) (z : Value) (size bytes : Nat) (ht : P.underlying t = some (.slice e)) (hi : (P.info? e).map (fun i => (i.zero, i.size, i.bytes)) = some (some z, size, bytes))
    (h0 : 0 < size) (h1 : size ≤ 16777216) (v : Value) (cs : List Value) (hv : v.cells = cs.toArray) (hl : cs.length = size) (w : World) :
    (Instr.buildSlice t 1 #[(0, v)]).run P w = .ok (.slice (some ⟨w.heap.size, 0, none⟩) 1 1) (w.alloc (.cells cs.toArray e)) := by
  obtain ⟨i0, hi0, hz0, hz1, hz2⟩ := info_parts hi
  have hf : Instr.fill (fun i => some (i * size, size)) ((Array.range (1 * size)).map (z.cells[· % z.cells.size]!)) [(0, v)] = some cs.toArray := by
    simp only [Instr.fill, Nat.zero_mul, hv, List.size_toArray, hl, ne_eq, not_true_eq_false, Nat.zero_add]
    have e1 : (Array.map (fun x => z.cells[x % z.cells.size]!) (Array.range (1 * size))).size = size := by simp
    rw [if_neg (by simp)]
    congr 1
    have := foldl_set_from cs 0 (Array.map (fun x => z.cells[x % z.cells.size]!) (Array.range (1 * size))) (by rw [e1]; omega)
    rw [← Array.foldl_toList, Array.toList_zipIdx]
    simp only [Nat.zero_add] at this ⊢
    rw [this]
    simp only [List.take_zero, List.nil_append]
    rw [List.drop_eq_nil_of_le (by simp; omega), List.append_nil]
  simp [Instr.buildSlice, run_underlying ht, sizeOf, typeInfo, hi0, hz1, zeroValue, hz0, show ¬ 16777216 < size by omega, show size ≠ 0 by omega, newRow]
  simp only [Nat.one_mul] at hf
  rw [hf]
  simp

theorem wp_build1 {P : Program} {o : Oper} {a : Act} {w : World} {K : Act → World → Prop} {Q : Exit → Act → World → Prop} (t : TypeId) (x : Operand) (ho : o.op = .buildSlice t 1 #[(0, x)])
    (e : TypeId) (z : Value) (size bytes : Nat) (ht : P.underlying t = some (.slice e)) (hi : (P.info? e).map (fun i => (i.zero, i.size, i.bytes)) = some (some z, size, bytes))
    (h0 : 0 < size) (h1 : size ≤ 16777216) (v : Value) (hx : a.eval x = v) (cs : List Value) (hv : v.cells = cs.toArray) (hl : cs.length = size)
    (h : K (a.put o.dst (.slice (some ⟨w.heap.size, 0, none⟩) 1 1)) (w.alloc (.cells cs.toArray e))) : o.wp P a w K Q := by
  unfold Oper.wp execOp
  simp only [ho, List.map_toArray, List.map_cons, List.map_nil, hx, Sem.run_bind, Sem.run_pure, Result.andThen_ok, run_buildOne (P := P) t e z size bytes ht hi h0 h1 v cs hv hl w]
  exact h
theorem step_build1 {P : Program} {ops : Array Oper} {o : Oper} {a : Act} {w : World} {K : Act → World → Prop} {Q : Exit → Act → World → Prop} {E : Prop} (hgd : o.guard = none) (t : TypeId) (x : Operand) (ho : o.op = .buildSlice t 1 #[(0, x)])
    (e : TypeId) (z : Value) (size bytes : Nat) (ht : P.underlying t = some (.slice e)) (hi : (P.info? e).map (fun i => (i.zero, i.size, i.bytes)) = some (some z, size, bytes))
    (h0 : 0 < size) (h1 : size ≤ 16777216) (v : Value) (hx : a.eval x = v) (cs : List Value) (hv : v.cells = cs.toArray) (hl : cs.length = size)
    (h : K (a.put o.dst (.slice (some ⟨w.heap.size, 0, none⟩) 1 1)) (w.alloc (.cells cs.toArray e))) : if Region.wanted o (yielded ops a.tmps) = true then Oper.wp P o a w K Q else E := by
  have hw : Region.wanted o (yielded ops a.tmps) = true := by simp [Region.wanted, hgd]
  rw [if_pos hw]
  exact wp_build1 t x ho e z size bytes ht hi h0 h1 v hx cs hv hl h

theorem exec_load_mid {P : Program} {op : Oper} {a : Act} (w : World) (ty : TypeId) (x : Operand) (ho : op.op = .load ty x) (b o : Nat) (hx : a.eval x = .pointer (some ⟨b, o, none⟩)) (cs : List Value) (d : TypeDesc) (hc : w.rangeAt b o cs)
    (hu : P.underlying ty = some d) (hd : d.isRow = true) (hi : (P.info? ty).map (·.size) = some cs.length) : (execOp a.eval op).run P w = .ok (.value (.agg cs.toArray)) w := by
  unfold execOp
  simp only [ho, hx, Instr.loadAt, Instr.sureAddr, Sem.run_bind, Sem.run_pure, Result.andThen_ok, run_loadVar_mid w b o ty cs d hc hu hd hi]
theorem range_kp {w w' : World} {g o : Nat} {xs : List Value} {M : Nat → Prop} (h : w.rangeAt g o xs) (hk : Kp M w w') (hm : ¬ M g) : w'.rangeAt g o xs := fun j v hv => by
  have := h j v hv
  rw [World.cell?_of_block (w := w) (hk.block g (World.block_lt_of_cell? w _ this) hm)]; exact this
theorem range_lt {w : World} {g o : Nat} {xs : List Value} (h : w.rangeAt g o xs) (hx : 0 < xs.length) : g < w.heap.size :=
  World.block_lt_of_cell? w _ (h 0 _ (List.getElem?_eq_getElem hx))

/-- the cells of a slice of one-cell elements -/
def Cs (w : World) (A : Option Addr) (xs : List Value) : Prop := xs ≠ [] → ∃ g o, A = some ⟨g, o, none⟩ ∧ w.rangeAt g o xs
section
variable {P : Program}
/-- append(v, xs...): cells onto a row of the call's own that is not nil -/
theorem wp_appN (w : World) {o : Oper} {a : Act} {K : Act → World → Prop} {Q : Exit → Act → World → Prop} (s x : Operand) (t : TypeId)
    (ho : o.op = .call { callee := .builtin .append, args := #[s, x], argTypes := #[t, t] })
    (base : Nat) (e : TypeId) (z : Value) (bytes : Nat) (ht : P.underlying t = some (.slice e)) (hi : (P.info? e).map (fun i => (i.zero, i.size, i.bytes)) = some (some z, 1, bytes)) (hzs : z.cells.size = 1)
    (g0 n c0 : Nat) (xs : List Value) (hs : a.eval s = .slice (some ⟨g0, 0, none⟩) n c0) (hown : w.ownsRow base e 1 (.slice (some ⟨g0, 0, none⟩) n c0) n xs)
    (A : Option Addr) (m c : Nat) (news : List Value) (hx : a.eval x = .slice A m c) (hl : news.length = m) (hc : Cs w A news) (h1 : ∀ u ∈ news, u.oneCell' = true)
    (hn : n + m ≤ 281474976710656) (hbytes : (n + m) * bytes ≤ 140737488355328) (hbase : base ≤ w.heap.size)
    (h : ∀ g cap w', w'.ownsRow base e 1 (.slice (some ⟨g, 0, none⟩) (n + m) cap) (n + m) (xs ++ news) → Kp (fun k => k = g0) w w' → (g = g0 ∨ g = w.heap.size) → K (a.put o.dst (.slice (some ⟨g, 0, none⟩) (n + m) cap)) w') : o.wp P a w K Q := by
  obtain ⟨i0, hi0, hz0, hz1, hz2⟩ := info_parts hi
  have key : ∃ g cap w', (Builtin.append_ #[t, t] o.type #[.slice (some ⟨g0, 0, none⟩) n c0, .slice A m c]).run P w = .ok (.slice (some ⟨g, 0, none⟩) (n + m) cap) w' ∧
      w'.ownsRow base e 1 (.slice (some ⟨g, 0, none⟩) (n + m) cap) (n + m) (xs ++ news) ∧ Kp (fun k => k = g0) w w' ∧ (g = g0 ∨ g = w.heap.size) := by
    cases A with
    | none =>
      have hm : news = [] := by
        by_cases hne : news = []
        · exact hne
        · obtain ⟨g, o, e, _⟩ := hc hne; cases e
      subst hm
      have hm0 : m = 0 := by simpa using hl.symm
      subst hm0
      have hnc : n ≤ c0 := by
        rcases hown.2 with ⟨hb, _⟩ | ⟨g, cap, cur, hb, _, _, hnc, _⟩
        · cases hb
        · injection hb with _ _ hc; omega
      refine ⟨g0, c0, w, ?_, by simpa using hown, Kp.refl _ _, .inl rfl⟩
      simp [Builtin.append_, run_underlying ht, sizeOf, typeInfo, hi0, Builtin.lenOf, Builtin.firstCells, hnc, storeCells]
    | some ad =>
      have hnews : ∀ j u, news[j]? = some u → w.cell? (ad.add j) = some u := by
        intro j u hu
        obtain ⟨g, o, e, hr⟩ := hc (by intro e; subst e; simp at hu)
        injection e with e; subst e
        rw [Addr.add_mid]; exact hr j u hu
      obtain ⟨v', w', hr, h2, h3, h4, h5⟩ := run_append_own_at (P := P) w base t o.type e i0 z 1 bytes ht hi0 hz0 hz1 hz2 hzs (by omega) _ n xs hown ad m c news (by omega) hnews h1 (by unfold maxLen; omega) hbytes hbase
      have hnn : v' ≠ .slice none 0 0 := fun e => by have := (h4.1 e).1; cases this
      rcases h2.2 with ⟨hb, _⟩ | ⟨g, cap, cur, hv', _⟩
      · exact absurd hb hnn
      · subst hv'
        refine ⟨g, cap, w', hr, h2, (Kp.of_grownBy h3).mono (fun k _ e => by simpa [Value.ownBlock] using e.symm), ?_⟩
        rcases h5 with e | e <;> simp [Value.ownBlock] at e
        · exact .inl e
        · exact .inr e
  obtain ⟨g, cap, w', hr, k2, k3, k4⟩ := key
  unfold Oper.wp execOp
  simp only [ho, resolve, invoke, builtin, Sem.run_bind, Sem.run_pure, Result.andThen_ok, List.map_toArray, List.map_cons, List.map_nil, hs, hx, hr]
  exact h g cap w' k2 k3 k4
theorem wpList_appN (w : World) {ops : Array Oper} {rest : List Oper} {o : Oper} {a : Act} {Q : Exit → Act → World → Prop} (hgd : o.guard = none) (s x : Operand) (t : TypeId)
    (ho : o.op = .call { callee := .builtin .append, args := #[s, x], argTypes := #[t, t] })
    (base : Nat) (e : TypeId) (z : Value) (bytes : Nat) (ht : P.underlying t = some (.slice e)) (hi : (P.info? e).map (fun i => (i.zero, i.size, i.bytes)) = some (some z, 1, bytes)) (hzs : z.cells.size = 1)
    (g0 n c0 : Nat) (xs : List Value) (hs : a.eval s = .slice (some ⟨g0, 0, none⟩) n c0) (hown : w.ownsRow base e 1 (.slice (some ⟨g0, 0, none⟩) n c0) n xs)
    (A : Option Addr) (m c : Nat) (news : List Value) (hx : a.eval x = .slice A m c) (hl : news.length = m) (hc : Cs w A news) (h1 : ∀ u ∈ news, u.oneCell' = true)
    (hn : n + m ≤ 281474976710656) (hbytes : (n + m) * bytes ≤ 140737488355328) (hbase : base ≤ w.heap.size)
    (h : ∀ g cap w', w'.ownsRow base e 1 (.slice (some ⟨g, 0, none⟩) (n + m) cap) (n + m) (xs ++ news) → Kp (fun k => k = g0) w w' → (g = g0 ∨ g = w.heap.size) → wpList P ops Q rest (a.put o.dst (.slice (some ⟨g, 0, none⟩) (n + m) cap)) w') : wpList P ops Q (o :: rest) a w :=
  wpList_plain hgd fun _ hK => wp_appN w s x t ho base e z bytes ht hi hzs g0 n c0 xs hs hown A m c news hx hl hc h1 hn hbytes hbase fun g cap w' h2 h3 h4 => hK _ _ (h g cap w' h2 h3 h4)
end
end Go.Proofs.YtbnpdghfbiacaaaGreat

/- Numbers and texts as bytes, in plain words (octets): forms, and how they are taken up. No condition beyond what each theorem states. -/
namespace Go.Proofs.YtbnpdghfbiacaaaGreat
open Go

/-- the form of a number -/
def numS (n : Nat) : List UInt8 := if n < 128 then [UInt8.ofNat n] else UInt8.ofNat (n % 128 + 128) :: numS (n / 128)
termination_by n
decreasing_by omega
theorem numS_small {n : Nat} (h : n < 128) : numS n = [UInt8.ofNat n] := by rw [numS, if_pos h]
theorem numS_big {n : Nat} (h : 128 ≤ n) : numS n = UInt8.ofNat (n % 128 + 128) :: numS (n / 128) := by rw [numS, if_neg (by omega)]
theorem numS_pos (n : Nat) : 0 < (numS n).length := by
  rcases Nat.lt_or_ge n 128 with h | h
  · rw [numS_small h]; simp
  · rw [numS_big h]; simp
theorem numS_len : ∀ (k n : Nat), n < 128 ^ (k + 1) → (numS n).length ≤ k + 1
  | 0, n, h => by rw [numS_small (by simpa using h)]; simp
  | k + 1, n, h => by
    rcases Nat.lt_or_ge n 128 with h1 | h1
    · rw [numS_small h1]; simp
    · rw [numS_big h1]
      have := numS_len k (n / 128) (by rw [Nat.div_lt_iff_lt_mul (by omega)]; rw [Nat.pow_succ] at h; omega)
      simp only [List.length_cons]
      omega
/-- the number, its width, the error, of the bytes from the i-th of a form on -/
def takeN (i : Nat) : List UInt8 → Nat × Nat × Int
  | [] => (0, 0, 20)
  | c :: r => if c.toNat < 128 then (if c.toNat = 0 ∧ 0 < i then (0, 0, 21) else (c.toNat, 1, 0)) else if i = 8 then (0, 0, 21) else
    match takeN (i + 1) r with
    | (n, k, e) => if e = 0 then (c.toNat - 128 + 128 * n, k + 1, 0) else (0, 0, e)
theorem takeN_num : ∀ (j i n : Nat) (r : List UInt8), i + j = 8 → n < 128 ^ (j + 1) → (0 < i → 0 < n) → takeN i (numS n ++ r) = (n, (numS n).length, 0)
  | j, i, n, r, hij, hn, hp => by
    rcases Nat.lt_or_ge n 128 with h | h
    · rw [numS_small h]
      simp only [List.singleton_append, takeN]
      have e : (UInt8.ofNat n).toNat = n := by rw [UInt8.toNat_ofNat']; omega
      rw [e, if_pos h, if_neg (fun hh => by have := hp hh.2; omega)]
      simp
    · rw [numS_big h]
      simp only [List.cons_append, takeN]
      have e : (UInt8.ofNat (n % 128 + 128)).toNat = n % 128 + 128 := by rw [UInt8.toNat_ofNat']; omega
      rw [e, if_neg (by omega)]
      match j, hij, hn with
      | 0, hij, hn => omega
      | j + 1, hij, hn =>
        rw [if_neg (by omega), takeN_num j (i + 1) (n / 128) r (by omega) (by rw [Nat.div_lt_iff_lt_mul (by omega)]; rw [Nat.pow_succ] at hn; omega) (fun _ => by omega)]
        simp only [if_true, List.length_cons]
        rw [show n % 128 + 128 - 128 + 128 * (n / 128) = n by omega]
theorem takeN_inv : ∀ (b : List UInt8) (i n k : Nat), i ≤ 8 → takeN i b = (n, k, 0) → b = numS n ++ b.drop k ∧ k = (numS n).length ∧ n < 128 ^ (9 - i) ∧ (0 < i → 0 < n)
  | [], i, n, k, _, h => by simp [takeN] at h
  | c :: r, i, n, k, hi, h => by
    unfold takeN at h
    by_cases h1 : c.toNat < 128
    · rw [if_pos h1] at h
      by_cases h2 : c.toNat = 0 ∧ 0 < i
      · rw [if_pos h2] at h; injection h with _ h; injection h with _ h; cases h
      · rw [if_neg h2] at h
        injection h with h3 h
        injection h with h4 _
        subst h3 h4
        have e : UInt8.ofNat c.toNat = c := by apply UInt8.toNat_inj.1; rw [UInt8.toNat_ofNat']; have := c.toNat_lt; omega
        rw [numS_small h1, e]
        refine ⟨rfl, rfl, ?_, fun h0 => by omega⟩
        calc c.toNat < 128 ^ 1 := by simpa using h1
          _ ≤ 128 ^ (9 - i) := Nat.pow_le_pow_right (by omega) (by omega)
    · rw [if_neg h1] at h
      by_cases h2 : i = 8
      · rw [if_pos h2] at h; injection h with _ h; injection h with _ h; cases h
      · rw [if_neg h2] at h
        obtain ⟨n', k', e', hq⟩ : ∃ n' k' e', takeN (i + 1) r = (n', k', e') := ⟨_, _, _, rfl⟩
        rw [hq] at h
        simp only at h
        by_cases h3 : e' = 0
        · subst h3
          rw [if_pos rfl] at h
          injection h with h4 h
          injection h with h5 _
          obtain ⟨q1, q2, q3, q4⟩ := takeN_inv r (i + 1) n' k' (by omega) hq
          have hn' := q4 (by omega)
          have hc := c.toNat_lt
          subst h4 h5
          have hb : 128 ≤ c.toNat - 128 + 128 * n' := by omega
          have e1 : (c.toNat - 128 + 128 * n') % 128 + 128 = c.toNat := by omega
          have e2 : (c.toNat - 128 + 128 * n') / 128 = n' := by omega
          have e : UInt8.ofNat c.toNat = c := by apply UInt8.toNat_inj.1; rw [UInt8.toNat_ofNat']; omega
          rw [numS_big hb, e1, e2, e]
          refine ⟨?_, by simp [q2], ?_, fun _ => by omega⟩
          · rw [List.drop_succ_cons, List.cons_append]
            congr 1
          · have e9 : 9 - i = (9 - (i + 1)) + 1 := by omega
            rw [e9, Nat.pow_succ]
            omega
        · rw [if_neg h3] at h
          injection h with _ h
          injection h with _ h
          exact absurd h h3
/-- the number that bytes begin with -/
theorem take_num (n : Nat) (r : List UInt8) (h : n < 9223372036854775808) : takeN 0 (numS n ++ r) = (n, (numS n).length, 0) := takeN_num 8 0 n r rfl (by simpa using h) (fun h => absurd h (by omega))
theorem take_inv {b : List UInt8} {n k : Nat} (h : takeN 0 b = (n, k, 0)) : b = numS n ++ b.drop k ∧ k = (numS n).length ∧ n < 9223372036854775808 := by
  obtain ⟨h1, h2, h3, _⟩ := takeN_inv b 0 n k (by omega) h
  exact ⟨h1, h2, by simpa using h3⟩
end Go.Proofs.YtbnpdghfbiacaaaGreat

/- Messages as bytes, in plain words (wire): bodies, and how they are taken up. No condition beyond what each theorem states. -/
namespace Go.Proofs.YtbnpdghfbiacaaaGreat
open Go

/-- the bytes that are left, and the error -/
abbrev Rd := List UInt8 × Int
def rdNum (s : Rd) : Nat × Rd := if s.2 ≠ 0 then (0, s) else match takeN 0 s.1 with
  | (n, k, e) => if e = 0 then (n, (s.1.drop k, 0)) else (0, (s.1, e))
def rdText (most : Nat) (s : Rd) : List UInt8 × Rd := if s.2 ≠ 0 then ([], s) else match takeN 0 s.1 with
  | (n, k, e) => if e ≠ 0 then ([], (s.1, e)) else if most < n then ([], (s.1, 21)) else if s.1.length - k < n then ([], (s.1, 20)) else ((s.1.drop k).take n, (s.1.drop (k + n), 0))
def rdNums : Nat → Rd → List Nat × Rd
  | 0, s => ([], s)
  | j + 1, s => ((rdNum s).1 :: (rdNums j (rdNum s).2).1, (rdNums j (rdNum s).2).2)
def rdCnts (s : Rd) : List Nat × Rd := rdNums (min (rdNum s).1 5) (rdNum s).2
def textS (t : List UInt8) : List UInt8 := numS t.length ++ t
def numsS (l : List Nat) : List UInt8 := (l.map numS).flatten
def cntsS (l : List Nat) : List UInt8 := numS l.length ++ numsS l
theorem rdNum_num (n : Nat) (r : List UInt8) (h : n < 9223372036854775808) : rdNum (numS n ++ r, 0) = (n, (r, 0)) := by
  simp [rdNum, take_num n r h]
theorem rdText_text (t r : List UInt8) (h : t.length ≤ 200) : rdText 200 (textS t ++ r, 0) = (t, (r, 0)) := by
  have e : textS t ++ r = numS t.length ++ (t ++ r) := by simp [textS]
  simp only [rdText, e]
  rw [take_num t.length (t ++ r) (by omega)]
  simp only [ne_eq, not_true_eq_false, if_false]
  rw [if_neg (by omega), if_neg (by simp), List.drop_left' rfl, List.take_left' rfl]
  congr 2
  rw [← List.drop_drop, List.drop_left' rfl, List.drop_left' rfl]
theorem rdNums_nums : ∀ (l : List Nat) (r : List UInt8), (∀ n ∈ l, n < 9223372036854775808) → rdNums l.length (numsS l ++ r, 0) = (l, (r, 0))
  | [], r, _ => by simp [rdNums, numsS]
  | n :: l, r, h => by
    have e : numsS (n :: l) ++ r = numS n ++ (numsS l ++ r) := by simp [numsS]
    simp only [List.length_cons, rdNums, e]
    rw [rdNum_num n _ (h n (List.mem_cons_self ..))]
    simp only
    rw [rdNums_nums l r (fun x hx => h x (List.mem_cons_of_mem _ hx))]
theorem rdCnts_cnts (l : List Nat) (r : List UInt8) (hl : l.length ≤ 5) (h : ∀ n ∈ l, n < 9223372036854775808) : rdCnts (cntsS l ++ r, 0) = (l, (r, 0)) := by
  have e : cntsS l ++ r = numS l.length ++ (numsS l ++ r) := by simp [cntsS]
  simp only [rdCnts, e]
  rw [rdNum_num l.length _ (by omega)]
  simp only
  rw [Nat.min_eq_left hl, rdNums_nums l r h]

/-- a message -/
structure Msg where
  kind : Int := 0
  from_ : Int := 0
  dest : Int := 0
  boot : Int := 0
  seq : Int := 0
  low : Int := 0
  verb : Int := 0
  path : List UInt8 := []
  mode : Int := 0
  term : Int := 0
  id : Int := 0
  fresh : Bool := false
  code : Int := 0
  stamp : List Int := []
  origin : Int := 0
  number : Int := 0
deriving DecidableEq
/-- the message with nothing but what its kind uses -/
def usedS (m : Msg) : Msg :=
  if m.kind = 1 then { kind := m.kind, from_ := m.from_, dest := m.dest, boot := m.boot, seq := m.seq, low := m.low, verb := m.verb, path := (if m.verb = 1 then m.path else []), mode := (if m.verb = 1 then m.mode else 0), id := (if m.verb = 1 then 0 else m.id), term := (if m.verb = 3 then 0 else m.term), fresh := (if m.verb = 2 then m.fresh else false) }
  else if m.kind = 2 then { kind := m.kind, from_ := m.from_, dest := m.dest, boot := m.boot, seq := m.seq, code := m.code, id := (if m.code = 0 then m.id else 0), term := (if m.code = 0 then m.term else 0), stamp := (if m.code = 0 then m.stamp else []) }
  else if m.kind = 3 then { kind := m.kind, from_ := m.from_, dest := m.dest, id := m.id, origin := m.origin, number := m.number, path := m.path }
  else if m.kind = 4 then { kind := m.kind, from_ := m.from_, dest := m.dest, id := m.id, origin := m.origin, number := m.number }
  else if m.kind = 5 then { kind := m.kind, from_ := m.from_, dest := m.dest, path := m.path, mode := m.mode, stamp := m.stamp }
  else { kind := m.kind, from_ := m.from_, dest := m.dest }
def nS (x : Int) : List UInt8 := numS x.toNat
def cS (l : List Int) : List UInt8 := cntsS (l.map Int.toNat)
/-- the bytes ahead of the checksum -/
def bodyS (m : Msg) : List UInt8 := nS m.kind ++ (nS m.from_ ++ (nS m.dest ++
  (if m.kind = 1 then nS m.boot ++ (nS m.seq ++ (nS m.low ++ (nS m.verb ++
      (if m.verb = 1 then textS m.path ++ (nS m.mode ++ nS m.term) else if m.verb = 2 then nS m.id ++ (nS m.term ++ nS (if m.fresh then 1 else 0)) else if m.verb = 3 then nS m.id else []))))
  else if m.kind = 2 then nS m.boot ++ (nS m.seq ++ (nS m.code ++ (if m.code = 0 then nS m.id ++ (nS m.term ++ cS m.stamp) else [])))
  else if m.kind = 3 then nS m.id ++ (textS m.path ++ (nS m.origin ++ nS m.number))
  else if m.kind = 4 then nS m.id ++ (nS m.origin ++ nS m.number)
  else if m.kind = 5 then textS m.path ++ (nS m.mode ++ cS m.stamp)
  else [])))
/-- the message that is taken up from bytes, loosely -/
def takeMsg (b : List UInt8) : Msg :=
  let a0 := rdNum (b, 0)
  let a1 := rdNum a0.2
  let a2 := rdNum a1.2
  if a0.1 = 1 then
    let a3 := rdNum a2.2
    let a4 := rdNum a3.2
    let a5 := rdNum a4.2
    let a6 := rdNum a5.2
    if a6.1 = 1 then
      let a7 := rdText 200 a6.2
      let a8 := rdNum a7.2
      let a9 := rdNum a8.2
      { kind := a0.1, from_ := a1.1, dest := a2.1, boot := a3.1, seq := a4.1, low := a5.1, verb := a6.1, path := a7.1, mode := a8.1, term := a9.1 }
    else if a6.1 = 2 then
      let a7 := rdNum a6.2
      let a8 := rdNum a7.2
      let a9 := rdNum a8.2
      { kind := a0.1, from_ := a1.1, dest := a2.1, boot := a3.1, seq := a4.1, low := a5.1, verb := a6.1, id := a7.1, term := a8.1, fresh := decide (a9.1 = 1) }
    else if a6.1 = 3 then
      let a7 := rdNum a6.2
      { kind := a0.1, from_ := a1.1, dest := a2.1, boot := a3.1, seq := a4.1, low := a5.1, verb := a6.1, id := a7.1 }
    else { kind := a0.1, from_ := a1.1, dest := a2.1, boot := a3.1, seq := a4.1, low := a5.1, verb := a6.1 }
  else if a0.1 = 2 then
    let a3 := rdNum a2.2
    let a4 := rdNum a3.2
    let a5 := rdNum a4.2
    if a5.1 = 0 then
      let a6 := rdNum a5.2
      let a7 := rdNum a6.2
      let a8 := rdCnts a7.2
      { kind := a0.1, from_ := a1.1, dest := a2.1, boot := a3.1, seq := a4.1, code := a5.1, id := a6.1, term := a7.1, stamp := a8.1.map Int.ofNat }
    else { kind := a0.1, from_ := a1.1, dest := a2.1, boot := a3.1, seq := a4.1, code := a5.1 }
  else if a0.1 = 3 then
    let a3 := rdNum a2.2
    let a4 := rdText 200 a3.2
    let a5 := rdNum a4.2
    let a6 := rdNum a5.2
    { kind := a0.1, from_ := a1.1, dest := a2.1, id := a3.1, path := a4.1, origin := a5.1, number := a6.1 }
  else if a0.1 = 4 then
    let a3 := rdNum a2.2
    let a4 := rdNum a3.2
    let a5 := rdNum a4.2
    { kind := a0.1, from_ := a1.1, dest := a2.1, id := a3.1, origin := a4.1, number := a5.1 }
  else if a0.1 = 5 then
    let a3 := rdText 200 a2.2
    let a4 := rdNum a3.2
    let a5 := rdCnts a4.2
    { kind := a0.1, from_ := a1.1, dest := a2.1, path := a3.1, mode := a4.1, stamp := a5.1.map Int.ofNat }
  else { kind := a0.1, from_ := a1.1, dest := a2.1 }

theorem rd_n (x : Int) (r : List UInt8) (h0 : 0 ≤ x) (h : x < 9223372036854775808) : rdNum (nS x ++ r, 0) = (x.toNat, (r, 0)) := rdNum_num x.toNat r (by omega)
theorem rd_t (t r : List UInt8) (h : t.length ≤ 200) : rdText 200 (textS t ++ r, 0) = (t, (r, 0)) := rdText_text t r h
theorem rd_c (l : List Int) (r : List UInt8) (hl : l.length ≤ 5) (h : ∀ x ∈ l, 0 ≤ x ∧ x < 9223372036854775808) : rdCnts (cS l ++ r, 0) = (l.map Int.toNat, (r, 0)) :=
  rdCnts_cnts (l.map Int.toNat) r (by simpa using hl) (by
    intro n hn
    obtain ⟨x, hx, rfl⟩ := List.mem_map.1 hn
    have := h x hx
    omega)
theorem back_c (l : List Int) (h : ∀ x ∈ l, 0 ≤ x ∧ x < 9223372036854775808) : (l.map Int.toNat).map Int.ofNat = l := by
  rw [List.map_map]
  conv => rhs; rw [← List.map_id l]
  refine List.map_congr_left fun x hx => ?_
  have := h x hx
  simp only [Function.comp, id, Int.ofNat_eq_natCast]
  omega
/-- what a body needs to be taken up again: all its numbers are numbers, its texts and lists are short -/
structure Fit (m : Msg) : Prop where
  kind : 0 ≤ m.kind ∧ m.kind < 9223372036854775808
  from_ : 0 ≤ m.from_ ∧ m.from_ < 9223372036854775808
  dest : 0 ≤ m.dest ∧ m.dest < 9223372036854775808
  boot : 0 ≤ m.boot ∧ m.boot < 9223372036854775808
  seq : 0 ≤ m.seq ∧ m.seq < 9223372036854775808
  low : 0 ≤ m.low ∧ m.low < 9223372036854775808
  verb : 0 ≤ m.verb ∧ m.verb < 9223372036854775808
  path : m.path.length ≤ 200
  mode : 0 ≤ m.mode ∧ m.mode < 9223372036854775808
  term : 0 ≤ m.term ∧ m.term < 9223372036854775808
  id : 0 ≤ m.id ∧ m.id < 9223372036854775808
  code : 0 ≤ m.code ∧ m.code < 9223372036854775808
  slen : m.stamp.length ≤ 5
  stamp : ∀ x ∈ m.stamp, 0 ≤ x ∧ x < 9223372036854775808
  origin : 0 ≤ m.origin ∧ m.origin < 9223372036854775808
  number : 0 ≤ m.number ∧ m.number < 9223372036854775808
theorem tn {x : Int} (h : 0 ≤ x ∧ x < 9223372036854775808) : ((x.toNat : Nat) : Int) = x := by omega
theorem mx {x : Int} (h : 0 ≤ x ∧ x < 9223372036854775808) : max x 0 = x := by omega
theorem tk {x : Int} (h : 0 ≤ x ∧ x < 9223372036854775808) (k : Nat) : x.toNat = k ↔ x = (k : Int) := by omega
theorem take_body (m : Msg) (f : Fit m) (r : List UInt8) : takeMsg (bodyS m ++ r) = if m.kind = 1 ∧ m.verb ≠ 1 ∧ m.verb ≠ 2 ∧ m.verb ≠ 3 then { kind := m.kind, from_ := m.from_, dest := m.dest, boot := m.boot, seq := m.seq, low := m.low, verb := m.verb } else usedS m := by
  have hk := f.kind; have hf := f.from_; have ht := f.dest; have hb := f.boot; have hs := f.seq; have hl := f.low; have hv := f.verb; have hm := f.mode; have hte := f.term; have hi := f.id; have hc := f.code; have ho := f.origin; have hn := f.number
  have M := fun x (h : 0 ≤ x ∧ x < 9223372036854775808) => mx h
  have m1 := M _ hk; have m2 := M _ hf; have m3 := M _ ht; have m4 := M _ hb; have m5 := M _ hs; have m6 := M _ hl; have m7 := M _ hv; have m8 := M _ hm; have m9 := M _ hte; have m10 := M _ hi; have m11 := M _ hc; have m12 := M _ ho; have m13 := M _ hn
  clear M
  by_cases k1 : m.kind = 1
  · by_cases v1 : m.verb = 1
    · simp [takeMsg, bodyS, usedS, k1, v1, rd_n, List.append_assoc, hf, ht, hb, hs, hl, hm, hte, rd_t _ _ f.path, m2, m3, m4, m5, m6, m8, m9]
    · by_cases v2 : m.verb = 2
      · cases hfr : m.fresh <;> simp [takeMsg, bodyS, usedS, k1, v2, rd_n, List.append_assoc, hf, ht, hb, hs, hl, hi, hte, hfr, m2, m3, m4, m5, m6, m9, m10]
      · by_cases v3 : m.verb = 3
        · simp [takeMsg, bodyS, usedS, k1, v3, rd_n, List.append_assoc, hf, ht, hb, hs, hl, hi, m2, m3, m4, m5, m6, m10]
        · have e1 : ¬ m.verb.toNat = 1 := by omega
          have e2 : ¬ m.verb.toNat = 2 := by omega
          have e3 : ¬ m.verb.toNat = 3 := by omega
          simp [takeMsg, bodyS, k1, v1, v2, v3, rd_n, List.append_assoc, hf, ht, hb, hs, hl, hv, m2, m3, m4, m5, m6, m7, e1, e2, e3]
  · have e1 : ¬ m.kind.toNat = 1 := by omega
    by_cases k2 : m.kind = 2
    · by_cases c0 : m.code = 0
      · simp [takeMsg, bodyS, usedS, k2, c0, rd_n, List.append_assoc, rd_c _ _ f.slen f.stamp, hf, ht, hb, hs, hi, hte, m2, m3, m4, m5, m9, m10]
        simpa using back_c _ f.stamp
      · have e0 : ¬ m.code.toNat = 0 := by omega
        simp [takeMsg, bodyS, usedS, k2, c0, e0, rd_n, List.append_assoc, hf, ht, hb, hs, hc, m2, m3, m4, m5, m11]
    · have e2 : ¬ m.kind.toNat = 2 := by omega
      by_cases k3 : m.kind = 3
      · simp [takeMsg, bodyS, usedS, k3, rd_n, List.append_assoc, hf, ht, hi, ho, hn, rd_t _ _ f.path, m2, m3, m10, m12, m13]
      · have e3 : ¬ m.kind.toNat = 3 := by omega
        by_cases k4 : m.kind = 4
        · simp [takeMsg, bodyS, usedS, k4, rd_n, List.append_assoc, hf, ht, hi, ho, hn, m2, m3, m10, m12, m13]
        · have e4 : ¬ m.kind.toNat = 4 := by omega
          by_cases k5 : m.kind = 5
          · simp [takeMsg, bodyS, usedS, k5, rd_n, List.append_assoc, rd_c _ _ f.slen f.stamp, hf, ht, hm, rd_t _ _ f.path, m2, m3, m8]
            simpa using back_c _ f.stamp
          · have e5 : ¬ m.kind.toNat = 5 := by omega
            simp [takeMsg, bodyS, usedS, k1, k2, k3, k4, k5, e1, e2, e3, e4, e5, rd_n, List.append_assoc, hf, ht, hk, m1, m2, m3]
end Go.Proofs.YtbnpdghfbiacaaaGreat

/- The checksum in plain words: the same by the program's rounds and by the reference's bits; one turned byte turns it. No condition beyond what each theorem states. -/
namespace Go.Proofs.YtbnpdghfbiacaaaGreat
open Go

def crcStep (x : BitVec 32) : BitVec 32 := (x >>> 1) ^^^ (if x.getLsbD 0 then 0xedb88320#32 else 0#32)
def crcSteps : Nat → BitVec 32 → BitVec 32
  | 0, x => x
  | n + 1, x => crcSteps n (crcStep x)
def crcByte (x : BitVec 32) (c : UInt8) : BitVec 32 := crcSteps 8 (x ^^^ BitVec.ofNat 32 c.toNat)
def crcF (x : BitVec 32) (l : List UInt8) : BitVec 32 := l.foldl crcByte x
def crcS (l : List UInt8) : BitVec 32 := crcF 0xffffffff#32 l ^^^ 0xffffffff#32
def crcI (l : List UInt8) : Int := ((crcS l).toNat : Int)

theorem crcSteps_succ (n : Nat) (x : BitVec 32) : crcSteps (n + 1) x = crcStep (crcSteps n x) := by
  induction n generalizing x with
  | zero => rfl
  | succ n ih => show crcSteps (n + 1) (crcStep x) = _; rw [ih]; rfl
theorem crcF_snoc (x : BitVec 32) (l : List UInt8) (c : UInt8) : crcF x (l ++ [c]) = crcByte (crcF x l) c := by
  unfold crcF; rw [List.foldl_append]; rfl
theorem crcI_bd (l : List UInt8) : 0 ≤ crcI l ∧ crcI l < 4294967296 := by
  unfold crcI; have := (crcS l).isLt; omega

/-! the same by the program's words -/
theorem toInt32 (x : BitVec 32) : BitVec.ofInt 32 (x.toNat : Int) = x := by
  apply BitVec.eq_of_toNat_eq
  rw [ofInt_u32 _ x.isLt]
theorem xor_u32 (x y : BitVec 32) : bits .xor .u32 (x.toNat : Int) (y.toNat : Int) = ((x ^^^ y).toNat : Int) := by
  rw [u32_xor_nat _ _ x.isLt y.isLt, BitVec.toNat_xor]
theorem and_u32 (x y : BitVec 32) : bits .and .u32 (x.toNat : Int) (y.toNat : Int) = ((x &&& y).toNat : Int) := by
  rw [u32_and_nat _ _ x.isLt y.isLt, BitVec.toNat_and]
theorem low_u32 (x : BitVec 32) : bits .and .u32 (x.toNat : Int) 1 = if x.getLsbD 0 then 1 else 0 := by
  have h := u32_and_nat x.toNat 1 x.isLt (by decide)
  rw [show ((1 : Nat) : Int) = 1 from rfl] at h
  rw [h, Nat.and_one_is_mod]
  rw [BitVec.getLsbD, Nat.testBit_zero]
  by_cases hb : x.toNat % 2 = 1 <;> simp [hb] <;> omega
theorem half_u32 (x y : BitVec 32) (hy : y = x >>> 1) : (x.toNat : Int) / 2 = (y.toNat : Int) := by
  rw [hy, BitVec.toNat_ushiftRight, Nat.shiftRight_eq_div_pow]; simp
theorem round_u32 (x : BitVec 32) : bits .xor .u32 ((x.toNat : Int) / 2) (bits .and .u32 3988292384 (IntKind.u32.wrap (-(bits .and .u32 (x.toNat : Int) 1)))) = ((crcStep x).toNat : Int) := by
  rw [low_u32, half_u32 x _ rfl]
  unfold crcStep
  by_cases hb : x.getLsbD 0 = true
  · rw [if_pos hb, if_pos hb]
    have h1 : IntKind.u32.wrap (-1) = ((0xffffffff#32).toNat : Int) := by rw [IntKind.wrap_u32']; decide
    have h2 : (3988292384 : Int) = ((0xedb88320#32).toNat : Int) := by decide
    rw [h1, h2, and_u32, xor_u32]
    congr 2
  · rw [if_neg hb, if_neg hb]
    have h1 : IntKind.u32.wrap (-0) = ((0#32).toNat : Int) := by rw [IntKind.wrap_u32']; decide
    have h2 : (3988292384 : Int) = ((0xedb88320#32).toNat : Int) := by decide
    rw [h1, h2, and_u32, xor_u32]
    congr 2

/-! a turned byte turns it -/
theorem crcStep_inj {x y : BitVec 32} (h : crcStep x = crcStep y) : x = y := by
  unfold crcStep at h
  have top : ∀ z : BitVec 32, ((z >>> 1) ^^^ (if z.getLsbD 0 then 0xedb88320#32 else 0#32)).getLsbD 31 = z.getLsbD 0 := by
    intro z
    cases hz : z.getLsbD 0
    · rw [if_neg (by simp)]; simp
    · rw [if_pos rfl]; simp
  have h0 : x.getLsbD 0 = y.getLsbD 0 := by rw [← top x, ← top y, h]
  rw [h0] at h
  have h1 : x >>> 1 = y >>> 1 := by
    have := congrArg (· ^^^ (if y.getLsbD 0 then 0xedb88320#32 else 0#32)) h
    simpa [BitVec.xor_assoc] using this
  apply BitVec.eq_of_getLsbD_eq
  intro i hi
  rcases i with _ | i
  · exact h0
  · have := congrArg (fun z : BitVec 32 => z.getLsbD i) h1
    simpa [Nat.add_comm] using this
theorem crcSteps_inj : ∀ (n : Nat) {x y : BitVec 32}, crcSteps n x = crcSteps n y → x = y
  | 0, _, _, h => h
  | n + 1, _, _, h => crcStep_inj (crcSteps_inj n h)
theorem crcByte_inj {x y : BitVec 32} (c : UInt8) (h : crcByte x c = crcByte y c) : x = y := by
  have := crcSteps_inj 8 h
  have h2 := congrArg (· ^^^ BitVec.ofNat 32 c.toNat) this
  simpa [BitVec.xor_assoc] using h2
theorem crcByte_inj2 {x : BitVec 32} {c d : UInt8} (h : crcByte x c = crcByte x d) : c = d := by
  have := crcSteps_inj 8 h
  have h2 := congrArg (x ^^^ ·) this
  simp only [← BitVec.xor_assoc, BitVec.xor_self, BitVec.zero_xor] at h2
  have h3 := congrArg BitVec.toNat h2
  simp only [BitVec.toNat_ofNat] at h3
  have := c.toNat_lt; have := d.toNat_lt
  apply UInt8.toNat_inj.1
  omega
theorem crcF_inj : ∀ (l : List UInt8) {x y : BitVec 32}, crcF x l = crcF y l → x = y
  | [], _, _, h => h
  | c :: r, _, _, h => crcByte_inj c (crcF_inj r h)
theorem crcF_set (l : List UInt8) (x : BitVec 32) (i : Nat) (c : UInt8) (hi : i < l.length) (hc : c ≠ l[i]) : crcF x (l.set i c) ≠ crcF x l := by
  induction l generalizing x i with
  | nil => simp at hi
  | cons a r ih =>
    rcases i with _ | i
    · intro h
      exact hc (crcByte_inj2 (crcF_inj r h))
    · exact ih (crcByte x a) i (by simpa using hi) hc
theorem crcS_set (l : List UInt8) (i : Nat) (c : UInt8) (hi : i < l.length) (hc : c ≠ l[i]) : crcS (l.set i c) ≠ crcS l := by
  intro h
  have := congrArg (· ^^^ 0xffffffff#32) h
  simp only [crcS, BitVec.xor_assoc, BitVec.xor_self, BitVec.xor_zero] at this
  exact crcF_set l _ i c hi hc this

/-! the reference's bits -/
def refStep (x : BitVec 32) (bit : Bool) : BitVec 32 := (x >>> 1) ^^^ (if bit != x.getLsbD 0 then 0xedb88320#32 else 0#32)
def refSteps (c : UInt8) (x : BitVec 32) : Nat → BitVec 32
  | 0 => x
  | k + 1 => refStep (refSteps c x k) (c.toNat.testBit k)
theorem ref_steps (c : UInt8) (x : BitVec 32) (k : Nat) (hk : k ≤ 8) : crcSteps k (x ^^^ BitVec.ofNat 32 c.toNat) = refSteps c x k ^^^ (BitVec.ofNat 32 c.toNat >>> k) := by
  induction k with
  | zero => simp [crcSteps, refSteps]
  | succ k ih =>
    rw [crcSteps_succ, ih (by omega)]
    unfold crcStep
    simp only [refSteps, refStep]
    have hc := c.toNat_lt
    have hb : (refSteps c x k ^^^ (BitVec.ofNat 32 c.toNat >>> k)).getLsbD 0 = (c.toNat.testBit k != (refSteps c x k).getLsbD 0) := by
      rw [BitVec.getLsbD_xor, BitVec.getLsbD_ushiftRight, BitVec.getLsbD_ofNat]
      simp [show k < 32 by omega, Bool.xor_comm]
    rw [hb]
    have hs : (refSteps c x k ^^^ (BitVec.ofNat 32 c.toNat >>> k)) >>> 1 = (refSteps c x k >>> 1) ^^^ (BitVec.ofNat 32 c.toNat >>> (k + 1)) := by
      rw [BitVec.ushiftRight_xor_distrib, BitVec.shiftRight_add]
    rw [hs]
    simp only [BitVec.xor_assoc]
    congr 1
    rw [BitVec.xor_comm]
theorem ref_byte (c : UInt8) (x : BitVec 32) : refSteps c x 8 = crcByte x c := by
  unfold crcByte
  rw [ref_steps c x 8 (by omega)]
  have : BitVec.ofNat 32 c.toNat >>> 8 = 0#32 := by
    apply BitVec.eq_of_toNat_eq
    have := c.toNat_lt
    simp [BitVec.toNat_ushiftRight, Nat.shiftRight_eq_div_pow]
    omega
  rw [this, BitVec.xor_zero]
theorem refStep_val (z : BitVec 32) (bit : Bool) : ((refStep z bit).toNat : Int) = if bit = z.getLsbD 0 then (z.toNat : Int) / 2 else bits .xor .u32 ((z.toNat : Int) / 2) 3988292384 := by
  unfold refStep
  rw [half_u32 z _ rfl]
  by_cases h : bit = z.getLsbD 0
  · rw [if_pos h, h]; simp
  · rw [if_neg h]
    have hb : (bit != z.getLsbD 0) = true := by simpa using h
    rw [if_pos hb]
    have h2 : (3988292384 : Int) = ((0xedb88320#32).toNat : Int) := by decide
    rw [h2, xor_u32]
end Go.Proofs.YtbnpdghfbiacaaaGreat

/- Sectors in plain words: a part's sector, what a sector holds, the records of a list of sectors. No condition beyond what each theorem states. -/
namespace Go.Proofs.YtbnpdghfbiacaaaGreat
open Go

/-- a number as four bytes -/
def four (n : Nat) : List UInt8 := [UInt8.ofNat n, UInt8.ofNat (n / 256), UInt8.ofNat (n / 65536), UInt8.ofNat (n / 16777216)]
/-- the number of the first four bytes -/
def ofFour (l : List UInt8) : Nat := (l.getD 0 0).toNat + (l.getD 1 0).toNat * 256 + (l.getD 2 0).toNat * 65536 + (l.getD 3 0).toNat * 16777216
@[simp] theorem four_length (n : Nat) : (four n).length = 4 := rfl
theorem ofFour_lt (l : List UInt8) : ofFour l < 4294967296 := by
  unfold ofFour
  have := (l.getD 0 0).toNat_lt; have := (l.getD 1 0).toNat_lt; have := (l.getD 2 0).toNat_lt; have := (l.getD 3 0).toNat_lt
  omega
theorem ofFour_four (n : Nat) (h : n < 4294967296) (r : List UInt8) : ofFour (four n ++ r) = n := by
  simp [ofFour, four, UInt8.toNat_ofNat']; omega
theorem four_ofFour (l : List UInt8) (h : 4 ≤ l.length) : four (ofFour l) = l.take 4 := by
  obtain ⟨a, l, rfl⟩ : ∃ a t, l = a :: t := by cases l <;> simp at h ⊢
  obtain ⟨b, l, rfl⟩ : ∃ a t, l = a :: t := by cases l <;> simp at h ⊢
  obtain ⟨c, l, rfl⟩ : ∃ a t, l = a :: t := by cases l <;> simp at h ⊢
  obtain ⟨d, l, rfl⟩ : ∃ a t, l = a :: t := by cases l <;> simp at h ⊢
  have := a.toNat_lt; have := b.toNat_lt; have := c.toNat_lt; have := d.toNat_lt
  simp only [ofFour, four, List.take_succ_cons, List.take_zero, List.getD_cons_zero, List.getD_cons_succ]
  simp only [List.cons.injEq, and_true, ← UInt8.toNat_inj, UInt8.toNat_ofNat']
  omega

structure Pt where
  gen : Nat
  seq : Nat
  idx : Nat
  parts : Nat
  data : List UInt8
deriving DecidableEq

def headS (p : Pt) : List UInt8 := four p.gen ++ four p.seq ++ [UInt8.ofNat p.idx, UInt8.ofNat p.parts, UInt8.ofNat p.data.length] ++ p.data
def padS (l : List UInt8) : List UInt8 := l ++ List.replicate (60 - l.length) 0
def layS (p : Pt) : List UInt8 := padS (headS p) ++ four (crcS (padS (headS p))).toNat
/-- may it be a part? -/
def okPt (p : Pt) : Prop := 1 ≤ p.gen ∧ p.gen ≤ 1073741824 ∧ p.seq ≤ 1073741824 ∧ p.parts ≤ 4 ∧ p.idx < p.parts ∧ p.data.length ≤ 47 ∧ (p.idx + 1 ≠ p.parts → p.data.length = 47) ∧ (p.idx + 1 = p.parts → 0 < p.data.length ∨ p.parts = 1)
instance (p : Pt) : Decidable (okPt p) := by unfold okPt; infer_instance
/-- what a sector would hold -/
def readS (b : List UInt8) : Pt := ⟨ofFour b, ofFour (b.drop 4), (b.getD 8 0).toNat, (b.getD 9 0).toNat, (b.drop 11).take (b.getD 10 0).toNat⟩
def lookS (b : List UInt8) : Option Pt := if b.length = 64 ∧ okPt (readS b) ∧ layS (readS b) = b then some (readS b) else none

theorem headS_length (p : Pt) : (headS p).length = 11 + p.data.length := by simp [headS]; omega
theorem padS_length (l : List UInt8) (h : l.length ≤ 60) : (padS l).length = 60 := by simp [padS]; omega
theorem layS_length (p : Pt) (h : p.data.length ≤ 49) : (layS p).length = 64 := by
  unfold layS; rw [List.length_append, padS_length _ (by rw [headS_length]; omega), four_length]
theorem readS_layS (p : Pt) (h : okPt p) : readS (layS p) = p := by
  obtain ⟨h1, h2, h3, h4, h5, h6, h7, h8⟩ := h
  obtain ⟨gen, seq, idx, parts, data⟩ := p
  simp only at h1 h2 h3 h4 h5 h6 h7 h8
  have e : layS ⟨gen, seq, idx, parts, data⟩ = four gen ++ (four seq ++ (UInt8.ofNat idx :: UInt8.ofNat parts :: UInt8.ofNat data.length :: (data ++ (List.replicate (60 - (headS ⟨gen, seq, idx, parts, data⟩).length) 0 ++ four (crcS (padS (headS ⟨gen, seq, idx, parts, data⟩))).toNat)))) := by
    simp [layS, padS, headS, List.append_assoc]
  have d4 : (layS ⟨gen, seq, idx, parts, data⟩).drop 4 = four seq ++ (UInt8.ofNat idx :: UInt8.ofNat parts :: UInt8.ofNat data.length :: (data ++ (List.replicate (60 - (headS ⟨gen, seq, idx, parts, data⟩).length) 0 ++ four (crcS (padS (headS ⟨gen, seq, idx, parts, data⟩))).toNat))) := by
    rw [e, List.drop_left' (four_length _)]
  unfold readS
  rw [d4]
  rw [e]
  rw [ofFour_four _ (by omega), ofFour_four _ (by omega)]
  have g8 : ∀ (r : List UInt8), (four gen ++ (four seq ++ (UInt8.ofNat idx :: UInt8.ofNat parts :: UInt8.ofNat data.length :: r))).getD 8 0 = UInt8.ofNat idx := fun r => rfl
  have g9 : ∀ (r : List UInt8), (four gen ++ (four seq ++ (UInt8.ofNat idx :: UInt8.ofNat parts :: UInt8.ofNat data.length :: r))).getD 9 0 = UInt8.ofNat parts := fun r => rfl
  have g10 : ∀ (r : List UInt8), (four gen ++ (four seq ++ (UInt8.ofNat idx :: UInt8.ofNat parts :: UInt8.ofNat data.length :: r))).getD 10 0 = UInt8.ofNat data.length := fun r => rfl
  have g11 : ∀ (r : List UInt8), (four gen ++ (four seq ++ (UInt8.ofNat idx :: UInt8.ofNat parts :: UInt8.ofNat data.length :: r))).drop 11 = r := fun r => rfl
  rw [g8, g9, g10, g11]
  have n1 : (UInt8.ofNat idx).toNat = idx := by rw [UInt8.toNat_ofNat']; omega
  have n2 : (UInt8.ofNat parts).toNat = parts := by rw [UInt8.toNat_ofNat']; omega
  have n3 : (UInt8.ofNat data.length).toNat = data.length := by rw [UInt8.toNat_ofNat']; omega
  rw [n1, n2, n3, List.take_left' rfl]
theorem lookS_layS (p : Pt) (h : okPt p) : lookS (layS p) = some p := by
  unfold lookS
  rw [readS_layS p h]
  rw [if_pos ⟨layS_length p (by have := h.2.2.2.2.2.1; omega), h, rfl⟩]
theorem lookS_some {b : List UInt8} {p : Pt} (h : lookS b = some p) : okPt p ∧ b = layS p ∧ b.length = 64 ∧ readS b = p := by
  unfold lookS at h
  split at h
  · rename_i hh
    injection h with h
    subst h
    exact ⟨hh.2.1, hh.2.2.symm, hh.1, rfl⟩
  · cases h

/-- the head, the rest and the sum of a sector that would be laid so -/
theorem lay_iff (b : List UInt8) (hb : b.length = 64) (hn : (b.getD 10 0).toNat ≤ 47) :
    layS (readS b) = b ↔ (∀ x ∈ (b.drop (11 + (b.getD 10 0).toNat)).take (49 - (b.getD 10 0).toNat), x = 0) ∧ ofFour (b.drop 60) = (crcS (b.take 60)).toNat := by
  have hd : (readS b).data.length = (b.getD 10 0).toNat := by show ((b.drop 11).take (b.getD 10 0).toNat).length = _; rw [List.length_take, List.length_drop]; omega
  have hh : headS (readS b) = b.take (11 + (b.getD 10 0).toNat) := by
    have e0 : four (ofFour b) = b.take 4 := four_ofFour b (by omega)
    have e1 : four (ofFour (b.drop 4)) = (b.drop 4).take 4 := four_ofFour _ (by simp; omega)
    have e2 : [UInt8.ofNat (b.getD 8 0).toNat, UInt8.ofNat (b.getD 9 0).toNat, UInt8.ofNat (b.getD 10 0).toNat] = (b.drop 8).take 3 := by
      apply List.ext_getElem?
      intro i
      rcases i with _ | _ | _ | i <;> simp [List.getD_eq_getElem?_getD, hb]
    unfold headS
    rw [hd]
    show four (ofFour b) ++ four (ofFour (b.drop 4)) ++ [UInt8.ofNat (b.getD 8 0).toNat, UInt8.ofNat (b.getD 9 0).toNat, UInt8.ofNat (b.getD 10 0).toNat] ++ (b.drop 11).take (b.getD 10 0).toNat = _
    rw [e0, e1, e2, List.take_add (i := 11), show (11 : Nat) = 8 + 3 from rfl, List.take_add (i := 8), show (8 : Nat) = 4 + 4 from rfl, List.take_add (i := 4)]
  have hp : padS (headS (readS b)) = b.take (11 + (b.getD 10 0).toNat) ++ List.replicate (49 - (b.getD 10 0).toNat) 0 := by
    unfold padS
    rw [hh]
    congr 2
    simp; omega
  have hs : b = b.take (11 + (b.getD 10 0).toNat) ++ ((b.drop (11 + (b.getD 10 0).toNat)).take (49 - (b.getD 10 0).toNat) ++ b.drop 60) := by
    have h1 : b.drop 60 = (b.drop (11 + (b.getD 10 0).toNat)).drop (49 - (b.getD 10 0).toNat) := by rw [List.drop_drop]; congr 1; omega
    rw [h1, List.take_append_drop, List.take_append_drop]
  have h60 : b.take 60 = b.take (11 + (b.getD 10 0).toNat) ++ (b.drop (11 + (b.getD 10 0).toNat)).take (49 - (b.getD 10 0).toNat) := by
    rw [show (60 : Nat) = 11 + (b.getD 10 0).toNat + (49 - (b.getD 10 0).toNat) by omega, List.take_add]
  generalize (b.getD 10 0).toNat = n at *
  have hz : ∀ l : List UInt8, (∀ x ∈ l, x = 0) ↔ List.replicate l.length 0 = l := by
    intro l
    constructor
    · intro h; exact (List.eq_replicate_of_mem h).symm
    · intro h x hx; rw [← h] at hx; exact List.eq_of_mem_replicate hx
  have hl : ((b.drop (11 + n)).take (49 - n)).length = 49 - n := by simp; omega
  have h4 : (b.drop 60).length = 4 := by simp; omega
  have key : layS (readS b) = b ↔ List.replicate (49 - n) 0 = (b.drop (11 + n)).take (49 - n) ∧ four (crcS (b.take (11 + n) ++ List.replicate (49 - n) 0)).toNat = b.drop 60 := by
    unfold layS
    rw [hp]
    constructor
    · intro h
      have h' := h.trans hs
      rw [List.append_assoc] at h'
      exact List.append_inj (List.append_cancel_left h') (by rw [hl, List.length_replicate])
    · rintro ⟨h1, h2⟩
      rw [h2, h1, List.append_assoc]
      exact hs.symm
  rw [key, h60]
  have hz' := hz ((b.drop (11 + n)).take (49 - n))
  rw [hl] at hz'
  rw [hz']
  constructor
  · rintro ⟨h1, h2⟩
    refine ⟨h1, ?_⟩
    rw [← h1, ← h2]
    have := ofFour_four (crcS (b.take (11 + n) ++ List.replicate (49 - n) 0)).toNat (crcS _).isLt []
    rwa [List.append_nil] at this
  · rintro ⟨h1, h2⟩
    refine ⟨h1, ?_⟩
    rw [h1, ← h2, four_ofFour _ (by omega), List.take_of_length_le (by omega)]

def zeroS (l : List UInt8) : Prop := l.all (· == 0) = true
instance (l : List UInt8) : Decidable (zeroS l) := by unfold zeroS; infer_instance
theorem zeroS_iff (l : List UInt8) : zeroS l ↔ ∀ x ∈ l, x = 0 := by simp [zeroS]
/-- the checks that the program makes, one behind the other -/
theorem lookS_eq (b : List UInt8) : lookS b = if b.length = 64 ∧ ofFour (b.drop 60) = (crcS (b.take 60)).toNat ∧ okPt (readS b) ∧ zeroS ((b.drop (11 + (b.getD 10 0).toNat)).take (49 - (b.getD 10 0).toNat)) then some (readS b) else none := by
  unfold lookS
  by_cases hb : b.length = 64
  · by_cases ho : okPt (readS b)
    · have hn : (b.getD 10 0).toNat ≤ 47 := by
        have h6 := ho.2.2.2.2.2.1
        have : (readS b).data.length = min (b.getD 10 0).toNat (b.length - 11) := by show ((b.drop 11).take (b.getD 10 0).toNat).length = _; rw [List.length_take, List.length_drop]
        omega
      have hi := lay_iff b hb hn
      rw [← zeroS_iff] at hi
      by_cases hl : layS (readS b) = b
      · obtain ⟨h1, h2⟩ := hi.1 hl
        rw [if_pos ⟨hb, ho, hl⟩, if_pos ⟨hb, h2, ho, h1⟩]
      · rw [if_neg (fun h => hl h.2.2), if_neg (fun h => hl (hi.2 ⟨h.2.2.2, h.2.1⟩))]
    · rw [if_neg (fun h => ho h.2.1), if_neg (fun h => ho h.2.2.1)]
  · rw [if_neg (fun h => hb h.1), if_neg (fun h => hb h.1)]

/-! records -/
def chunkN (l : List UInt8) : Nat := max 1 ((l.length + 46) / 47)
def pieceS (l : List UInt8) (i : Nat) : List UInt8 := (l.drop (47 * i)).take 47
def partsS (gen seq : Nat) (l : List UInt8) : List (List UInt8) := (List.range (chunkN l)).map fun i => layS ⟨gen, seq, i, chunkN l, pieceS l i⟩
def packS (gen seq : Int) (l : List UInt8) : List (List UInt8) × Int :=
  if gen < 1 ∨ 1073741824 < gen ∨ seq < 0 ∨ 1073741824 < seq then ([], 2) else if 188 < l.length then ([], 41) else (partsS gen.toNat seq.toNat l, 0)
/-- the part at a place -/
def partS (l : List (List UInt8)) (gen : Int) (at_ seq idx parts : Nat) : Option Pt :=
  match l[at_]? with
  | none => none
  | some b => match lookS b with
    | none => none
    | some p => if (p.gen : Int) = gen ∧ p.seq = seq ∧ p.idx = idx ∧ (0 < parts → p.parts = parts) then some p else none
/-- the data of the first k parts -/
def uptoS (l : List (List UInt8)) (gen : Int) (used seq parts : Nat) : Nat → Option (List UInt8)
  | 0 => some []
  | k + 1 => match uptoS l gen used seq parts k, partS l gen (used + k) seq k (if k = 0 then 0 else parts) with
    | some d, some p => some (d ++ p.data)
    | _, _ => none
def oneS (l : List (List UInt8)) (gen : Int) (used seq : Nat) : Option (List UInt8 × Nat) :=
  match partS l gen used seq 0 0 with
  | none => none
  | some p => match uptoS l gen used seq p.parts p.parts with
    | none => none
    | some d => some (d, p.parts)
def scanF (l : List (List UInt8)) (gen : Int) : Nat → Nat → List (List UInt8) → List (List UInt8) × Nat
  | 0, used, recs => (recs, used)
  | f + 1, used, recs => match oneS l gen used recs.length with
    | none => (recs, used)
    | some (d, n) => scanF l gen f (used + n) (recs ++ [d])
def scanS (l : List (List UInt8)) (gen : Int) : List (List UInt8) × Nat := scanF l gen (l.length + 1) 0 []

theorem okPt_piece {gen seq : Nat} (l : List UInt8) {i : Nat} (hg : 1 ≤ gen) (hg2 : gen ≤ 1073741824) (hs : seq ≤ 1073741824) (hl : l.length ≤ 188) (hi : i < chunkN l) : okPt ⟨gen, seq, i, chunkN l, pieceS l i⟩ := by
  have hp : (pieceS l i).length = min 47 (l.length - 47 * i) := by simp [pieceS]
  have hc : chunkN l = max 1 ((l.length + 46) / 47) := rfl
  refine ⟨hg, hg2, hs, ?_, hi, ?_, ?_, ?_⟩ <;> simp only [hp, hc] at hi ⊢ <;> omega
theorem pieces_join (l : List UInt8) : ∀ k, ((List.range k).map (pieceS l)).flatten = l.take (47 * k)
  | 0 => rfl
  | k + 1 => by
    rw [List.range_succ, List.map_append, List.flatten_append, pieces_join l k]
    simp only [List.map_cons, List.map_nil, List.flatten_cons, List.flatten_nil, List.append_nil]
    rw [show 47 * (k + 1) = 47 * k + 47 by omega, List.take_add]
    rfl
theorem pieces_all (l : List UInt8) : ((List.range (chunkN l)).map (pieceS l)).flatten = l := by
  rw [pieces_join, List.take_of_length_le]
  unfold chunkN; omega
theorem partsS_length (gen seq : Nat) (l : List UInt8) : (partsS gen seq l).length = chunkN l := by simp [partsS]
end Go.Proofs.YtbnpdghfbiacaaaGreat

/- Messages, in plain words (wire): which may be, their bytes, and back. vp says which texts are paths. No condition beyond what each theorem states. -/
namespace Go.Proofs.YtbnpdghfbiacaaaGreat
open Go

def nodeI (x : Int) : Prop := 0 ≤ x ∧ x < 8
def cntI (x : Int) : Prop := 1 ≤ x ∧ x ≤ 1099511627776
def modeI (x : Int) : Prop := x = 1 ∨ x = 2
def termI (x : Int) : Prop := 4 ≤ x ∧ x ≤ 1048576
def stampI (l : List Int) : Prop := l.length ≤ 4 ∧ ∀ x ∈ l, cntI x
instance (x : Int) : Decidable (nodeI x) := by unfold nodeI; infer_instance
instance (x : Int) : Decidable (cntI x) := by unfold cntI; infer_instance
instance (x : Int) : Decidable (modeI x) := by unfold modeI; infer_instance
instance (x : Int) : Decidable (termI x) := by unfold termI; infer_instance
instance (l : List Int) : Decidable (stampI l) := by unfold stampI; infer_instance
section
variable (vp : List UInt8 → Bool)
/-- may the fields of its kind be? -/
def fineS (m : Msg) : Prop :=
  if m.kind = 1 then nodeI m.dest ∧ cntI m.boot ∧ cntI m.seq ∧ 1 ≤ m.low ∧ m.low ≤ m.seq ∧
    (if m.verb = 1 then vp m.path = true ∧ modeI m.mode ∧ termI m.term else if m.verb = 2 then cntI m.id ∧ termI m.term else if m.verb = 3 then cntI m.id else False)
  else if m.kind = 2 then nodeI m.dest ∧ cntI m.boot ∧ cntI m.seq ∧ 0 ≤ m.code ∧ m.code ≤ 99 ∧
    (m.code = 0 → cntI m.id ∧ stampI m.stamp ∧ (m.term = 0 ∧ m.stamp = [] ∨ termI m.term ∧ m.stamp ≠ []))
  else if m.kind = 3 then nodeI m.dest ∧ cntI m.id ∧ nodeI m.origin ∧ cntI m.number ∧ vp m.path = true
  else if m.kind = 4 then nodeI m.dest ∧ cntI m.id ∧ nodeI m.origin ∧ cntI m.number
  else if m.kind = 5 then 8 ≤ m.dest ∧ m.dest < 12 ∧ vp m.path = true ∧ modeI m.mode ∧ stampI m.stamp
  else False
/-- may it be a message? -/
def mayS (m : Msg) : Prop := usedS m = m ∧ nodeI m.from_ ∧ m.from_ ≠ m.dest ∧ fineS vp m
instance (m : Msg) : Decidable (fineS vp m) := by unfold fineS; infer_instance
instance (m : Msg) : Decidable (mayS vp m) := by unfold mayS; infer_instance
def sumS (l : List UInt8) : List UInt8 := l ++ four (crcS l).toNat
def encS (m : Msg) : Option (List UInt8) := if mayS vp m then some (sumS (bodyS m)) else none
def decS (b : List UInt8) : Option Msg := if b.length ≤ 200 ∧ encS vp (takeMsg b) = some b then some (takeMsg b) else none
end

theorem used_kind {m : Msg} (h : usedS m = m) : (m.kind ≠ 1 → m.low = 0 ∧ m.verb = 0 ∧ m.fresh = false) := fun h1 => by
  rw [← h]; unfold usedS; rw [if_neg h1]
  repeat' split
  all_goals exact ⟨rfl, rfl, rfl⟩
theorem cI {x : Int} (h : cntI x) : 0 ≤ x ∧ x < 9223372036854775808 := by unfold cntI at h; omega
theorem nI {x : Int} (h : nodeI x) : 0 ≤ x ∧ x < 9223372036854775808 := by unfold nodeI at h; omega
theorem mI {x : Int} (h : modeI x) : 0 ≤ x ∧ x < 9223372036854775808 := by unfold modeI at h; omega
theorem tI {x : Int} (h : termI x) : 0 ≤ x ∧ x < 9223372036854775808 := by unfold termI at h; omega
theorem i1 : (0 : Int) ≤ 1 ∧ (1 : Int) < 9223372036854775808 := by omega
theorem i2 : (0 : Int) ≤ 2 ∧ (2 : Int) < 9223372036854775808 := by omega
theorem i3 : (0 : Int) ≤ 3 ∧ (3 : Int) < 9223372036854775808 := by omega
theorem i4 : (0 : Int) ≤ 4 ∧ (4 : Int) < 9223372036854775808 := by omega
theorem i5 : (0 : Int) ≤ 5 ∧ (5 : Int) < 9223372036854775808 := by omega
theorem zI : (0 : Int) ≤ 0 ∧ (0 : Int) < 9223372036854775808 := by omega
theorem sI {l : List Int} (h : stampI l) : ∀ x ∈ l, 0 ≤ x ∧ x < 9223372036854775808 := fun x hx => cI (h.2 x hx)
theorem sJ {l : List Int} (h : stampI l) : l.length ≤ 5 := by have := h.1; omega
theorem zJ : ([] : List Int).length ≤ 5 := by simp
theorem zK : ∀ x ∈ ([] : List Int), 0 ≤ x ∧ x < 9223372036854775808 := by simp
theorem zP : ([] : List UInt8).length ≤ 200 := by simp
/-- a valid message fits -/
theorem fit_of {vp : List UInt8 → Bool} (hvp : ∀ l, vp l = true → l.length ≤ 27) {m : Msg} (h : mayS vp m) : Fit m ∧ ¬ (m.kind = 1 ∧ m.verb ≠ 1 ∧ m.verb ≠ 2 ∧ m.verb ≠ 3) := by
  obtain ⟨hu, hn, _, hf⟩ := h
  have hP : ∀ l, vp l = true → l.length ≤ 200 := fun l hl => by have := hvp l hl; omega
  obtain ⟨kind, from_, to, boot, seq, low, verb, path, mode, term, id, fresh, code, stamp, origin, number⟩ := m
  simp only [fineS] at hf hn
  by_cases k1 : kind = 1
  · subst k1
    rw [if_pos rfl] at hf
    obtain ⟨h1, h2, h3, h4, h5, h6⟩ := hf
    have hl : 0 ≤ low ∧ low < 9223372036854775808 := by have := cI h3; omega
    by_cases v1 : verb = 1
    · subst v1
      rw [if_pos rfl] at h6
      simp [usedS] at hu
      obtain ⟨rfl, rfl, rfl, rfl, rfl, rfl⟩ := hu
      exact ⟨⟨i1, nI hn, nI h1, cI h2, cI h3, hl, i1, hP _ h6.1, mI h6.2.1, tI h6.2.2, zI, zI, zJ, zK, zI, zI⟩, by simp⟩
    · rw [if_neg v1] at h6
      by_cases v2 : verb = 2
      · subst v2
        rw [if_pos rfl] at h6
        simp [usedS] at hu
        obtain ⟨rfl, rfl, rfl, rfl, rfl, rfl⟩ := hu
        exact ⟨⟨i1, nI hn, nI h1, cI h2, cI h3, hl, i2, zP, zI, tI h6.2, cI h6.1, zI, zJ, zK, zI, zI⟩, by simp⟩
      · rw [if_neg v2] at h6
        by_cases v3 : verb = 3
        · subst v3
          rw [if_pos rfl] at h6
          simp [usedS] at hu
          obtain ⟨rfl, rfl, rfl, rfl, rfl, rfl, rfl, rfl⟩ := hu
          exact ⟨⟨i1, nI hn, nI h1, cI h2, cI h3, hl, i3, zP, zI, zI, cI h6, zI, zJ, zK, zI, zI⟩, by simp⟩
        · rw [if_neg v3] at h6
          exact h6.elim
  · rw [if_neg k1] at hf
    by_cases k2 : kind = 2
    · subst k2
      rw [if_pos rfl] at hf
      obtain ⟨h1, h2, h3, h4, h5, h6⟩ := hf
      have hc : 0 ≤ code ∧ code < 9223372036854775808 := by omega
      by_cases c0 : code = 0
      · subst c0
        obtain ⟨q1, q2, q3⟩ := h6 rfl
        have ht : 0 ≤ term ∧ term < 9223372036854775808 := by
          rcases q3 with ⟨q, _⟩ | ⟨q, _⟩
          · omega
          · exact tI q
        simp [usedS] at hu
        obtain ⟨rfl, rfl, rfl, rfl, rfl, rfl, rfl⟩ := hu
        exact ⟨⟨i2, nI hn, nI h1, cI h2, cI h3, zI, zI, zP, zI, ht, cI q1, zI, sJ q2, sI q2, zI, zI⟩, by simp⟩
      · simp [usedS, c0] at hu
        obtain ⟨rfl, rfl, rfl, rfl, rfl, rfl, rfl, rfl, rfl, rfl⟩ := hu
        exact ⟨⟨i2, nI hn, nI h1, cI h2, cI h3, zI, zI, zP, zI, zI, zI, hc, zJ, zK, zI, zI⟩, by simp⟩
    · rw [if_neg k2] at hf
      by_cases k3 : kind = 3
      · subst k3
        rw [if_pos rfl] at hf
        obtain ⟨h1, h2, h3, h4, h5⟩ := hf
        simp [usedS] at hu
        obtain ⟨rfl, rfl, rfl, rfl, rfl, rfl, rfl, rfl, rfl⟩ := hu
        exact ⟨⟨i3, nI hn, nI h1, zI, zI, zI, zI, hP _ h5, zI, zI, cI h2, zI, zJ, zK, nI h3, cI h4⟩, by simp⟩
      · rw [if_neg k3] at hf
        by_cases k4 : kind = 4
        · subst k4
          rw [if_pos rfl] at hf
          obtain ⟨h1, h2, h3, h4⟩ := hf
          simp [usedS] at hu
          obtain ⟨rfl, rfl, rfl, rfl, rfl, rfl, rfl, rfl, rfl, rfl⟩ := hu
          exact ⟨⟨i4, nI hn, nI h1, zI, zI, zI, zI, zP, zI, zI, cI h2, zI, zJ, zK, nI h3, cI h4⟩, by simp⟩
        · rw [if_neg k4] at hf
          by_cases k5 : kind = 5
          · subst k5
            rw [if_pos rfl] at hf
            obtain ⟨h1, h2, h3, h4, h5⟩ := hf
            have ht : 0 ≤ to ∧ to < 9223372036854775808 := by omega
            simp [usedS] at hu
            obtain ⟨rfl, rfl, rfl, rfl, rfl, rfl, rfl, rfl, rfl, rfl⟩ := hu
            exact ⟨⟨i5, nI hn, ht, zI, zI, zI, zI, hP _ h3, mI h4, zI, zI, zI, sJ h5, sI h5, zI, zI⟩, by simp⟩
          · rw [if_neg k5] at hf
            exact hf.elim
/-- what was made of a message gives it back -/
theorem dec_enc {vp : List UInt8 → Bool} (hvp : ∀ l, vp l = true → l.length ≤ 27) {m : Msg} {b : List UInt8} (h : encS vp m = some b) (hb : b.length ≤ 200) : decS vp b = some m := by
  have h0 := h
  unfold encS at h
  by_cases hv : mayS vp m
  · rw [if_pos hv] at h
    injection h with h
    obtain ⟨hf, hn⟩ := fit_of hvp hv
    have ht : takeMsg b = m := by
      rw [← h]
      unfold sumS
      rw [take_body m hf, if_neg hn]
      exact hv.1
    unfold decS
    rw [ht, if_pos ⟨hb, h0⟩]
  · rw [if_neg hv] at h; cases h
/-- bytes that are taken are the only bytes of their message -/
theorem enc_dec {vp : List UInt8 → Bool} {m : Msg} {b : List UInt8} (h : decS vp b = some m) : encS vp m = some b ∧ b.length ≤ 200 ∧ takeMsg b = m := by
  unfold decS at h
  split at h
  · rename_i hh
    injection h with h
    exact ⟨by rw [← h]; exact hh.2, hh.1, h⟩
  · cases h
theorem enc_sum {vp : List UInt8 → Bool} {m : Msg} {b : List UInt8} (h : encS vp m = some b) : b = sumS (bodyS m) ∧ mayS vp m := by
  unfold encS at h
  split at h
  · rename_i hh
    injection h with h
    exact ⟨h.symm, hh⟩
  · cases h
/-- bytes in which one is turned are no message's -/
theorem dec_turned {vp : List UInt8 → Bool} {m : Msg} {b : List UInt8} (h : encS vp m = some b) (i : Nat) (hi : i < b.length) (c : UInt8) (hc : c ≠ b[i]) : decS vp (b.set i c) = none := by
  cases hd : decS vp (b.set i c) with
  | none => rfl
  | some m' =>
    exfalso
    obtain ⟨he, _, _⟩ := enc_dec hd
    obtain ⟨e1, _⟩ := enc_sum h
    obtain ⟨e2, _⟩ := enc_sum he
    generalize bodyS m = x at *
    generalize bodyS m' = y at *
    unfold sumS at e1 e2
    have hl : y.length = x.length := by
      have h1 := congrArg List.length e1
      have h2 := congrArg List.length e2
      simp at h1 h2
      omega
    have hbl : b.length = x.length + 4 := by rw [e1]; simp
    by_cases hx : i < x.length
    · have q1 : (b.set i c).take x.length = x.set i c := by rw [List.take_set, e1, List.take_left' rfl]
      have q2 : (b.set i c).take x.length = y := by rw [e2, ← hl, List.take_left' rfl]
      have q3 : (b.set i c).drop x.length = four (crcS x).toNat := by rw [List.drop_set, if_pos hx, e1, List.drop_left' rfl]
      have q4 : (b.set i c).drop x.length = four (crcS y).toNat := by rw [e2, ← hl, List.drop_left' rfl]
      have hy : y = x.set i c := by rw [← q2, q1]
      rw [q3, hy] at q4
      have h1 := ofFour_four (crcS x).toNat (crcS _).isLt []
      have h2 := ofFour_four (crcS (x.set i c)).toNat (crcS _).isLt []
      rw [List.append_nil] at h1 h2
      rw [← q4, h1] at h2
      have h3 : crcS x = crcS (x.set i c) := BitVec.eq_of_toNat_eq h2
      refine crcS_set x i c hx (fun e => hc ?_) h3.symm
      rw [e]
      simp [e1, hx]
    · have q1 : (b.set i c).take x.length = x := by rw [List.take_set, List.set_eq_of_length_le (by simp; omega), e1, List.take_left' rfl]
      have q2 : (b.set i c).take x.length = y := by rw [e2, ← hl, List.take_left' rfl]
      have hy : y = x := by rw [← q2, q1]
      have q4 : (b.set i c).drop x.length = four (crcS x).toNat := by rw [e2, hy, List.drop_left' rfl]
      have q3 : b.drop x.length = four (crcS x).toNat := by rw [e1, List.drop_left' rfl]
      rw [← q3] at q4
      have hg : ((b.set i c).drop x.length)[i - x.length]? = (b.drop x.length)[i - x.length]? := by rw [q4]
      rw [List.getElem?_drop, List.getElem?_drop, show x.length + (i - x.length) = i by omega, List.getElem?_set_self hi, List.getElem?_eq_getElem hi] at hg
      injection hg with hg
      exact hc hg
theorem nS_le {x : Int} (h : x ≤ 1099511627776) : (nS x).length ≤ 6 := numS_len 5 x.toNat (by omega)
theorem nS_pos (x : Int) : 0 < (nS x).length := numS_pos _
theorem cS_le {l : List Int} (h : stampI l) : (cS l).length ≤ 30 := by
  have key : ∀ l : List Int, (∀ x ∈ l, cntI x) → (numsS (l.map Int.toNat)).length ≤ 6 * l.length := by
    intro l
    induction l with
    | nil => intro _; simp [numsS]
    | cons x l ih =>
      intro hx
      have h1 := ih (fun y hy => hx y (List.mem_cons_of_mem _ hy))
      have h2 : (nS x).length ≤ 6 := nS_le (by have := hx x (List.mem_cons_self ..); unfold cntI at this; omega)
      unfold nS at h2
      simp only [numsS, List.map_cons, List.flatten_cons, List.length_append, List.length_cons] at h1 ⊢
      omega
  have h1 := key l h.2
  have h2 : (numS (l.map Int.toNat).length).length ≤ 1 := numS_len 0 _ (by have := h.1; simp; omega)
  have h3 := h.1
  unfold cS cntsS
  rw [List.length_append]
  omega
theorem textS_le {t : List UInt8} (h : t.length ≤ 27) : (textS t).length ≤ 28 := by
  have h2 : (numS t.length).length ≤ 1 := numS_len 0 _ (by omega)
  unfold textS
  rw [List.length_append]
  omega
/-- no message is longer than a packet -/
theorem enc_len {vp : List UInt8 → Bool} (hvp : ∀ l, vp l = true → l.length ≤ 27) {m : Msg} {b : List UInt8} (h : encS vp m = some b) : 4 < b.length ∧ b.length ≤ 200 := by
  obtain ⟨e, hv⟩ := enc_sum h
  obtain ⟨_, hn, _, hf⟩ := hv
  have h0 := nS_pos m.kind
  have hb : b.length = (bodyS m).length + 4 := by rw [e]; simp [sumS]
  have hlow : 0 < (bodyS m).length := by unfold bodyS; rw [List.length_append]; omega
  refine ⟨by omega, ?_⟩
  suffices (bodyS m).length ≤ 190 by omega
  unfold nodeI at hn
  have f1 := nS_le (x := m.from_) (by omega)
  unfold fineS at hf
  by_cases k1 : m.kind = 1
  · rw [if_pos k1] at hf
    obtain ⟨h1, h2, h3, h4, h5, h6⟩ := hf
    unfold nodeI at h1
    unfold cntI at h2 h3
    have f0 := nS_le (x := m.kind) (by omega); have f2 := nS_le (x := m.dest) (by omega); have f3 := nS_le (x := m.boot) (by omega); have f4 := nS_le (x := m.seq) (by omega); have f5 := nS_le (x := m.low) (by omega)
    by_cases v1 : m.verb = 1
    · rw [if_pos v1] at h6
      obtain ⟨q1, q2, q3⟩ := h6
      unfold modeI at q2
      unfold termI at q3
      have f6 := nS_le (x := m.verb) (by omega); have f7 := textS_le (hvp _ q1); have f8 := nS_le (x := m.mode) (by omega); have f9 := nS_le (x := m.term) (by omega)
      simp only [bodyS, if_pos k1, if_pos v1, List.length_append]
      omega
    · rw [if_neg v1] at h6
      by_cases v2 : m.verb = 2
      · rw [if_pos v2] at h6
        obtain ⟨q1, q2⟩ := h6
        unfold cntI at q1
        unfold termI at q2
        have f6 := nS_le (x := m.verb) (by omega); have f7 := nS_le (x := m.id) (by omega); have f8 := nS_le (x := if m.fresh then (1 : Int) else 0) (by split <;> omega); have f9 := nS_le (x := m.term) (by omega)
        simp only [bodyS, if_pos k1, if_neg v1, if_pos v2, List.length_append]
        omega
      · rw [if_neg v2] at h6
        by_cases v3 : m.verb = 3
        · rw [if_pos v3] at h6
          unfold cntI at h6
          have f6 := nS_le (x := m.verb) (by omega); have f7 := nS_le (x := m.id) (by omega)
          simp only [bodyS, if_pos k1, if_neg v1, if_neg v2, if_pos v3, List.length_append]
          omega
        · rw [if_neg v3] at h6; exact h6.elim
  · rw [if_neg k1] at hf
    by_cases k2 : m.kind = 2
    · rw [if_pos k2] at hf
      obtain ⟨h1, h2, h3, h4, h5, h6⟩ := hf
      unfold nodeI at h1
      unfold cntI at h2 h3
      have f0 := nS_le (x := m.kind) (by omega); have f2 := nS_le (x := m.dest) (by omega); have f3 := nS_le (x := m.boot) (by omega); have f4 := nS_le (x := m.seq) (by omega); have f5 := nS_le (x := m.code) (by omega)
      by_cases c0 : m.code = 0
      · obtain ⟨q1, q2, q3⟩ := h6 c0
        unfold cntI at q1
        have f6 := nS_le (x := m.id) (by omega); have f7 := cS_le q2
        have f8 := nS_le (x := m.term) (by
          rcases q3 with ⟨q, _⟩ | ⟨q, _⟩
          · omega
          · unfold termI at q; omega)
        simp only [bodyS, if_neg k1, if_pos k2, if_pos c0, List.length_append]
        omega
      · simp only [bodyS, if_neg k1, if_pos k2, if_neg c0, List.length_append, List.length_nil]
        omega
    · rw [if_neg k2] at hf
      by_cases k3 : m.kind = 3
      · rw [if_pos k3] at hf
        obtain ⟨h1, h2, h3, h4, h5⟩ := hf
        unfold nodeI at h1 h3
        unfold cntI at h2 h4
        have f0 := nS_le (x := m.kind) (by omega); have f2 := nS_le (x := m.dest) (by omega); have f3 := nS_le (x := m.id) (by omega); have f4 := nS_le (x := m.origin) (by omega); have f5 := nS_le (x := m.number) (by omega); have f6 := textS_le (hvp _ h5)
        simp only [bodyS, if_neg k1, if_neg k2, if_pos k3, List.length_append]
        omega
      · rw [if_neg k3] at hf
        by_cases k4 : m.kind = 4
        · rw [if_pos k4] at hf
          obtain ⟨h1, h2, h3, h4⟩ := hf
          unfold nodeI at h1 h3
          unfold cntI at h2 h4
          have f0 := nS_le (x := m.kind) (by omega); have f2 := nS_le (x := m.dest) (by omega); have f3 := nS_le (x := m.id) (by omega); have f4 := nS_le (x := m.origin) (by omega); have f5 := nS_le (x := m.number) (by omega)
          simp only [bodyS, if_neg k1, if_neg k2, if_neg k3, if_pos k4, List.length_append]
          omega
        · rw [if_neg k4] at hf
          by_cases k5 : m.kind = 5
          · rw [if_pos k5] at hf
            obtain ⟨h1, h2, h3, h4, h5⟩ := hf
            unfold modeI at h4
            have f0 := nS_le (x := m.kind) (by omega); have f2 := nS_le (x := m.dest) (by omega); have f3 := nS_le (x := m.mode) (by omega); have f4 := textS_le (hvp _ h3); have f5 := cS_le h5
            simp only [bodyS, if_neg k1, if_neg k2, if_neg k3, if_neg k4, if_pos k5, List.length_append]
            omega
          · rw [if_neg k5] at hf; exact hf.elim
end Go.Proofs.YtbnpdghfbiacaaaGreat
