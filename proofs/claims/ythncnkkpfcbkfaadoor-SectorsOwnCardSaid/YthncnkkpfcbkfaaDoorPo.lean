/- A pool of own rows of bytes, apart from each other, that are written and grown (SectorsOwn). No condition beyond what each theorem states. -/
import Derived.Test.YthncnkkpfcbkfaaDoorTv
import Derived.Test.YthncnkkpfcbkfaaDoorRp
namespace Go.Proofs.YthncnkkpfcbkfaaDoor
open Go Go.RowKit

/-- own rows of bytes, each in a block of zone Z, no two in one block, none longer than m -/
structure Pool (w : World) (Z : Nat → Prop) (m : Nat) (E : List Value) : Prop where
  own : ∀ (i : Nat) (x : Value), E[i]? = some x → ∃ l, OwnB w 0 x l ∧ l.length ≤ m ∧ ∀ g, x.ownBlock = some g → Z g
  apart : ∀ (i j : Nat) (x y : Value) (g : Nat), i ≠ j → E[i]? = some x → E[j]? = some y → x.ownBlock = some g → y.ownBlock ≠ some g
theorem Pool.kp {w w' : World} {Z M : Nat → Prop} {m : Nat} {E : List Value} (h : Pool w Z m E) (hk : Kp M w w') (hM : ∀ (i : Nat) (x : Value) (g : Nat) cs, E[i]? = some x → x.ownBlock = some g → Bk w g 5 cs → ¬ M g) : Pool w' Z m E :=
  ⟨fun i x hx => by
    obtain ⟨l, h1, h2, h3⟩ := h.own i x hx
    exact ⟨l, h1.kp hk (fun g hg => by obtain ⟨_, cs, hb⟩ := own_bk h1 hg; exact hM i x g cs hx hg hb), h2, h3⟩, h.apart⟩
theorem Pool.no {w w' : World} {Z : Nat → Prop} {m : Nat} {E : List Value} (h : Pool w Z m E) (hk : Kp No w w') : Pool w' Z m E := h.kp hk fun _ _ _ _ _ _ _ h => h
theorem Pool.more {w : World} {Z : Nat → Prop} {m m' : Nat} {E : List Value} (h : Pool w Z m E) (hm : m ≤ m') : Pool w Z m' E :=
  ⟨fun i x hx => by obtain ⟨l, h1, h2, h3⟩ := h.own i x hx; exact ⟨l, h1, by omega, h3⟩, h.apart⟩
theorem Pool.holder {w : World} {Z : Nat → Prop} {m : Nat} {E : List Value} {g : Nat} {t : TypeId} {cs : List Value} (h : Pool w Z m E) (hb : Bk w g t cs) (ht : 5 ≠ t) (i : Nat) (u : Value) : Pool (w.setCell ⟨g, i, none⟩ u) Z m E :=
  h.kp (M := One g) ((Kp.refl _ _).set (.inl (One.self _)) _ _) fun _ _ g0 cs0 _ _ hb0 h1 => by
    have e : g0 = g := h1
    subst e
    exact Bk.ne_ hb0 hb ht rfl
theorem OwnB.set {w : World} {B a n c j : Nat} {l : List UInt8} (h : OwnB w B (.slice (some ⟨a, 0, Option.none⟩) n c) l) (u : UInt8) : OwnB (w.setCell ⟨a, j, Option.none⟩ (.int .u8 (u.toNat : Int))) B (.slice (some ⟨a, 0, Option.none⟩) n c) (l.set j u) := by
  unfold OwnB at h ⊢
  have hn : n = l.length := by
    obtain ⟨_, _, e, _⟩ := own_len h
    injection e
  subst hn
  have := (World.ownsRow.stored h j (.int .u8 (u.toNat : Int))).1
  rw [u8s_set] at this
  rw [List.length_set]
  exact this
theorem Pool.store {w : World} {Z : Nat → Prop} {m : Nat} {E : List Value} (h : Pool w Z m E) {i a n c j : Nat} (hi : E[i]? = some (.slice (some ⟨a, 0, none⟩) n c)) (hj : j < n) (z : Int) (hz : 0 ≤ z ∧ z < 256) :
    Pool (w.setCell ⟨a, j, none⟩ (.int .u8 z)) Z m E ∧ (∃ v, w.cell? ⟨a, j, none⟩ = some v) ∧ w.frozen? ⟨a, j, none⟩ = false ∧ Z a ∧ ∃ cs, Bk w a 5 cs := by
  obtain ⟨u, hu⟩ : ∃ u : UInt8, z = (u.toNat : Int) := ⟨UInt8.ofNat z.toNat, by rw [UInt8.toNat_ofNat']; omega⟩
  subst hu
  obtain ⟨l, h1, h2, h3⟩ := h.own i _ hi
  obtain ⟨ds, hbd, htk, _, hlen⟩ := h1.bk
  have hl : n = l.length := by
    obtain ⟨_, _, e, _⟩ := own_len h1
    injection e
  refine ⟨⟨fun i' x hx => ?_, h.apart⟩, ⟨ds[j]'(by omega), by rw [hbd.cell, List.getElem?_eq_getElem]⟩, hbd.frozen j, h3 a rfl, ds, hbd⟩
  by_cases hii : i' = i
  · subst hii
    rw [hi] at hx
    injection hx with hx
    subst hx
    exact ⟨l.set j u, h1.set u, by rw [List.length_set]; exact h2, h3⟩
  · obtain ⟨l', h1', h2', h3'⟩ := h.own i' x hx
    refine ⟨l', h1'.kp (M := One a) ((Kp.refl _ _).set (.inl (One.self _)) _ _) (fun g hg h4 => ?_), h2', h3'⟩
    have e : g = a := h4
    subst e
    exact h.apart i' i x _ g hii hx hi hg rfl
theorem Pool.grow {w w' : World} {Z : Nat → Prop} {m : Nat} {E : List Value} (h : Pool w Z m E) {i : Nat} {x v' : Value} {l l' : List UInt8} (hi : E[i]? = some x) (hx : OwnB w 0 x l) (hl : l.length ≤ m) (hl' : l'.length ≤ l.length + 1) (ho : OwnB w' 0 v' l') (hk : Kp (fun k => x.ownBlock = some k) w w')
    (hg : ∀ g, v'.ownBlock = some g → x.ownBlock = some g ∨ g = w.heap.size) (hz : Z w.heap.size) : Pool w' Z (m + 1) (E.set i v') := by
  have hil : i < E.length := by
    rcases Nat.lt_or_ge i E.length with h' | h'
    · exact h'
    · rw [List.getElem?_eq_none h'] at hi; cases hi
  obtain ⟨l0, _, _, hxz⟩ := h.own i x hi
  have hlt : ∀ (j : Nat) (y : Value) (g : Nat), E[j]? = some y → y.ownBlock = some g → g < w.heap.size := fun j y g hy hyg => by
    obtain ⟨l1, h1, _, _⟩ := h.own j y hy
    obtain ⟨_, cs, hb⟩ := own_bk h1 hyg
    exact hb.lt
  have key : ∀ (j : Nat) (y : Value), j ≠ i → E[j]? = some y → ∀ g, v'.ownBlock = some g → y.ownBlock ≠ some g := fun j y hj hy g hvg hyg => by
    rcases hg g hvg with h1 | h1
    · exact h.apart i j x y g (fun e => hj e.symm) hi hy h1 hyg
    · have := hlt j y g hy hyg; omega
  refine ⟨fun j y hy => ?_, fun j k y z g hjk hy hz' hyg hzg => ?_⟩
  · by_cases hij : i = j
    · subst hij
      rw [List.getElem?_set_self hil] at hy
      injection hy with hy
      subst hy
      refine ⟨l', ho, by omega, fun g hvg => ?_⟩
      rcases hg g hvg with h1 | h1
      · exact hxz g h1
      · rw [h1]; exact hz
    · rw [List.getElem?_set_ne hij] at hy
      obtain ⟨l1, h1, h2, h3⟩ := h.own j y hy
      exact ⟨l1, h1.kp hk (fun g hyg hxg => h.apart i j x y g hij hi hy hxg hyg), by omega, h3⟩
  · by_cases hij : i = j
    · subst hij
      rw [List.getElem?_set_self hil] at hy
      injection hy with hy
      subst hy
      rw [List.getElem?_set_ne hjk] at hz'
      exact key k z (fun e => hjk e.symm) hz' g hyg hzg
    · rw [List.getElem?_set_ne hij] at hy
      by_cases hik : i = k
      · subst hik
        rw [List.getElem?_set_self hil] at hz'
        injection hz' with hz'
        subst hz'
        exact key j y hjk hy g hzg hyg
      · rw [List.getElem?_set_ne hik] at hz'
        exact h.apart j k y z g hjk hy hz' hyg hzg
/-- append(v, x..) of bytes, the new block told -/
theorem wpList_appB3 (w : World) {ops : Array Oper} {rest : List Oper} {o : Oper} {a : Act} {Q : Exit → Act → World → Prop} (hgd : o.guard = none) (s x : Operand)
    (ho : o.op = .call { callee := .builtin .append, args := #[s, x], argTypes := #[26, 26] })
    (base : Nat) (v : Value) (l : List UInt8) (hs : a.eval s = v) (hown : OwnB w base v l) (A : Option Addr) (m c : Nat) (ms : List UInt8) (hx : a.eval x = .slice A m c) (hl : ms.length = m) (hc : Cs w A (u8s ms))
    (hn : l.length + m ≤ 140737488355328) (hbase : base ≤ w.heap.size)
    (h : ∀ A' n' c' w', OwnB w' base (.slice A' n' c') (l ++ ms) → Kp (fun k => v.ownBlock = some k) w w' → (∀ g, (Value.slice A' n' c').ownBlock = some g → v.ownBlock = some g ∨ g = w.heap.size) → wpList Tryd.prog ops Q rest (a.put o.dst (.slice A' n' c')) w') : wpList Tryd.prog ops Q (o :: rest) a w :=
  wpList_appV w hgd s x 26 ho base 5 _ 1 Tryd.underlying26 Tryd.infoByte rfl v l.length (u8s l) hs hown A m c (u8s ms) hx (by rw [u8s_length]; exact hl) hc (u8s_one _) (by omega) (by omega) hbase
    fun v' w' o1 k1 hg => by
      have ob : OwnB w' base v' (l ++ ms) := own_of o1 rfl
      obtain ⟨A', c', e, _⟩ := own_len ob
      subst e
      exact h _ _ _ w' ob k1 hg
theorem parts_ne2 (gen seq : Nat) (hg : 1 ≤ gen) (hg2 : gen ≤ 1073741824) (hs : seq ≤ 1073741824) (data : List UInt8) (hd : data.length ≤ 188) {i j : Nat} (hi : i < (partsS gen seq data).length) (hj : j < (partsS gen seq data).length) (hne : i ≠ j) : (partsS gen seq data)[i] ≠ (partsS gen seq data)[j] := fun e => by
  rw [partsS_length] at hi hj
  simp only [partsS, List.getElem_map, List.getElem_range] at e
  have := congrArg readS e
  rw [readS_layS _ (okPt_piece data hg hg2 hs hd hi), readS_layS _ (okPt_piece data hg hg2 hs hd hj)] at this
  injection this with _ _ h
  exact hne h
/-- a record packed alone is scanned to itself if its number is 0, else to none -/
theorem scan_one (s : Nat) (hs : s ≤ 1073741824) (d : List UInt8) (hd : d.length ≤ 188) : scanS (partsS 3 s d) 3 = if s = 0 then ([d], chunkN d) else ([], 0) := by
  by_cases h : s = 0
  · subst h
    rw [if_pos rfl]
    have h := scanS_packL 3 (by omega) (by omega) [d] [] (by intro e he; rw [List.mem_singleton.1 he]; exact hd) (by simp) (oneS_out (by simp))
    simpa [packL, partsS_length] using h
  · rw [if_neg h]
    refine scan_stop (used := 0) (recs := []) rfl (by simp) (oneS_none ?_)
    have h0 : 0 < chunkN d := chunk_pos d
    unfold partS
    have e : (partsS 3 s d)[0]? = some (layS ⟨3, s, 0, chunkN d, pieceS d 0⟩) := by simp [partsS, h0]
    rw [e]
    simp only
    rw [lookS_layS _ (okPt_piece d (by omega) (by omega) hs hd h0)]
    simp only
    rw [if_neg (fun hh => h hh.2.1)]
/-- rows made between B and U -/
theorem Rows.zone {w0 w w' : World} {B : Nat} {v : Value} {L : List (List UInt8)} {M : Nat → Prop} (h : Rows w0 B v L) (h1 : Kp No w0 w) (hk : Kp M w w') (hM : ∀ g, B ≤ g → g < w0.heap.size → ¬ M g) : Rows w' B v L := by
  obtain ⟨xs, hown, hr⟩ := h
  refine ⟨xs, own_kp (own_kp hown h1 (fun _ _ m => m)) hk (fun g hg => ?_), fun i hi => ?_⟩
  · obtain ⟨hb, cs, hbk⟩ := own_bk hown hg
    exact hM g hb hbk.lt
  · obtain ⟨x, hx, hox⟩ := hr i hi
    refine ⟨x, hx, (hox.no h1).kp hk fun g hg => ?_⟩
    obtain ⟨hb, cs, hbk⟩ := own_bk hox hg
    exact hM g hb hbk.lt
theorem OwnB.zone {w0 w w' : World} {B : Nat} {v : Value} {l : List UInt8} {M : Nat → Prop} (h : OwnB w0 B v l) (h1 : Kp No w0 w) (hk : Kp M w w') (hM : ∀ g, B ≤ g → g < w0.heap.size → ¬ M g) : OwnB w' B v l :=
  (h.no h1).kp hk fun g hg => by
    obtain ⟨hb, cs, hbk⟩ := own_bk h hg
    exact hM g hb hbk.lt
/-- v[:h] -/
theorem slice_to (gf n h c : Nat) (h1 : h ≤ c) (h2 : 0 < c) (W : World) : (Instr.slice 26 (.slice (some ⟨gf, 0, none⟩) n c) none (some (.int .i64 (h : Int))) none).run Tryd.prog W = .ok (.slice (some ⟨gf, 0, none⟩) h c) W := by
  rw [run_slice_h (P := Tryd.prog) W 26 (some ⟨gf, 0, none⟩) n c Tryd.underlying26 .i64 (h : Int) (by omega) (by omega)]
  have : (sizeOf (Tryd.prog.elem 26)).run Tryd.prog W = .ok 1 W := by kernel_rfl
  rw [this]
  simp [Result.andThen, sliced, show ¬ c = 0 by omega, Addr.add]
/-- the blocks that may change: three stretches, and all that is new -/
def OZ (a b c d e f h : Nat) : Nat → Prop := fun g => (a ≤ g ∧ g < b) ∨ (c ≤ g ∧ g < d) ∨ (e ≤ g ∧ g < f) ∨ h ≤ g
def blk : Option Addr → Nat
  | some a => a.block
  | none => 0
theorem ownBlock_slice {A : Option Addr} {n c g : Nat} (h : (Value.slice A n c).ownBlock = some g) : ∃ s o, A = some ⟨g, o, s⟩ := by
  cases A with
  | none => simp [Value.ownBlock] at h
  | some a =>
    obtain ⟨b, o, s⟩ := a
    simp only [Value.ownBlock] at h
    injection h with h
    subst h
    exact ⟨_, _, rfl⟩
theorem Pool.start {W : World} {a1 b1 c1 d1 e1 f1 h1 : Nat} (o1 : b1 ≤ c1) (o2 : d1 ≤ e1) (o3 : c1 ≤ d1) {P : List (List UInt8)} {xs : List Value} (hxl : xs.length = P.length)
    (hx : ∀ i (hi : i < P.length), ∃ a k, xs[i]? = some (.slice (some ⟨a, 0, Option.none⟩) 64 k) ∧ OwnB W 0 (.slice (some ⟨a, 0, Option.none⟩) 64 k) P[i] ∧ a1 ≤ a ∧ a < b1)
    (h64 : ∀ i (hi : i < P.length), P[i].length = 64) (hne : ∀ i j (hi : i < P.length) (hj : j < P.length), i ≠ j → P[i] ≠ P[j])
    {pv : Value} {lp : List UInt8} (hp : OwnB W 0 pv lp) (hpl : lp.length ≤ 188) (hpz : ∀ g, pv.ownBlock = some g → c1 ≤ g ∧ g < d1)
    {rs : List Value} (hK : rs.length ≤ 1) (hr : ∀ (i : Nat) x, rs[i]? = some x → ∃ l, OwnB W 0 x l ∧ l.length ≤ 188 ∧ ∀ g, x.ownBlock = some g → e1 ≤ g ∧ g < f1) :
    Pool W (OZ a1 b1 c1 d1 e1 f1 h1) 188 (xs ++ pv :: rs) := by
  have key : ∀ (i : Nat) (x : Value), (xs ++ pv :: rs)[i]? = some x → (∃ (hi : i < P.length) (a k : Nat), x = .slice (some ⟨a, 0, Option.none⟩) 64 k ∧ OwnB W 0 x P[i] ∧ a1 ≤ a ∧ a < b1) ∨ (i = P.length ∧ x = pv) ∨ (i = P.length + 1 ∧ ∃ l, OwnB W 0 x l ∧ l.length ≤ 188 ∧ ∀ g, x.ownBlock = some g → e1 ≤ g ∧ g < f1) := by
    intro i x hxi
    by_cases h1 : i < P.length
    · left
      rw [List.getElem?_append_left (by omega)] at hxi
      obtain ⟨a, k, h2, h3, h4⟩ := hx i h1
      rw [h2] at hxi
      injection hxi with hxi
      subst hxi
      exact ⟨h1, a, k, rfl, h3, h4⟩
    · right
      rw [List.getElem?_append_right (by omega)] at hxi
      by_cases h2 : i = P.length
      · left
        rw [hxl, h2, Nat.sub_self, List.getElem?_cons_zero] at hxi
        injection hxi with hxi
        exact ⟨h2, hxi.symm⟩
      · right
        obtain ⟨j, hj⟩ : ∃ j, i - xs.length = j + 1 := ⟨i - xs.length - 1, by omega⟩
        rw [hj, List.getElem?_cons_succ] at hxi
        have hjl : j < rs.length := (List.getElem?_eq_some_iff.1 hxi).1
        exact ⟨by omega, hr j x hxi⟩
  have bl : ∀ (a k g : Nat), (Value.slice (some ⟨a, 0, Option.none⟩) 64 k).ownBlock = some g → a = g := fun a k g h => by simpa [Value.ownBlock] using h
  refine ⟨fun i x hxi => ?_, fun i j x y g hij hxi hyj hxg hyg => ?_⟩
  · rcases key i x hxi with ⟨hi, a, k, rfl, h2, h3, h4⟩ | ⟨_, rfl⟩ | ⟨_, l, h2, h3, h4⟩
    · exact ⟨_, h2, by rw [h64 i hi]; omega, fun g hg => by have := bl a k g hg; subst this; exact .inl ⟨h3, h4⟩⟩
    · exact ⟨_, hp, hpl, fun g hg => .inr (.inl (hpz g hg))⟩
    · exact ⟨l, h2, h3, fun g hg => .inr (.inr (.inl (h4 g hg)))⟩
  · rcases key i x hxi with ⟨hi, a, k, rfl, h2, h3, h4⟩ | ⟨e1', rfl⟩ | ⟨e1', l, h2, h3, h4⟩ <;> rcases key j y hyj with ⟨hi', a', k', rfl, h2', h3', h4'⟩ | ⟨e2', rfl⟩ | ⟨e2', l', h2', h3', h4'⟩
    · have q1 := bl a k g hxg
      have q2 := bl a' k' g hyg
      subst q1 q2
      exact hne i j hi hi' hij (own_same (own_argB h2) (own_argB h2'))
    · have q1 := bl a k g hxg; have := hpz g hyg; omega
    · have q1 := bl a k g hxg; have := h4' g hyg; omega
    · have q1 := bl a' k' g hyg; have := hpz g hxg; omega
    · omega
    · have := hpz g hxg; have := h4' g hyg; omega
    · have q1 := bl a' k' g hyg; have := h4 g hxg; omega
    · have := hpz g hyg; have := h4 g hxg; omega
    · omega
end Go.Proofs.YthncnkkpfcbkfaaDoor
