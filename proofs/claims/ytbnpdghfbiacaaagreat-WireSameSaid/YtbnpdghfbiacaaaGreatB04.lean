/- Several texts of this claim in one. No condition beyond what each theorem states. -/
import Derived.Lib.SplitLaws
import Derived.Lib.Join
import Derived.Lib.Strings
import Derived.Lib.IndexBytes
import Derived.Lib.Split
import Derived.Test.YtbnpdghfbiacaaaGreatB02
import Derived.Test.YtbnpdghfbiacaaaGreatB03
/- Plain laws on paths as lists of bytes: no program in sight. -/
namespace Go.Proofs.YtbnpdghfbiacaaaGreat
open Go

abbrev Bytes := List UInt8

/-- a letter of a segment -/
def okC (c : UInt8) : Bool := (decide (97 ≤ c.toNat) && decide (c.toNat ≤ 122)) || (decide (48 ≤ c.toNat) && decide (c.toNat ≤ 57))
/-- a segment -/
def segB (x : Bytes) : Bool := decide (1 ≤ x.length) && decide (x.length ≤ 6) && x.all okC
/-- what fine computes, n letters into a segment -/
def fineL : Bytes → Nat → Bool
  | [], n => decide (0 < n ∧ n ≤ 6)
  | c :: r, n => if c.toNat = 47 then (if n = 0 then false else fineL r 0) else if okC c then (if 6 ≤ n then false else fineL r (n + 1)) else false
/-- the pieces between the strokes -/
def segs : Bytes → List Bytes
  | [] => [[]]
  | c :: r => if c.toNat = 47 then [] :: segs r else match segs r with | [] => [[c]] | x :: t => (c :: x) :: t
/-- the segments of a path -/
def path (l : Bytes) : Option (List Bytes) := if l = [] then some [] else if (segs l).all segB && decide ((segs l).length ≤ 4) then some (segs l) else none

theorem segs_ne (l : Bytes) : segs l ≠ [] := by
  cases l with
  | nil => simp [segs]
  | cons c r =>
    unfold segs
    split
    · simp
    · split <;> simp

theorem fineL_iff : ∀ (l : Bytes) (n : Nat), n ≤ 6 → (fineL l n = true ↔ ∃ x t, segs l = x :: t ∧ 1 ≤ n + x.length ∧ n + x.length ≤ 6 ∧ x.all okC = true ∧ t.all segB = true)
  | [], n, hn => by
    simp only [fineL, segs, decide_eq_true_eq]
    constructor
    · intro h
      exact ⟨[], [], rfl, by simp; omega, by simp; omega, rfl, rfl⟩
    · rintro ⟨x, t, h, h1, h2, _⟩
      simp at h
      obtain ⟨rfl, rfl⟩ := h
      simp at h1 h2
      omega
  | c :: r, n, hn => by
    unfold fineL segs
    by_cases hc : c.toNat = 47
    · rw [if_pos hc, if_pos hc]
      by_cases h0 : n = 0
      · subst h0
        rw [if_pos rfl]
        constructor
        · intro h; cases h
        · rintro ⟨x, t, h, h1, _⟩
          simp at h
          obtain ⟨rfl, rfl⟩ := h
          simp at h1
      · rw [if_neg h0, fineL_iff r 0 (by omega)]
        constructor
        · rintro ⟨x, t, h, h1, h2, h3, h4⟩
          refine ⟨[], segs r, rfl, by simp; omega, by simp; omega, rfl, ?_⟩
          rw [h]
          simp only [List.all_cons, Bool.and_eq_true, segB, decide_eq_true_eq]
          exact ⟨⟨⟨by omega, by omega⟩, h3⟩, h4⟩
        · rintro ⟨x, t, h, h1, h2, h3, h4⟩
          simp at h
          obtain ⟨rfl, rfl⟩ := h
          cases hs : segs r with
          | nil => exact absurd hs (segs_ne r)
          | cons y u =>
            rw [hs] at h4
            simp only [List.all_cons, Bool.and_eq_true, segB, decide_eq_true_eq] at h4
            exact ⟨y, u, rfl, by omega, by omega, h4.1.2, h4.2⟩
    · rw [if_neg hc, if_neg hc]
      cases hs : segs r with
      | nil => exact absurd hs (segs_ne r)
      | cons y u =>
        simp only
        by_cases hok : okC c = true
        · rw [if_pos hok]
          by_cases h6 : 6 ≤ n
          · rw [if_pos h6]
            constructor
            · intro h; cases h
            · rintro ⟨x, t, h, h1, h2, _⟩
              simp at h
              obtain ⟨rfl, rfl⟩ := h
              simp at h2
              omega
          · rw [if_neg h6, fineL_iff r (n + 1) (by omega)]
            constructor
            · rintro ⟨x, t, h, h1, h2, h3, h4⟩
              rw [hs] at h
              simp at h
              obtain ⟨rfl, rfl⟩ := h
              exact ⟨c :: y, u, rfl, by simp; omega, by simp; omega, by simp [hok]; simpa using h3, h4⟩
            · rintro ⟨x, t, h, h1, h2, h3, h4⟩
              simp at h
              obtain ⟨rfl, rfl⟩ := h
              simp at h1 h2
              exact ⟨y, u, hs, by omega, by omega, by simp [hok] at h3; simpa using h3, h4⟩
        · rw [if_neg hok]
          constructor
          · intro h; cases h
          · rintro ⟨x, t, h, h1, h2, h3, h4⟩
            simp at h
            obtain ⟨rfl, rfl⟩ := h
            simp at h3
            exact absurd h3.1 hok

theorem fine_segs (l : Bytes) : fineL l 0 = (segs l).all segB := by
  rw [Bool.eq_iff_iff, fineL_iff l 0 (by omega)]
  constructor
  · rintro ⟨x, t, h, h1, h2, h3, h4⟩
    rw [h]
    simp only [List.all_cons, Bool.and_eq_true, segB, decide_eq_true_eq]
    exact ⟨⟨⟨by omega, by omega⟩, h3⟩, h4⟩
  · intro h
    cases hs : segs l with
    | nil => exact absurd hs (segs_ne l)
    | cons y u =>
      rw [hs] at h
      simp only [List.all_cons, Bool.and_eq_true, segB, decide_eq_true_eq] at h
      exact ⟨y, u, rfl, by omega, by omega, h.1.2, h.2⟩

theorem segs_length (l : Bytes) : (segs l).length = l.count 47 + 1 := by
  induction l with
  | nil => simp [segs]
  | cons c r ih =>
    unfold segs
    by_cases hc : c.toNat = 47
    · have : c = 47 := UInt8.toNat_inj.1 hc
      subst this
      rw [if_pos hc]; simp [ih]
    · have : c ≠ 47 := fun e => hc (by rw [e]; rfl)
      rw [if_neg hc, List.count_cons_of_ne this]
      cases hs : segs r with
      | nil => exact absurd hs (segs_ne r)
      | cons y u => rw [← ih, hs]; simp

theorem path_nil : path [] = some [] := by simp [path]
theorem path_ne {l : Bytes} (h : l ≠ []) : path l = if fineL l 0 = true ∧ l.count 47 < 4 then some (segs l) else none := by
  unfold path
  rw [if_neg h, ← fine_segs, segs_length]
  by_cases hf : fineL l 0 = true <;> by_cases hc : l.count 47 < 4 <;> simp [hf, hc] <;> omega
theorem path_isSome_iff {l : Bytes} (h : l ≠ []) : (path l).isSome = true ↔ fineL l 0 = true ∧ l.count 47 < 4 := by
  rw [path_ne h]; split <;> simp [*]

theorem segs_sum (l : Bytes) : ((segs l).map fun x => x.length + 1).sum = l.length + 1 := by
  induction l with
  | nil => simp [segs]
  | cons c r ih =>
    unfold segs
    split
    · simp [ih]; omega
    · cases hs : segs r with
      | nil => exact absurd hs (segs_ne r)
      | cons y u => rw [hs] at ih; simp at ih ⊢; omega
theorem sum_le : ∀ (L : List Bytes), L.all segB = true → (L.map fun x => x.length + 1).sum ≤ 7 * L.length
  | [], _ => by simp
  | x :: t, h => by
    simp only [List.all_cons, Bool.and_eq_true, segB, decide_eq_true_eq] at h
    have := sum_le t h.2
    simp only [List.map_cons, List.sum_cons, List.length_cons]
    omega
/-- a path is short -/
theorem path_len {l : Bytes} (h : (path l).isSome = true) : l.length ≤ 27 := by
  unfold path at h
  split at h
  · rename_i e; subst e; simp
  · split at h
    · rename_i e
      simp only [Bool.and_eq_true, decide_eq_true_eq] at e
      have := sum_le _ e.1
      rw [segs_sum] at this
      omega
    · simp at h

theorem splitK_ne (c : UInt8) (r : Bytes) (hc : c ≠ 47) (k : Nat) : Lib.splitK [47] 0 k (c :: r) = match Lib.splitK [47] 0 k r with | [] => [] | x :: t => (c :: x) :: t := by
  cases k with
  | zero => rfl
  | succ k =>
    have hge := Lib.indexByte_ge r 47
    have hi : Lib.index (c :: r) [47] = if Lib.index r [47] = -1 then -1 else Lib.index r [47] + 1 := by
      rw [Lib.index_one, Lib.index_one, Lib.indexByte]
      have : (c == 47) = false := by simpa using hc
      rw [this]; simp
    unfold Lib.splitK
    rw [hi]
    rw [Lib.index_one] at *
    by_cases h : Lib.indexByte r 47 = -1
    · rw [if_pos h]; simp [h]
    · rw [if_neg h]
      have h1 : (Lib.indexByte r 47 + 1 == -1) = false := by simp; omega
      have h2 : (Lib.indexByte r 47 == -1) = false := by simpa using h
      have h3 : (Lib.indexByte r 47 + 1).toNat = (Lib.indexByte r 47).toNat + 1 := by omega
      simp [h1, h2, h3]
theorem splitK_segs : ∀ l : Bytes, Lib.splitK [47] 0 (l.count 47) l = segs l
  | [] => rfl
  | c :: r => by
    unfold segs
    by_cases hc : c.toNat = 47
    · have : c = 47 := UInt8.toNat_inj.1 hc
      subst this
      rw [if_pos hc, ← splitK_segs r, List.count_cons_self]
      have hi : Lib.index (47 :: r) [47] = 0 := by rw [Lib.index_one, Lib.indexByte]; simp
      conv => lhs; unfold Lib.splitK
      rw [hi]; simp
    · have h : c ≠ 47 := fun e => hc (by rw [e]; rfl)
      rw [if_neg hc, List.count_cons_of_ne h, splitK_ne c r h, splitK_segs r]
      cases hs : segs r with
      | nil => exact absurd hs (segs_ne r)
      | cons y u => rfl

theorem indexByte_mem (c : UInt8) : ∀ l : Bytes, 0 ≤ Lib.indexByte l c ↔ c ∈ l
  | [] => by simp [Lib.indexByte]
  | b :: l => by
    unfold Lib.indexByte
    by_cases h : b = c
    · subst h; simp
    · have h1 : (b == c) = false := by simpa using h
      have := Lib.indexByte_ge l c
      have ih := indexByte_mem c l
      rw [h1]
      simp only [Bool.false_eq_true, if_false, List.mem_cons]
      by_cases h2 : Lib.indexByte l c = -1
      · simp only [h2, BEq.rfl, if_true]
        have : ¬ c ∈ l := fun m => by have := ih.2 m; omega
        simp [this, Ne.symm h]
      · have h3 : (Lib.indexByte l c == -1) = false := by simpa using h2
        rw [h3]
        simp only [Bool.false_eq_true, if_false]
        have hm : c ∈ l := ih.1 (by omega)
        simp [hm]; omega
/-- a piece without a stroke -/
theorem segs_none {x : Bytes} (h : (47 : UInt8) ∉ x) : segs x = [x] := by
  induction x with
  | nil => rfl
  | cons c r ih =>
    simp at h
    unfold segs
    have hc : ¬ c.toNat = 47 := fun e => h.1 (UInt8.toNat_inj.1 e).symm
    rw [if_neg hc, ih h.2]
theorem segs_append {x : Bytes} (y : Bytes) (h : (47 : UInt8) ∉ x) : segs (x ++ 47 :: y) = x :: segs y := by
  induction x with
  | nil => rfl
  | cons c r ih =>
    simp at h
    have hc : ¬ c.toNat = 47 := fun e => h.1 (UInt8.toNat_inj.1 e).symm
    rw [List.cons_append, segs, if_neg hc, ih h.2]
theorem okC_ne {c : UInt8} (h : okC c = true) : c ≠ 47 := by
  rintro rfl
  exact absurd h (by decide)
theorem segB_none {x : Bytes} (h : segB x = true) : (47 : UInt8) ∉ x := by
  intro m
  simp only [segB, Bool.and_eq_true] at h
  exact okC_ne (List.all_eq_true.1 h.2 47 m) rfl
theorem segB_fine (x : Bytes) : segB x = (decide ((47 : UInt8) ∉ x) && fineL x 0) := by
  rw [fine_segs]
  by_cases h : (47 : UInt8) ∈ x
  · have : ¬ segB x = true := fun e => segB_none e h
    simp [h, this]
  · rw [segs_none h]; simp [h]
/-- joining gives a list of pieces whose pieces are these -/
theorem segs_join : ∀ (L : List Bytes), L ≠ [] → L.all segB = true → segs (Lib.join L [47]) = L
  | [], h, _ => absurd rfl h
  | [x], _, h => by
    simp at h
    rw [Lib.join_one, segs_none (segB_none h)]
  | x :: y :: t, _, h => by
    have hx : segB x = true := by simp at h; exact h.1
    have hr : (y :: t).all segB = true := by simp at h ⊢; exact h.2
    have e : Lib.join (x :: y :: t) [47] = x ++ 47 :: Lib.join (y :: t) [47] := by simp [Lib.join, List.intercalate]
    rw [e, segs_append _ (segB_none hx), segs_join (y :: t) (by simp) hr]
theorem join_segs : ∀ (l : Bytes), Lib.join (segs l) [47] = l
  | [] => by simp [segs, Lib.join, List.intercalate]
  | c :: r => by
    unfold segs
    have ih := join_segs r
    cases hs : segs r with
    | nil => exact absurd hs (segs_ne r)
    | cons y u =>
      rw [hs] at ih
      by_cases hc : c.toNat = 47
      · have : c = 47 := UInt8.toNat_inj.1 hc
        subst this
        rw [if_pos hc]
        have e : Lib.join ([] :: y :: u) [47] = 47 :: Lib.join (y :: u) [47] := by simp [Lib.join, List.intercalate]
        rw [e, ih]
      · rw [if_neg hc]
        cases u with
        | nil => simp [Lib.join, List.intercalate] at ih ⊢; exact ih
        | cons z v =>
          have e : Lib.join ((c :: y) :: z :: v) [47] = c :: Lib.join (y :: z :: v) [47] := by simp [Lib.join, List.intercalate]
          simp only
          rw [e, ih]
end Go.Proofs.YtbnpdghfbiacaaaGreat

/- Messages and fields in memory (wire). No condition beyond what each theorem states. -/
namespace Go.Proofs.YtbnpdghfbiacaaaGreat
open Go Go.RowKit Go.PlainAid

/-- a slice of ints whose block is of ints -/
def SlI (w : World) (v : Value) (L : List Int) : Prop := ∃ A c, v = .slice A L.length c ∧ L.length ≤ c ∧ (L ≠ [] → ∃ g o cs, A = some ⟨g, o, none⟩ ∧ Bk w g 3 cs ∧ w.rangeAt g o (ints L))
theorem SlI.arg {w : World} {v : Value} {L : List Int} (h : SlI w v L) : ArgInts w v L := by
  obtain ⟨A, c, e, hc, h⟩ := h
  refine ⟨A, c, e, hc, fun hx => ?_⟩
  obtain ⟨g, o, cs, e1, _, h2⟩ := h (fun e => hx (by rw [e]; rfl))
  exact ⟨g, o, e1, h2⟩
theorem SlI.kp {w w' : World} {v : Value} {L : List Int} {M : Nat → Prop} (h : SlI w v L) (hk : Kp M w w') (hm : ∀ g cs, Bk w g 3 cs → ¬ M g) : SlI w' v L := by
  obtain ⟨A, c, e, hc, h⟩ := h
  refine ⟨A, c, e, hc, fun hx => ?_⟩
  obtain ⟨g, o, cs, e1, h1, h2⟩ := h hx
  exact ⟨g, o, cs, e1, h1.kp hk (hm g cs h1), range_kp h2 hk (hm g cs h1)⟩
theorem SlI.no {w w' : World} {v : Value} {L : List Int} (h : SlI w v L) (hk : Kp No w w') : SlI w' v L := h.kp hk fun _ _ _ m => m
theorem SlI.nil (w : World) (A : Option Addr) (c : Nat) : SlI w (.slice A 0 c) [] := ⟨A, c, rfl, Nat.zero_le _, fun h => absurd rfl h⟩
theorem own_bk {w : World} {B n size : Nat} {t : TypeId} {v : Value} {xs : List Value} (h : w.ownsRow B t size v n xs) : ∀ g, v.ownBlock = some g → ∃ cs, Bk w g t cs := by
  intro g hg
  rcases h.2 with ⟨e, _⟩ | ⟨g', cap, cur, e, _, hh, _⟩
  · rw [e] at hg; simp [Value.ownBlock] at hg
  · rw [e] at hg
    have : g' = g := by simpa [Value.ownBlock] using hg
    subst this
    exact ⟨cur.toList, by unfold Bk; rw [hh]⟩
theorem own_slI {w : World} {B : Nat} {v : Value} {L : List Int} (h : w.ownsRow B 3 1 v L.length (ints L)) : SlI w v L := by
  obtain ⟨A, c, e, hc⟩ := own_len h
  refine ⟨A, c, e, hc, fun hx => ?_⟩
  obtain ⟨g, cap, e2, _⟩ := own_form h (List.length_pos_iff.2 hx)
  rw [e] at e2
  injection e2 with e3 _ _
  obtain ⟨cs, hb⟩ := own_bk h g (by rw [e, e3]; rfl)
  refine ⟨g, 0, cs, e3, hb, ?_⟩
  have ha := own_argI h
  obtain ⟨g', o', c', e4, hr⟩ := ha.at_ (List.length_pos_iff.2 hx)
  rcases h.2 with ⟨e5, _⟩ | ⟨g5, cap5, cur5, e5, _⟩
  · rw [e, e3] at e5; cases e5
  · intro j v hv
    have := h.cells (g := g) (by rw [e, e3]; rfl) j v hv
    rwa [Addr.add_mid] at this

/-- the blocks of M are of these types -/
def Tys (M : Nat → Prop) (w : World) (ts : List TypeId) : Prop := ∀ k, M k → k < w.heap.size → ∃ t cs, Bk w k t cs ∧ t ∈ ts
theorem Tys.not {M : Nat → Prop} {w : World} {ts : List TypeId} (h : Tys M w ts) {g : Nat} {t : TypeId} {cs : List Value} (hb : Bk w g t cs) (ht : t ∉ ts) : ¬ M g := fun m => by
  obtain ⟨t', cs', hb', hm⟩ := h g m hb.lt
  by_cases e : t = t'
  · subst e; exact ht hm
  · exact hb.ne_ hb' e rfl
theorem wrm_tys {w : World} {b B : Nat} {v : Value} {l : List UInt8} (h : WrB w b B v l) : Tys (WrM b v) w [75, 5] := by
  rintro k (rfl | hm) hk
  · exact ⟨_, _, h.1, by simp⟩
  · obtain ⟨cs, hb⟩ := own_bk h.2 k hm
    exact ⟨_, cs, hb, by simp⟩
theorem no_tys (w : World) (ts : List TypeId) : Tys No w ts := fun _ m => m.elim

/-- the types of what the fields' functions have captured -/
def FT : List TypeId := [108, 109, 83, 86, 90, 94, 87, 91, 63, 112, 114]
/-- what the fields' functions have captured stays -/
def Stay (w w' : World) : Prop := w.heap.size ≤ w'.heap.size ∧ ∀ k t cs, t ∈ FT → Bk w k t cs → Bk w' k t cs
theorem Stay.refl (w : World) : Stay w w := ⟨Nat.le_refl _, fun _ _ _ _ h => h⟩
theorem Stay.trans {a b c : World} (h : Stay a b) (k : Stay b c) : Stay a c := ⟨Nat.le_trans h.1 k.1, fun g t cs ht hb => k.2 g t cs ht (h.2 g t cs ht hb)⟩
theorem Stay.of_kp {M : Nat → Prop} {w w' : World} {ts : List TypeId} (hk : Kp M w w') (ht : Tys M w ts) (hf : ∀ t ∈ FT, t ∉ ts) : Stay w w' :=
  ⟨hk.size, fun _k t _cs h hb => hb.kp hk (ht.not hb (hf t h))⟩
theorem Stay.no {w w' : World} (hk : Kp No w w') : Stay w w' := Stay.of_kp hk (no_tys w []) (by simp)
theorem Stay.bk {w w' : World} (h : Stay w w') {k : Nat} {t : TypeId} {cs : List Value} (hb : Bk w k t cs) (ht : t ∈ FT) : Bk w' k t cs := h.2 k t cs ht hb

/-- a message's cells -/
def mcells (m : Msg) (sv : Value) : List Value := [.int .i64 m.kind, .int .i64 m.from_, .int .i64 m.dest, .int .i64 m.boot, .int .i64 m.seq, .int .i64 m.low, .int .i64 m.verb, .string ⟨m.path.toArray⟩, .int .i64 m.mode, .int .i64 m.term, .int .i64 m.id, .bool m.fresh, .int .i64 m.code, sv, .int .i64 m.origin, .int .i64 m.number]
def MsgB (w : World) (g : Nat) (m : Msg) (sv : Value) : Prop := Bk w g 28 (mcells m sv) ∧ SlI w sv m.stamp
theorem MsgB.kp {w w' : World} {g : Nat} {m : Msg} {sv : Value} {M : Nat → Prop} (h : MsgB w g m sv) (hk : Kp M w w') (h1 : ¬ M g) (h2 : ∀ k cs, Bk w k 3 cs → ¬ M k) : MsgB w' g m sv := ⟨h.1.kp hk h1, h.2.kp hk h2⟩
theorem MsgB.tys {w w' : World} {g : Nat} {m : Msg} {sv : Value} {M : Nat → Prop} {ts : List TypeId} (h : MsgB w g m sv) (hk : Kp M w w') (ht : Tys M w ts) (h1 : 28 ∉ ts) (h2 : 3 ∉ ts) : MsgB w' g m sv :=
  h.kp hk (ht.not h.1 h1) fun _ _ hb => ht.not hb h2
theorem MsgB.no {w w' : World} {g : Nat} {m : Msg} {sv : Value} (h : MsgB w g m sv) (hk : Kp No w w') : MsgB w' g m sv := h.kp hk (fun m => m) fun _ _ _ m => m
/-- its numbers are ints -/
def Rng (m : Msg) : Prop := (∀ x ∈ [m.kind, m.from_, m.dest, m.boot, m.seq, m.low, m.verb, m.mode, m.term, m.id, m.code, m.origin, m.number], x < 9223372036854775808) ∧ (∀ x ∈ m.stamp, x < 9223372036854775808)
/-- its text and list are no longer than n -/
def Short (n : Nat) (m : Msg) : Prop := m.path.length ≤ n ∧ m.stamp.length ≤ n
theorem Short.mono {n k : Nat} {m : Msg} (h : Short n m) (hn : n ≤ k) : Short k m := ⟨Nat.le_trans h.1 hn, Nat.le_trans h.2 hn⟩

/-- a field's three functions, each with what it has captured -/
structure FV where
  wn : Nat
  wc : Array Value
  rn : Nat
  rc : Array Value
  fn : Nat
  fc : Array Value
def FV.cells (v : FV) : List Value := [.func (.func v.wn) #[] v.wc, .func (.func v.rn) #[] v.rc, .func (.func v.fn) #[] v.fc]
/-- function n is one of the program's own -/
def Ent (n : Nat) : Prop := ∀ (args : Array Value) (w : World), (callFunc n args).run Tryz.prog w = .ok (.enter n args) w
def RdM (g : Nat) (sv : Value) (b : Nat) : Nat → Prop := fun k => k = b ∨ k = g ∨ sv.ownBlock = some k
def RdAft (W : World) (g : Nat) (sv : Value) (b B : Nat) (m' : Msg) (s' : Rd) (w' : World) : Prop :=
  ∃ sv', Bk w' g 28 (mcells m' sv') ∧ w'.ownsRow B 3 1 sv' m'.stamp.length (ints m'.stamp) ∧ RdS w' b s' ∧ Kp (RdM g sv b) W w' ∧ ∀ k, sv'.ownBlock = some k → sv.ownBlock = some k ∨ W.heap.size ≤ k
/-- the three functions do, whatever is done meanwhile, what the field says -/
structure FOk (w : World) (v : FV) (s : Fld) : Prop where
  we : Ent v.wn
  re : Ent v.rn
  fe : Ent v.fn
  write : ∀ W, Stay w W → ∀ g m sv b B u l, MsgB W g m sv → Rng m → (s.out m).length ≤ 10000 → WrB W b B u l → B ≤ W.heap.size → l.length ≤ 100000 →
    Calls Tryz.prog v.wn (#[.pointer (some ⟨b, 0, none⟩), .pointer (some ⟨g, 0, none⟩)] ++ v.wc) W fun e w' => e = .returned (.tuple #[]) ∧ WrAft W b B u (l ++ s.out m) w'
  read : ∀ W, Stay w W → ∀ g m sv b s0 B, Bk W g 28 (mcells m sv) → W.ownsRow B 3 1 sv m.stamp.length (ints m.stamp) → RdS W b s0 → B ≤ W.heap.size → s0.1.length ≤ 1000 → Short 1000 m →
    Calls Tryz.prog v.rn (#[.pointer (some ⟨b, 0, none⟩), .pointer (some ⟨g, 0, none⟩)] ++ v.rc) W fun e w' => e = .returned (.tuple #[]) ∧ RdAft W g sv b B (s.inn s0 m).1 (s.inn s0 m).2 w'
  fine : ∀ W, Stay w W → ∀ g m sv, MsgB W g m sv → Short maxLen m →
    Calls Tryz.prog v.fn (#[.pointer (some ⟨g, 0, none⟩)] ++ v.fc) W fun e w' => e = .returned (.bool (s.may m)) ∧ Kp No W w'
theorem FOk.stay {w w' : World} {v : FV} {s : Fld} (h : FOk w v s) (hs : Stay w w') : FOk w' v s :=
  ⟨h.we, h.re, h.fe, fun W hW => h.write W (hs.trans hW), fun W hW => h.read W (hs.trans hW), fun W hW => h.fine W (hs.trans hW)⟩
/-- which texts are paths -/
def vpP (l : List UInt8) : Bool := (path l).isSome
theorem vpP_len (l : List UInt8) (h : vpP l = true) : l.length ≤ 27 := path_len h
/-- cell off holds the number that get tells -/
structure NumAt (off : Nat) (get : Msg → Int) (set : Msg → Int → Msg) : Prop where
  cell : ∀ m sv, (mcells m sv)[off]? = some (.int .i64 (get m))
  set_ : ∀ m sv x, (mcells m sv).set off (.int .i64 x) = mcells (set m x) sv
  stamp : ∀ m x, (set m x).stamp = m.stamp
  rng : ∀ m, Rng m → get m < 9223372036854775808
/-- function ga points at cell off of a message -/
def AtOk (ga off : Nat) : Prop := ∀ (W : World) (g : Nat), Calls Tryz.prog ga #[.pointer (some ⟨g, 0, none⟩)] W fun e w' => e = .returned (.pointer (some ⟨g, off, none⟩)) ∧ W = w'
end Go.Proofs.YtbnpdghfbiacaaaGreat
