/- Messages and fields in memory (wire). No condition beyond what each theorem states. -/
import Derived.Test.YtbnpdghfbiacaaaFl
import Derived.Test.YtbnpdghfbiacaaaRs
import Derived.Test.YtbnpdghfbiacaaaWx
import Derived.Test.YtbnpdghfbiacaaaPl
namespace Go.Proofs.Ytbnpdghfbiacaaa
open Go Go.RowKit Go.PlainAid

/-- a slice of ints whose block is of ints -/
def SlI (w : World) (v : Value) (L : List Int) : Prop := ∃ A c, v = .slice A L.length c ∧ L.length ≤ c ∧ (L ≠ [] → ∃ g o cs, A = some ⟨g, o, none⟩ ∧ Bk w g 3 cs ∧ w.rangeAt g o (ints L))
theorem SlI.arg {w : World} {v : Value} {L : List Int} (h : SlI w v L) : ArgInts w v L := by
  obtain ⟨A, c, e, hc, h⟩ := h
  refine ⟨A, c, e, hc, fun hx => ?_⟩
  obtain ⟨g, o, cs, e1, _, h2⟩ := h (fun e => hx (by rw [e]; rfl))
  exact ⟨g, o, e1, h2⟩
theorem SlI.kp {w w' : World} {v : Value} {L : List Int} {M : Nat → Prop} (h : SlI w v L) (hk : Kp M w w') (hm : ∀ g cs, Bk w g 3 cs → ¬ M g) : SlI w' v L := by
  obtain ⟨A, c, e, hc, h⟩ := h
  refine ⟨A, c, e, hc, fun hx => ?_⟩
  obtain ⟨g, o, cs, e1, h1, h2⟩ := h hx
  exact ⟨g, o, cs, e1, h1.kp hk (hm g cs h1), range_kp h2 hk (hm g cs h1)⟩
theorem SlI.no {w w' : World} {v : Value} {L : List Int} (h : SlI w v L) (hk : Kp No w w') : SlI w' v L := h.kp hk fun _ _ _ m => m
theorem SlI.nil (w : World) (A : Option Addr) (c : Nat) : SlI w (.slice A 0 c) [] := ⟨A, c, rfl, Nat.zero_le _, fun h => absurd rfl h⟩
theorem own_bk {w : World} {B n size : Nat} {t : TypeId} {v : Value} {xs : List Value} (h : w.ownsRow B t size v n xs) : ∀ g, v.ownBlock = some g → ∃ cs, Bk w g t cs := by
  intro g hg
  rcases h.2 with ⟨e, _⟩ | ⟨g', cap, cur, e, _, hh, _⟩
  · rw [e] at hg; simp [Value.ownBlock] at hg
  · rw [e] at hg
    have : g' = g := by simpa [Value.ownBlock] using hg
    subst this
    exact ⟨cur.toList, by unfold Bk; rw [hh]⟩
theorem own_slI {w : World} {B : Nat} {v : Value} {L : List Int} (h : w.ownsRow B 3 1 v L.length (ints L)) : SlI w v L := by
  obtain ⟨A, c, e, hc⟩ := own_len h
  refine ⟨A, c, e, hc, fun hx => ?_⟩
  obtain ⟨g, cap, e2, _⟩ := own_form h (List.length_pos_iff.2 hx)
  rw [e] at e2
  injection e2 with e3 _ _
  obtain ⟨cs, hb⟩ := own_bk h g (by rw [e, e3]; rfl)
  refine ⟨g, 0, cs, e3, hb, ?_⟩
  have ha := own_argI h
  obtain ⟨g', o', c', e4, hr⟩ := ha.at_ (List.length_pos_iff.2 hx)
  rcases h.2 with ⟨e5, _⟩ | ⟨g5, cap5, cur5, e5, _⟩
  · rw [e, e3] at e5; cases e5
  · intro j v hv
    have := h.cells (g := g) (by rw [e, e3]; rfl) j v hv
    rwa [Addr.add_mid] at this

/-- the blocks of M are of these types -/
def Tys (M : Nat → Prop) (w : World) (ts : List TypeId) : Prop := ∀ k, M k → k < w.heap.size → ∃ t cs, Bk w k t cs ∧ t ∈ ts
theorem Tys.not {M : Nat → Prop} {w : World} {ts : List TypeId} (h : Tys M w ts) {g : Nat} {t : TypeId} {cs : List Value} (hb : Bk w g t cs) (ht : t ∉ ts) : ¬ M g := fun m => by
  obtain ⟨t', cs', hb', hm⟩ := h g m hb.lt
  by_cases e : t = t'
  · subst e; exact ht hm
  · exact hb.ne_ hb' e rfl
theorem wrm_tys {w : World} {b B : Nat} {v : Value} {l : List UInt8} (h : WrB w b B v l) : Tys (WrM b v) w [62, 5] := by
  rintro k (rfl | hm) hk
  · exact ⟨_, _, h.1, by simp⟩
  · obtain ⟨cs, hb⟩ := own_bk h.2 k hm
    exact ⟨_, cs, hb, by simp⟩
theorem no_tys (w : World) (ts : List TypeId) : Tys No w ts := fun _ m => m.elim

/-- the types of what the fields' functions have captured -/
def FT : List TypeId := [87, 88, 68, 71, 75, 79, 72, 76, 80, 92, 94]
/-- what the fields' functions have captured stays -/
def Stay (w w' : World) : Prop := w.heap.size ≤ w'.heap.size ∧ ∀ k t cs, t ∈ FT → Bk w k t cs → Bk w' k t cs
theorem Stay.refl (w : World) : Stay w w := ⟨Nat.le_refl _, fun _ _ _ _ h => h⟩
theorem Stay.trans {a b c : World} (h : Stay a b) (k : Stay b c) : Stay a c := ⟨Nat.le_trans h.1 k.1, fun g t cs ht hb => k.2 g t cs ht (h.2 g t cs ht hb)⟩
theorem Stay.of_kp {M : Nat → Prop} {w w' : World} {ts : List TypeId} (hk : Kp M w w') (ht : Tys M w ts) (hf : ∀ t ∈ FT, t ∉ ts) : Stay w w' :=
  ⟨hk.size, fun _k t _cs h hb => hb.kp hk (ht.not hb (hf t h))⟩
theorem Stay.no {w w' : World} (hk : Kp No w w') : Stay w w' := Stay.of_kp hk (no_tys w []) (by simp)
theorem Stay.bk {w w' : World} (h : Stay w w') {k : Nat} {t : TypeId} {cs : List Value} (hb : Bk w k t cs) (ht : t ∈ FT) : Bk w' k t cs := h.2 k t cs ht hb

/-- a message's cells -/
def mcells (m : Msg) (sv : Value) : List Value := [.int .i64 m.kind, .int .i64 m.from_, .int .i64 m.dest, .int .i64 m.boot, .int .i64 m.seq, .int .i64 m.low, .int .i64 m.verb, .string ⟨m.path.toArray⟩, .int .i64 m.mode, .int .i64 m.term, .int .i64 m.id, .bool m.fresh, .int .i64 m.code, sv, .int .i64 m.origin, .int .i64 m.number]
def MsgB (w : World) (g : Nat) (m : Msg) (sv : Value) : Prop := Bk w g 29 (mcells m sv) ∧ SlI w sv m.stamp
theorem MsgB.kp {w w' : World} {g : Nat} {m : Msg} {sv : Value} {M : Nat → Prop} (h : MsgB w g m sv) (hk : Kp M w w') (h1 : ¬ M g) (h2 : ∀ k cs, Bk w k 3 cs → ¬ M k) : MsgB w' g m sv := ⟨h.1.kp hk h1, h.2.kp hk h2⟩
theorem MsgB.tys {w w' : World} {g : Nat} {m : Msg} {sv : Value} {M : Nat → Prop} {ts : List TypeId} (h : MsgB w g m sv) (hk : Kp M w w') (ht : Tys M w ts) (h1 : 29 ∉ ts) (h2 : 3 ∉ ts) : MsgB w' g m sv :=
  h.kp hk (ht.not h.1 h1) fun _ _ hb => ht.not hb h2
theorem MsgB.no {w w' : World} {g : Nat} {m : Msg} {sv : Value} (h : MsgB w g m sv) (hk : Kp No w w') : MsgB w' g m sv := h.kp hk (fun m => m) fun _ _ _ m => m
/-- its numbers are ints -/
def Rng (m : Msg) : Prop := (∀ x ∈ [m.kind, m.from_, m.dest, m.boot, m.seq, m.low, m.verb, m.mode, m.term, m.id, m.code, m.origin, m.number], x < 9223372036854775808) ∧ (∀ x ∈ m.stamp, x < 9223372036854775808)
/-- its text and list are no longer than n -/
def Short (n : Nat) (m : Msg) : Prop := m.path.length ≤ n ∧ m.stamp.length ≤ n
theorem Short.mono {n k : Nat} {m : Msg} (h : Short n m) (hn : n ≤ k) : Short k m := ⟨Nat.le_trans h.1 hn, Nat.le_trans h.2 hn⟩

/-- a field's three functions, each with what it has captured -/
structure FV where
  wn : Nat
  wc : Array Value
  rn : Nat
  rc : Array Value
  fn : Nat
  fc : Array Value
def FV.cells (v : FV) : List Value := [.func (.func v.wn) #[] v.wc, .func (.func v.rn) #[] v.rc, .func (.func v.fn) #[] v.fc]
/-- function n is one of the program's own -/
def Ent (n : Nat) : Prop := ∀ (args : Array Value) (w : World), (callFunc n args).run Try.prog w = .ok (.enter n args) w
def RdM (g : Nat) (sv : Value) (b : Nat) : Nat → Prop := fun k => k = b ∨ k = g ∨ sv.ownBlock = some k
def RdAft (W : World) (g : Nat) (sv : Value) (b B : Nat) (m' : Msg) (s' : Rd) (w' : World) : Prop :=
  ∃ sv', Bk w' g 29 (mcells m' sv') ∧ w'.ownsRow B 3 1 sv' m'.stamp.length (ints m'.stamp) ∧ RdS w' b s' ∧ Kp (RdM g sv b) W w' ∧ ∀ k, sv'.ownBlock = some k → sv.ownBlock = some k ∨ W.heap.size ≤ k
/-- the three functions do, whatever is done meanwhile, what the field says -/
structure FOk (w : World) (v : FV) (s : Fld) : Prop where
  we : Ent v.wn
  re : Ent v.rn
  fe : Ent v.fn
  write : ∀ W, Stay w W → ∀ g m sv b B u l, MsgB W g m sv → Rng m → (s.out m).length ≤ 10000 → WrB W b B u l → B ≤ W.heap.size → l.length ≤ 100000 →
    Calls Try.prog v.wn (#[.pointer (some ⟨b, 0, none⟩), .pointer (some ⟨g, 0, none⟩)] ++ v.wc) W fun e w' => e = .returned (.tuple #[]) ∧ WrAft W b B u (l ++ s.out m) w'
  read : ∀ W, Stay w W → ∀ g m sv b s0 B, Bk W g 29 (mcells m sv) → W.ownsRow B 3 1 sv m.stamp.length (ints m.stamp) → RdS W b s0 → B ≤ W.heap.size → s0.1.length ≤ 1000 → Short 1000 m →
    Calls Try.prog v.rn (#[.pointer (some ⟨b, 0, none⟩), .pointer (some ⟨g, 0, none⟩)] ++ v.rc) W fun e w' => e = .returned (.tuple #[]) ∧ RdAft W g sv b B (s.inn s0 m).1 (s.inn s0 m).2 w'
  fine : ∀ W, Stay w W → ∀ g m sv, MsgB W g m sv → Short maxLen m →
    Calls Try.prog v.fn (#[.pointer (some ⟨g, 0, none⟩)] ++ v.fc) W fun e w' => e = .returned (.bool (s.may m)) ∧ Kp No W w'
theorem FOk.stay {w w' : World} {v : FV} {s : Fld} (h : FOk w v s) (hs : Stay w w') : FOk w' v s :=
  ⟨h.we, h.re, h.fe, fun W hW => h.write W (hs.trans hW), fun W hW => h.read W (hs.trans hW), fun W hW => h.fine W (hs.trans hW)⟩
/-- which texts are paths -/
def vpP (l : List UInt8) : Bool := (path l).isSome
theorem vpP_len (l : List UInt8) (h : vpP l = true) : l.length ≤ 27 := path_len h
/-- cell off holds the number that get tells -/
structure NumAt (off : Nat) (get : Msg → Int) (set : Msg → Int → Msg) : Prop where
  cell : ∀ m sv, (mcells m sv)[off]? = some (.int .i64 (get m))
  set_ : ∀ m sv x, (mcells m sv).set off (.int .i64 x) = mcells (set m x) sv
  stamp : ∀ m x, (set m x).stamp = m.stamp
  rng : ∀ m, Rng m → get m < 9223372036854775808
/-- function ga points at cell off of a message -/
def AtOk (ga off : Nat) : Prop := ∀ (W : World) (g : Nat), Calls Try.prog ga #[.pointer (some ⟨g, 0, none⟩)] W fun e w' => e = .returned (.pointer (some ⟨g, off, none⟩)) ∧ W = w'
end Go.Proofs.Ytbnpdghfbiacaaa
