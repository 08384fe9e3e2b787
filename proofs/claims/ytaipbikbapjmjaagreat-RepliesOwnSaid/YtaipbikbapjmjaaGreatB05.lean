/- Several texts of this claim in one. No condition beyond what each theorem states. -/
import Derived.Test.YtaipbikbapjmjaaGreatB04
import Derived.Test.YtaipbikbapjmjaaGreatB01
import Derived.StillTailTactics
import Derived.Deep.RegionHeld3
import Derived.Outline
import Derived.Laws.EntriesVeiled
import Derived.Shelf.Abstract
/- Replies in plain words: as the document has them (lists), and as the program has them (places by number modulo eight). No condition beyond what each theorem states. -/
namespace Go.Proofs.YtaipbikbapjmjaaGreat
open Go

/-- a client, as the document has it -/
structure Cl where
  boot : Int := 0
  low : Int := 1
  ans : List Msg := []
def findS (c : Cl) (seq : Int) : Option Msg := c.ans.find? fun a => decide (a.seq = seq)
def heardS (c : Cl) (m : Msg) : Option Cl :=
  if m.boot < c.boot then none
  else if c.boot < m.boot then some ⟨m.boot, max 1 m.low, []⟩
  else some ⟨c.boot, max c.low m.low, c.ans.filter fun a => decide (max c.low m.low ≤ a.seq)⟩
def seenS (st : List Cl) (m : Msg) : List Cl × Int × Msg :=
  if m.kind = 1 ∧ mayS vpP m then
    match heardS (st.getD m.from_.toNat {}) m with
    | none => (st, 1, {})
    | some c => if m.seq < c.low ∨ c.low + 8 ≤ m.seq then (st.set m.from_.toNat c, 1, {}) else
      match findS c m.seq with
      | some a => (st.set m.from_.toNat c, 2, a)
      | none => (st.set m.from_.toNat c, 3, {})
  else (st, 1, {})
def fitsS (m a : Msg) : Prop := a.kind = 2 ∧ mayS vpP a ∧ a.from_ = m.dest ∧ a.dest = m.from_ ∧ a.boot = m.boot ∧ a.seq = m.seq
instance (m a : Msg) : Decidable (fitsS m a) := by unfold fitsS; infer_instance
def addS (c : Cl) (a : Msg) : Cl := ⟨c.boot, c.low, c.ans ++ [a]⟩
def keepS (st : List Cl) (m a : Msg) : List Cl × Bool :=
  if (seenS st m).2.1 = 3 ∧ fitsS m a then ((seenS st m).1.set m.from_.toNat (addS ((seenS st m).1.getD m.from_.toNat {}) a), true) else ((seenS st m).1, false)
def lenS (st : List Cl) (k : Int) : Nat := if k < 0 ∨ 8 ≤ k then 0 else (st.getD k.toNat {}).ans.length

/-- a place, and a client, as the program has them -/
structure Sl where
  seq : Int := 0
  msg : Msg := {}
structure Pc where
  boot : Int := 0
  low : Int := 1
  slots : List Sl := List.replicate 8 {}
def cutS (low : Int) (l : List Sl) : List Sl := l.map fun s => if s.seq < low then {} else s
def turnS (p : Pc) (m : Msg) : Option Pc :=
  if m.boot < p.boot then none
  else if p.boot < m.boot then some ⟨m.boot, max 1 m.low, cutS (max 1 m.low) (List.replicate 8 {})⟩
  else if max p.low m.low = p.low then some p
  else some ⟨p.boot, max p.low m.low, cutS (max p.low m.low) p.slots⟩

/-- they say the same -/
structure Rc (p : Pc) (c : Cl) : Prop where
  boot : p.boot = c.boot
  low : p.low = c.low
  one : 1 ≤ c.low
  len : p.slots.length = 8
  slot : ∀ (k : Nat) (s : Sl), p.slots[k]? = some s → s = {} ∨ (1 ≤ s.seq ∧ s.seq % 8 = k ∧ c.low ≤ s.seq ∧ s.seq < c.low + 8 ∧ s.msg.seq = s.seq ∧ s.msg ∈ c.ans)
  ans : ∀ a ∈ c.ans, 1 ≤ a.seq ∧ p.slots[(a.seq % 8).toNat]? = some ⟨a.seq, a⟩
  nodup : (c.ans.map fun a => a.seq).Nodup
theorem Rc.init : Rc {} {} := by
  refine ⟨rfl, rfl, by decide, rfl, fun k s h => .inl ?_, by simp, by simp⟩
  have := List.getElem?_eq_some_iff.1 h
  obtain ⟨hk, e⟩ := this
  rw [← e]
  exact List.getElem_replicate _
theorem find_some {c : Cl} {a : Msg} (hn : (c.ans.map fun a => a.seq).Nodup) (h : a ∈ c.ans) : findS c a.seq = some a := by
  unfold findS
  generalize c.ans = l at *
  induction l with
  | nil => cases h
  | cons x l ih =>
    rw [List.map_cons, List.nodup_cons] at hn
    rw [List.find?_cons]
    by_cases e : x.seq = a.seq
    · simp only [e, decide_true]
      rcases List.mem_cons.1 h with rfl | h2
      · rfl
      · exact absurd (by rw [e]; exact List.mem_map_of_mem h2) hn.1
    · simp only [e, decide_false]
      rcases List.mem_cons.1 h with rfl | h2
      · exact absurd rfl e
      · exact ih hn.2 h2
/-- what is kept for a number lies in its place -/
theorem Rc.find {p : Pc} {c : Cl} (h : Rc p c) {seq : Int} (hs : 1 ≤ seq) : ∃ s, p.slots[(seq % 8).toNat]? = some s ∧ (if s.seq = seq then findS c seq = some s.msg else findS c seq = none) := by
  have hlt : (seq % 8).toNat < p.slots.length := by rw [h.len]; omega
  refine ⟨p.slots[(seq % 8).toNat], List.getElem?_eq_getElem hlt, ?_⟩
  by_cases e : p.slots[(seq % 8).toNat].seq = seq
  · rw [if_pos e]
    rcases h.slot _ _ (List.getElem?_eq_getElem hlt) with h1 | ⟨_, _, _, _, h2, h3⟩
    · rw [h1] at e; simp at e; omega
    · have := find_some h.nodup h3
      rwa [h2, e] at this
  · rw [if_neg e]
    unfold findS
    rw [List.find?_eq_none]
    intro a ha hq
    have hq : a.seq = seq := by simpa using hq
    have := (h.ans a ha).2
    rw [hq, List.getElem?_eq_getElem hlt] at this
    injection this with this
    exact e (by rw [this])
/-- as many are kept -/
theorem Rc.count {p : Pc} {c : Cl} (h : Rc p c) : (p.slots.filter fun s => decide (0 < s.seq)).length = c.ans.length := by
  have h1 : (c.ans.map fun a => (a.seq % 8).toNat).Nodup := by
    rw [List.nodup_iff_pairwise_ne, List.pairwise_map]
    have h2 : c.ans.Pairwise fun a b => a.seq ≠ b.seq := by
      have := h.nodup
      rwa [List.nodup_iff_pairwise_ne, List.pairwise_map] at this
    refine h2.imp_of_mem fun {a b} ha hb hne e => hne ?_
    have ea := (h.ans a ha).2
    rw [e, (h.ans b hb).2] at ea
    injection ea with ea
    injection ea with ea _
    exact ea.symm
  have h2 : ((List.range 8).filter fun k => decide (0 < (p.slots.getD k {}).seq)).Nodup := List.nodup_range.sublist List.filter_sublist
  have h3 : (c.ans.map fun a => (a.seq % 8).toNat).Perm ((List.range 8).filter fun k => decide (0 < (p.slots.getD k {}).seq)) := by
    rw [List.perm_ext_iff_of_nodup h1 h2]
    intro k
    rw [List.mem_map, List.mem_filter, List.mem_range]
    constructor
    · rintro ⟨a, ha, rfl⟩
      obtain ⟨h4, h5⟩ := h.ans a ha
      refine ⟨by omega, ?_⟩
      rw [List.getD_eq_getElem?_getD, h5]
      simp only [Option.getD_some, decide_eq_true_eq]; omega
    · rintro ⟨hk, hp⟩
      have hlt : k < p.slots.length := by rw [h.len]; omega
      rw [List.getD_eq_getElem?_getD, List.getElem?_eq_getElem hlt, Option.getD_some, decide_eq_true_eq] at hp
      rcases h.slot k _ (List.getElem?_eq_getElem hlt) with e | ⟨_, e2, _, _, e5, e6⟩
      · rw [e] at hp; simp at hp
      · exact ⟨_, e6, by rw [e5, e2]; omega⟩
  have h4 := h3.length_eq
  rw [List.length_map] at h4
  rw [h4]
  have h5 : p.slots = (List.range 8).map fun k => p.slots.getD k {} := by
    refine List.ext_getElem (by rw [h.len]; simp) fun k h1 h2 => ?_
    rw [List.getElem_map, List.getElem_range, List.getD_eq_getElem?_getD, List.getElem?_eq_getElem h1, Option.getD_some]
  conv => lhs; rw [h5]
  rw [List.filter_map, List.length_map]
  rfl
theorem Rc.le {p : Pc} {c : Cl} (h : Rc p c) {a : Msg} (ha : a ∈ c.ans) : c.low ≤ a.seq ∧ a.seq < c.low + 8 := by
  obtain ⟨h1, h2⟩ := h.ans a ha
  rcases h.slot _ _ h2 with e | ⟨_, _, h3, h4, _, _⟩
  · injection e with e _; omega
  · exact ⟨h3, h4⟩
/-- a later era -/
theorem Rc.later {p : Pc} {c : Cl} (h : Rc p c) (low : Int) (hl : c.low ≤ low) : Rc ⟨p.boot, low, cutS low p.slots⟩ ⟨c.boot, low, c.ans.filter fun a => decide (low ≤ a.seq)⟩ := by
  have h1 := h.one
  refine ⟨h.boot, rfl, by show 1 ≤ low; omega, by simp [cutS, h.len], fun k s hs => ?_, fun a ha => ?_, ?_⟩
  · simp only [cutS, List.getElem?_map, Option.map_eq_some_iff] at hs
    obtain ⟨s0, hs0, e⟩ := hs
    by_cases hc : s0.seq < low
    · rw [if_pos hc] at e; exact .inl e.symm
    · rw [if_neg hc] at e
      subst e
      rcases h.slot k s0 hs0 with h2 | ⟨h2, h3, h4, h5, h6, h7⟩
      · exact .inl h2
      · refine .inr ⟨h2, h3, by show low ≤ s0.seq; omega, by show s0.seq < low + 8; omega, h6, ?_⟩
        rw [List.mem_filter]
        exact ⟨h7, by rw [decide_eq_true_iff, h6]; omega⟩
  · rw [List.mem_filter, decide_eq_true_iff] at ha
    obtain ⟨h2, h3⟩ := h.ans a ha.1
    refine ⟨h2, ?_⟩
    simp only [cutS, List.getElem?_map, h3, Option.map_some]
    rw [if_neg (by have := ha.2; show ¬ a.seq < low; omega)]
  · exact h.nodup.sublist ((List.filter_sublist (l := c.ans)).map _)
theorem Rc.turn {p : Pc} {c : Cl} (h : Rc p c) (m : Msg) : (heardS c m = none ∧ turnS p m = none) ∨ ∃ c' p', heardS c m = some c' ∧ turnS p m = some p' ∧ Rc p' c' := by
  unfold heardS turnS
  rw [h.boot]
  by_cases h1 : m.boot < c.boot
  · rw [if_pos h1, if_pos h1]; exact .inl ⟨rfl, rfl⟩
  · rw [if_neg h1, if_neg h1]
    right
    by_cases h2 : c.boot < m.boot
    · rw [if_pos h2, if_pos h2]
      refine ⟨_, _, rfl, rfl, ?_⟩
      have hi : Rc ⟨m.boot, 1, List.replicate 8 {}⟩ ⟨m.boot, 1, []⟩ := ⟨rfl, rfl, by show (1 : Int) ≤ 1; omega, rfl, Rc.init.slot, Rc.init.ans, Rc.init.nodup⟩
      have := hi.later (max 1 m.low) (by show (1 : Int) ≤ max 1 m.low; omega)
      simpa using this
    · rw [if_neg h2, if_neg h2, h.low]
      by_cases h3 : max c.low m.low = c.low
      · rw [if_pos h3]
        refine ⟨_, _, rfl, rfl, ?_⟩
        rw [h3]
        have e : (c.ans.filter fun a => decide (c.low ≤ a.seq)) = c.ans := by
          rw [List.filter_eq_self]
          intro a ha
          rw [decide_eq_true_iff]; exact (h.le ha).1
        rw [e]
        exact h
      · rw [if_neg h3]
        refine ⟨_, _, rfl, rfl, ?_⟩
        have := h.later (max c.low m.low) (by omega)
        rw [h.boot] at this
        exact this
/-- an answer is kept -/
theorem Rc.add {p : Pc} {c : Cl} (h : Rc p c) (a : Msg) (h1 : c.low ≤ a.seq) (h2 : a.seq < c.low + 8) (hn : findS c a.seq = none) : Rc ⟨p.boot, p.low, p.slots.set (a.seq % 8).toNat ⟨a.seq, a⟩⟩ (addS c a) := by
  have h0 := h.one
  have hne : ∀ b ∈ c.ans, b.seq ≠ a.seq := fun b hb e => by
    have := find_some h.nodup hb
    rw [e, hn] at this; cases this
  have hlt : (a.seq % 8).toNat < p.slots.length := by rw [h.len]; omega
  refine ⟨h.boot, h.low, h.one, by simp [h.len], fun k s hs => ?_, fun b hb => ?_, ?_⟩
  · by_cases hk : (a.seq % 8).toNat = k
    · subst hk
      rw [List.getElem?_set_self hlt] at hs
      injection hs with hs
      subst hs
      exact .inr ⟨by show 1 ≤ a.seq; omega, by show a.seq % 8 = _; omega, h1, h2, rfl, by simp [addS]⟩
    · rw [List.getElem?_set_ne hk] at hs
      rcases h.slot k s hs with e | ⟨e1, e2, e3, e4, e5, e6⟩
      · exact .inl e
      · exact .inr ⟨e1, e2, e3, e4, e5, by simp [addS, e6]⟩
  · simp only [addS, List.mem_append, List.mem_singleton] at hb
    rcases hb with hb | rfl
    · obtain ⟨e1, e2⟩ := h.ans b hb
      refine ⟨e1, ?_⟩
      have h3 := h.le hb
      rw [List.getElem?_set_ne (by have := hne b hb; omega)]
      exact e2
    · exact ⟨by omega, by rw [List.getElem?_set_self hlt]⟩
  · simp only [addS, List.map_append, List.map_cons, List.map_nil]
    rw [List.nodup_append]
    refine ⟨h.nodup, by simp, fun x hx y hy => ?_⟩
    rw [List.mem_map] at hx
    obtain ⟨b, hb, rfl⟩ := hx
    rw [List.mem_singleton] at hy
    subst hy
    exact hne b hb
end Go.Proofs.YtaipbikbapjmjaaGreat

/- Replies in plain words, all clients: the document's and the program's answers are the same. No condition beyond what each theorem states. -/
namespace Go.Proofs.YtaipbikbapjmjaaGreat
open Go

theorem may_ask {m : Msg} (h : mayS vpP m) (hk : m.kind = 1) : nodeI m.from_ ∧ cntI m.boot ∧ cntI m.seq ∧ 1 ≤ m.low ∧ m.low ≤ m.seq := by
  obtain ⟨_, h1, _, h2⟩ := h
  unfold fineS at h2
  rw [if_pos hk] at h2
  exact ⟨h1, h2.2.1, h2.2.2.1, h2.2.2.2.1, h2.2.2.2.2.1⟩
def askedP (m : Msg) : Prop := m.kind = 1 ∧ mayS vpP m
instance (m : Msg) : Decidable (askedP m) := by unfold askedP; infer_instance
/-- the verdict of a client that has heard the message -/
def verdP (c : Pc) (m : Msg) : Int := if m.seq < c.low ∨ 8 ≤ m.seq - c.low then 1 else if (c.slots.getD (m.seq % 8).toNat {}).seq = m.seq then 2 else 3
def lookP (st : List Pc) (m : Msg) : List Pc × Int :=
  if askedP m then
    match turnS (st.getD m.from_.toNat {}) m with
    | none => (st, 1)
    | some c => (st.set m.from_.toNat c, verdP c m)
  else (st, 1)
def slotP (st : List Pc) (m : Msg) : Sl := (st.getD m.from_.toNat {}).slots.getD (m.seq % 8).toNat {}
def seenP (st : List Pc) (m : Msg) : List Pc × Int × Msg := ((lookP st m).1, (lookP st m).2, if (lookP st m).2 = 2 then (slotP (lookP st m).1 m).msg else {})
def putP (st : List Pc) (m a : Msg) : List Pc := st.set m.from_.toNat ⟨(st.getD m.from_.toNat {}).boot, (st.getD m.from_.toNat {}).low, (st.getD m.from_.toNat {}).slots.set (m.seq % 8).toNat ⟨m.seq, a⟩⟩
def keepP (st : List Pc) (m a : Msg) : List Pc × Bool :=
  if (lookP st m).2 = 3 ∧ fitsS m a then (putP (lookP st m).1 m a, true) else ((lookP st m).1, false)
def lenP (st : List Pc) (k : Int) : Nat := if k < 0 ∨ 8 ≤ k then 0 else ((st.getD k.toNat {}).slots.filter fun s => decide (0 < s.seq)).length

theorem getD_set {α : Type} (l : List α) (i k : Nat) (c d : α) (hi : i < l.length) : (l.set i c).getD k d = if k = i then c else l.getD k d := by
  rw [List.getD_eq_getElem?_getD, List.getElem?_set]
  by_cases h : i = k
  · subst h; simp [hi]
  · rw [if_neg h, if_neg (fun e => h e.symm), List.getD_eq_getElem?_getD]
structure St (ps : List Pc) (cs : List Cl) : Prop where
  lp : ps.length = 8
  lc : cs.length = 8
  rc : ∀ k, Rc (ps.getD k {}) (cs.getD k {})
theorem St.init : St (List.replicate 8 {}) (List.replicate 8 {}) := by
  refine ⟨rfl, rfl, fun k => ?_⟩
  have e : ∀ {α : Type} (d : α), (List.replicate 8 d).getD k d = d := fun d => by
    rw [List.getD_eq_getElem?_getD, List.getElem?_replicate]
    split <;> rfl
  rw [e, e]; exact Rc.init
theorem St.set {ps : List Pc} {cs : List Cl} (h : St ps cs) {i : Nat} (hi : i < 8) {p : Pc} {c : Cl} (hc : Rc p c) : St (ps.set i p) (cs.set i c) := by
  refine ⟨by simp [h.lp], by simp [h.lc], fun k => ?_⟩
  rw [getD_set _ _ _ _ _ (by rw [h.lp]; exact hi), getD_set _ _ _ _ _ (by rw [h.lc]; exact hi)]
  by_cases e : k = i
  · rw [if_pos e, if_pos e]; exact hc
  · rw [if_neg e, if_neg e]; exact h.rc k
theorem St.seen {ps : List Pc} {cs : List Cl} (h : St ps cs) (m : Msg) : St (seenP ps m).1 (seenS cs m).1 ∧ (seenP ps m).2 = (seenS cs m).2 := by
  unfold seenP lookP seenS
  by_cases ha : askedP m
  · have ha2 : m.kind = 1 ∧ mayS vpP m := ha
    obtain ⟨h1, h2, h3, h4, h5⟩ := may_ask ha2.2 ha2.1
    unfold nodeI at h1
    unfold cntI at h3
    have hi : m.from_.toNat < 8 := by omega
    rw [if_pos ha, if_pos ha2]
    rcases (h.rc m.from_.toNat).turn m with ⟨e1, e2⟩ | ⟨c', p', e1, e2, hr⟩
    · rw [e1, e2]
      exact ⟨h, by simp⟩
    · rw [e1, e2]
      simp only
      have hS := h.set hi hr
      have hl : p'.low = c'.low := hr.low
      by_cases hv : m.seq < p'.low ∨ 8 ≤ m.seq - p'.low
      · rw [if_pos (by omega)]
        refine ⟨hS, ?_⟩
        unfold verdP
        rw [if_pos hv, if_neg (by decide)]
      · rw [if_neg (by omega)]
        obtain ⟨s, hs, hf⟩ := hr.find (seq := m.seq) (by omega)
        have hsl : p'.slots.getD (m.seq % 8).toNat {} = s := by rw [List.getD_eq_getElem?_getD, hs]; rfl
        have hg : slotP (ps.set m.from_.toNat p') m = s := by
          unfold slotP
          rw [getD_set _ _ _ _ _ (by rw [h.lp]; exact hi), if_pos rfl, hsl]
        unfold verdP
        rw [if_neg hv, hsl]
        by_cases hq : s.seq = m.seq
        · rw [if_pos hq] at hf
          rw [if_pos hq, hf]
          refine ⟨hS, ?_⟩
          simp [hg]
        · rw [if_neg hq] at hf
          rw [if_neg hq, hf]
          exact ⟨hS, by simp⟩
  · have ha2 : ¬ (m.kind = 1 ∧ mayS vpP m) := ha
    rw [if_neg ha, if_neg ha2]
    exact ⟨h, by simp⟩
theorem seen_new {cs : List Cl} {m : Msg} (h : (seenS cs m).2.1 = 3) : m.kind = 1 ∧ mayS vpP m ∧ ∃ c, heardS (cs.getD m.from_.toNat {}) m = some c ∧ (seenS cs m).1 = cs.set m.from_.toNat c ∧ c.low ≤ m.seq ∧ m.seq < c.low + 8 ∧ findS c m.seq = none := by
  unfold seenS at h ⊢
  by_cases ha : m.kind = 1 ∧ mayS vpP m
  · rw [if_pos ha] at h ⊢
    refine ⟨ha.1, ha.2, ?_⟩
    cases hh : heardS (cs.getD m.from_.toNat {}) m with
    | none => rw [hh] at h; simp at h
    | some c =>
      rw [hh] at h
      simp only at h ⊢
      by_cases hv : m.seq < c.low ∨ c.low + 8 ≤ m.seq
      · rw [if_pos hv] at h; simp at h
      · rw [if_neg hv] at h ⊢
        cases hf : findS c m.seq with
        | some a => rw [hf] at h; simp at h
        | none => exact ⟨c, rfl, rfl, by omega, by omega, hf⟩
  · rw [if_neg ha] at h; simp at h
theorem St.keep {ps : List Pc} {cs : List Cl} (h : St ps cs) (m a : Msg) : St (keepP ps m a).1 (keepS cs m a).1 ∧ (keepP ps m a).2 = (keepS cs m a).2 := by
  obtain ⟨h1, h2⟩ := h.seen m
  have hv : (lookP ps m).2 = (seenS cs m).2.1 := by rw [← h2]; rfl
  have h1 : St (lookP ps m).1 (seenS cs m).1 := h1
  unfold keepP keepS
  rw [hv]
  by_cases hc : (seenS cs m).2.1 = 3 ∧ fitsS m a
  · rw [if_pos hc, if_pos hc]
    refine ⟨?_, rfl⟩
    obtain ⟨k1, k2, c, k3, k4, k5, k6, k7⟩ := seen_new hc.1
    obtain ⟨g1, _⟩ := may_ask k2 k1
    unfold nodeI at g1
    have hi : m.from_.toNat < 8 := by omega
    have hq : a.seq = m.seq := hc.2.2.2.2.2.2
    have hr := h1.rc m.from_.toNat
    have hcc : (seenS cs m).1.getD m.from_.toNat {} = c := by rw [k4, getD_set _ _ _ _ _ (by rw [h.lc]; exact hi), if_pos rfl]
    rw [hcc] at hr ⊢
    have := hr.add a (by omega) (by omega) (by rw [hq]; exact k7)
    rw [hq] at this
    exact h1.set hi this
  · rw [if_neg hc, if_neg hc]
    exact ⟨h1, rfl⟩
theorem St.len {ps : List Pc} {cs : List Cl} (h : St ps cs) (k : Int) : lenP ps k = lenS cs k := by
  unfold lenP lenS
  by_cases hk : k < 0 ∨ 8 ≤ k
  · rw [if_pos hk, if_pos hk]
  · rw [if_neg hk, if_neg hk]
    exact (h.rc k.toNat).count
end Go.Proofs.YtaipbikbapjmjaaGreat

/- The fields that are numbers, by contract (wire). No condition beyond what each theorem states. -/
namespace Go.Proofs.YtaipbikbapjmjaaGreat
open Go Go.RowKit Go.PlainAid

theorem boot_at : AtOk 47 3 := fun W g => by
  go_enter Tryz.func47, Tryz.ntmps47
  go_wp2
  go_ret
  exact ⟨rfl, rfl⟩
set_option maxRecDepth 100000 in
set_option maxHeartbeats 1000000 in
theorem number1_any (pc ac ga off : Nat) (get : Msg → Int) (set : Msg → Int → Msg) (N : NumAt off get set) (eg : ∀ (args : Array Value) (w : World), (callFunc ga args).run Tryz.prog w = .ok (.enter ga args) w) (hat : AtOk ga off) (W : World)
    (hp : Bk W pc 129 [.func (.func 75) #[] #[]]) (ha : Bk W ac 101 [.func (.func ga) #[] #[]])
    (g : Nat) (m : Msg) (sv : Value) (b B : Nat) (u : Value) (l : List UInt8) (hm : MsgB W g m sv) (hr : Rng m) (hw : WrB W b B u l) (hB : B ≤ W.heap.size) (hl : l.length ≤ 100000) :
    Calls Tryz.prog 81 #[.pointer (some ⟨b, 0, none⟩), .pointer (some ⟨g, 0, none⟩), .pointer (some ⟨pc, 0, none⟩), .pointer (some ⟨ac, 0, none⟩)] W fun e w' => e = .returned (.tuple #[]) ∧ WrAft W b B u (l ++ nS (get m)) w' := by
  have hq : ∀ w' l', WrAft W.drew b B u l' w' → WrAft W b B u l' w' := fun w' l' h => WrAft.then_ ((Kp.refl _ W).drew) (fun _ h => .inl h) h
  have pn := wnum_any b B u l (get m) W.drew hw hB (by omega) (N.rng m hr)
  have z1 : W.cell? ⟨pc, 0, none⟩ = some (.func (.func 75) #[] #[]) := hp.cell 0
  have z2 : W.cell? ⟨ac, 0, none⟩ = some (.func (.func ga) #[] #[]) := ha.cell 0
  have z3 : W.cell? ⟨g, off, none⟩ = some (.int .i64 (get m)) := (hm.1.cell off).trans (N.cell m sv)
  generalize get m = x at *
  have HQ := Lib.hid hq
  clear hp ha hm hr hw hq
  go_enter Tryz.func81, Tryz.ntmps81
  go_still_tail 7, (by kernel_rfl)
  still_call ((hat _ g).mono (by rintro e w' ⟨rfl, rfl⟩; exact ⟨rfl, rfl⟩))
  repeat still_step
  refine wpStill_nil ?_
  change wpList _ _ _ _ _ W.drew
  generalize W.drew = W2 at *
  go_wp2_with fail
  refine pn.mono ?_
  rintro e w' ⟨rfl, h2⟩
  go_wp2
  go_end0
  exact ⟨rfl, HQ.out _ _ h2⟩
/-- what a field leaves that was taken up: the message's cell is new, the reader is further -/
theorem rdAft_mk {W W1 : World} {g b B i : Nat} {sv x : Value} {m m' : Msg} {s0 s' : Rd} (hm : Bk W g 32 (mcells m sv)) (ho : W.ownsRow B 3 1 sv m.stamp.length (ints m.stamp)) (h0 : RdS W b s0)
    (hk : Kp (One b) W W1) (hr : RdS W1 b s') (hc : (mcells m sv).set i x = mcells m' sv) (hst : m'.stamp = m.stamp) : RdAft W g sv b B m' s' (W1.setCell ⟨g, i, none⟩ x) := by
  obtain ⟨cs, hb⟩ := h0.rdr
  have hgb : g ≠ b := hm.ne_ hb (by decide)
  have hsb : ∀ k, sv.ownBlock = some k → k ≠ b ∧ k ≠ g := fun k e => by
    obtain ⟨cs', h1⟩ := own_bk ho k e
    exact ⟨h1.ne_ hb (by decide), h1.ne_ hm (by decide)⟩
  have m1 : Bk W1 g 32 (mcells m sv) := hm.kp hk hgb
  have k1 : Kp (One g) W1 (W1.setCell ⟨g, i, none⟩ x) := (Kp.refl (One g) W1).set (.inl rfl) i x
  refine ⟨sv, by rw [← hc]; exact m1.set_ i x, ?_, ?_, ?_, fun k e => .inl e⟩
  · rw [hst]
    exact own_kp (own_kp ho hk fun k e => (hsb k e).1) k1 fun k e => (hsb k e).2
  · exact hr.kp k1 (fun e => hgb (Eq.symm e)) fun k ⟨cs', ht⟩ e => ht.ne_ m1 (by decide) e
  · exact (hk.mono fun k _ e => .inl e).then_ k1 fun k _ e => .inr (.inl e)
set_option maxRecDepth 100000 in
set_option maxHeartbeats 1000000 in
theorem number2_any (tc ac ga off : Nat) (get : Msg → Int) (set : Msg → Int → Msg) (N : NumAt off get set) (eg : ∀ (args : Array Value) (w : World), (callFunc ga args).run Tryz.prog w = .ok (.enter ga args) w) (hat : AtOk ga off) (W : World)
    (hp : Bk W tc 130 [.func (.func 74) #[] #[]]) (ha : Bk W ac 101 [.func (.func ga) #[] #[]])
    (g : Nat) (m : Msg) (sv : Value) (b B : Nat) (s0 : Rd) (hm : Bk W g 32 (mcells m sv)) (ho : W.ownsRow B 3 1 sv m.stamp.length (ints m.stamp)) (hr : RdS W b s0) (hl : s0.1.length ≤ 1000) :
    Calls Tryz.prog 82 #[.pointer (some ⟨b, 0, none⟩), .pointer (some ⟨g, 0, none⟩), .pointer (some ⟨tc, 0, none⟩), .pointer (some ⟨ac, 0, none⟩)] W fun e w' => e = .returned (.tuple #[]) ∧ RdAft W g sv b B (set m ((rdNum s0).1 : Int)) (rdNum s0).2 w' := by
  have pn := rd_num b s0 W.drew hr (by unfold maxLen; omega)
  have z1 : W.cell? ⟨tc, 0, none⟩ = some (.func (.func 74) #[] #[]) := hp.cell 0
  have z2 : W.cell? ⟨ac, 0, none⟩ = some (.func (.func ga) #[] #[]) := ha.cell 0
  go_enter Tryz.func82, Tryz.ntmps82
  go_still_tail 5, (by kernel_rfl)
  still_call ((hat _ g).mono (by rintro e w' ⟨rfl, rfl⟩; exact ⟨rfl, rfl⟩))
  repeat still_step
  refine wpStill_nil ?_
  change wpList _ _ _ _ _ W.drew
  have HM := Lib.hid hm; have HO := Lib.hid ho; have H0 := Lib.hid hr
  have hgb : g ≠ b := by obtain ⟨cs, hb⟩ := hr.rdr; exact hm.ne_ hb (by decide)
  have HN := Lib.hid hgb
  clear hm ho hr hp ha z1 z2 hgb
  have HK : Kp (One b) W W.drew := (Kp.refl (One b) W).drew
  generalize W.drew = W2 at *
  go_wp2_with fail
  refine pn.mono ?_
  rintro e w' ⟨rfl, h2, k2⟩
  have K2 := HK.trans k2
  have B2 := HM.out.kp K2 HN.out
  have z3 : w'.cell? ⟨g, off, none⟩ = some (.int .i64 (get m)) := (B2.cell off).trans (N.cell m sv)
  have zf := B2.frozen off
  have H2 := Lib.hid h2
  clear h2 k2 pn HK B2
  go_wp2
  go_end0
  exact ⟨rfl, rdAft_mk HM.out HO.out H0.out K2 H2.out (N.set_ m sv _) (N.stamp m _)⟩
end Go.Proofs.YtaipbikbapjmjaaGreat

/- The fields that are numbers, made (wire). No condition beyond what each theorem states. -/
namespace Go.Proofs.YtaipbikbapjmjaaGreat
open Go Go.RowKit Go.PlainAid

/-- function fn, with what it has captured, tells may -/
def FineOk (w : World) (fn : Nat) (fc : Array Value) (may : Msg → Bool) : Prop := Ent fn ∧ ∀ W, Stay w W → ∀ g m sv, MsgB W g m sv → Short maxLen m →
    Calls Tryz.prog fn (#[.pointer (some ⟨g, 0, none⟩)] ++ fc) W fun e w' => e = .returned (.bool (may m)) ∧ Kp No W w'
theorem FineOk.stay {w w' : World} {fn : Nat} {fc : Array Value} {may : Msg → Bool} (h : FineOk w fn fc may) (hs : Stay w w') : FineOk w' fn fc may := ⟨h.1, fun W hW => h.2 W (hs.trans hW)⟩
/-- what a function answers that makes a field -/
def MkF (W : World) (s : Fld) (e : Ending) (w' : World) : Prop := ∃ v : FV, e = .returned (.agg v.cells.toArray) ∧ FOk w' v s ∧ Kp No W w'
theorem ent57 : Ent 81 := enters_of Tryz.func81 (by kernel_rfl) rfl
theorem ent58 : Ent 82 := enters_of Tryz.func82 (by kernel_rfl) rfl
theorem number_ok {ga off : Nat} {get : Msg → Int} {set : Msg → Int → Msg} {may : Msg → Bool} (N : NumAt off get set) (eg : Ent ga) (hat : AtOk ga off) {fn : Nat} {fc : Array Value} {w : World} {pc tc ac : Nat}
    (h1 : Bk w pc 129 [.func (.func 75) #[] #[]]) (h2 : Bk w tc 130 [.func (.func 74) #[] #[]]) (h3 : Bk w ac 101 [.func (.func ga) #[] #[]])
    (hf : FineOk w fn fc may) : FOk w ⟨81, #[.pointer (some ⟨pc, 0, none⟩), .pointer (some ⟨ac, 0, none⟩)], 82, #[.pointer (some ⟨tc, 0, none⟩), .pointer (some ⟨ac, 0, none⟩)], fn, fc⟩ (fN get set may) :=
  ⟨ent57, ent58, hf.1,
   fun W hs g m sv b B u l hm hr _ hw hB hl => number1_any pc ac ga off get set N eg hat W (hs.bk h1 (by decide)) (hs.bk h3 (by decide)) g m sv b B u l hm hr hw hB hl,
   fun W hs g m sv b s0 B hm ho hr hB hl _ => number2_any tc ac ga off get set N eg hat W (hs.bk h2 (by decide)) (hs.bk h3 (by decide)) g m sv b B s0 hm ho hr hl,
   fun W hs g m sv hm hl => hf.2 W hs g m sv hm hl⟩
set_option maxRecDepth 100000 in
set_option maxHeartbeats 1000000 in
theorem number_any (ga off : Nat) (get : Msg → Int) (set : Msg → Int → Msg) (may : Msg → Bool) (N : NumAt off get set) (eg : Ent ga) (hat : AtOk ga off) (fn : Nat) (fc : Array Value) (W : World) (hf : FineOk W fn fc may) :
    Calls Tryz.prog 49 #[.func (.func ga) #[] #[], .func (.func fn) #[] fc] W (MkF W (fN get set may)) := by
  have HF := Lib.hid hf; have HN := Lib.hid N; have HE := Lib.hid eg; have HA := Lib.hid hat
  clear hf N eg hat
  have hmf : ∀ (fn : Fn) (first cap : Array Value) (w : World), (Instr.makeFunc fn first cap).run Tryz.prog w = .ok (.func fn first cap) w := fun _ _ _ _ => rfl
  go_enter Tryz.func49, Tryz.ntmps49
  go_wp2
  refine bodyPost_ret (v := .agg #[.func (.func 81) #[] #[.pointer (some ⟨W.heap.size + 1 + 1, 0, none⟩), .pointer (some ⟨W.heap.size, 0, none⟩)], .func (.func 82) #[] #[.pointer (some ⟨W.heap.size + 1 + 1 + 1, 0, none⟩), .pointer (some ⟨W.heap.size, 0, none⟩)], .func (.func fn) #[] fc]) (by simp [results, Tryz.results49, go_sem]) rfl ?_
  have K := ((((Kp.refl No W).alloc (.cells #[.func (.func ga) #[] #[]] 101)).alloc (.cells #[.func (.func 81) #[] #[.pointer (some ⟨W.heap.size + 1 + 1, 0, none⟩), .pointer (some ⟨W.heap.size, 0, none⟩)], .func (.func 82) #[] #[.pointer (some ⟨W.heap.size + 1 + 1 + 1, 0, none⟩), .pointer (some ⟨W.heap.size, 0, none⟩)], .func (.func fn) #[] fc] 91)).alloc (.cells #[.func (.func 75) #[] #[]] 129)).alloc (.cells #[.func (.func 74) #[] #[]] 130)
  exact ⟨⟨_, _, _, _, _, _⟩, rfl, number_ok HN.out HE.out HA.out ((Bk.new' (by simp) rfl).alloc _) (Bk.new' (by simp) rfl) ((((Bk.new' rfl rfl).alloc _).alloc _).alloc _) (HF.out.stay (Stay.no K)), K⟩
end Go.Proofs.YtaipbikbapjmjaaGreat

/- The fields that are counters, made (wire). No condition beyond what each theorem states. -/
namespace Go.Proofs.YtaipbikbapjmjaaGreat
open Go Go.RowKit Go.PlainAid

theorem isCounter_any (n : Int) (w : World) : Calls Tryz.prog 80 #[.int .i64 n] w fun e w' => e = .returned (.bool (decide (cntI n))) ∧ w = w' := by
  go_enter Tryz.func80, Tryz.ntmps80
  by_cases h1 : 1 ≤ n <;> by_cases h2 : n ≤ 1099511627776
  all_goals
    have HS := Lib.hid (show decide (cntI n) = decide (1 ≤ n ∧ n ≤ 1099511627776) from rfl)
    go_wp2
    go_ret
    exact ⟨ret_bool rfl (by rw [HS.out]; simp [h1, h2]), rfl⟩
theorem isNode_any (n : Int) (w : World) : Calls Tryz.prog 30 #[.int .i64 n] w fun e w' => e = .returned (.bool (decide (nodeI n))) ∧ w = w' := by
  go_enter Tryz.func30, Tryz.ntmps30
  by_cases h1 : 0 ≤ n <;> by_cases h2 : n < 8
  all_goals
    have HS := Lib.hid (show decide (nodeI n) = decide (0 ≤ n ∧ n < 8) from rfl)
    go_wp2
    go_ret
    exact ⟨ret_bool rfl (by rw [HS.out]; simp [h1, h2]), rfl⟩
theorem ent55 : Ent 79 := enters_of Tryz.func79 (by kernel_rfl) rfl
set_option maxRecDepth 100000 in
theorem counter1_any (ac ga off : Nat) (get : Msg → Int) (set : Msg → Int → Msg) (N : NumAt off get set) (eg : ∀ (args : Array Value) (w : World), (callFunc ga args).run Tryz.prog w = .ok (.enter ga args) w) (hat : AtOk ga off) (W : World)
    (ha : Bk W ac 101 [.func (.func ga) #[] #[]]) (g : Nat) (m : Msg) (sv : Value) (hm : Bk W g 32 (mcells m sv)) :
    Calls Tryz.prog 79 #[.pointer (some ⟨g, 0, none⟩), .pointer (some ⟨ac, 0, none⟩)] W fun e w' => e = .returned (.bool (decide (cntI (get m)))) ∧ Kp No W w' := by
  have z2 : W.cell? ⟨ac, 0, none⟩ = some (.func (.func ga) #[] #[]) := ha.cell 0
  have z3 : W.cell? ⟨g, off, none⟩ = some (.int .i64 (get m)) := (hm.cell off).trans (N.cell m sv)
  generalize get m = x at *
  clear ha hm
  go_enter Tryz.func79, Tryz.ntmps79
  go_wp2_with (first | (go_at_fn ga; refine (hat _ g).mono ?_; rintro e w' ⟨rfl, rfl⟩) | (go_at_call 80; refine (isCounter_any x _).mono ?_; rintro e w' ⟨rfl, rfl⟩))
  go_ret
  exact ⟨rfl, Kp.refl _ _⟩
/-- a field is stored -/
theorem setFld {W w1 : World} {k : Nat} {v : FV} {s : Fld} {cs : List Value} (B : Bk w1 k 91 cs) (hc : cs.length = 3) (hk : W.heap.size ≤ k) (K : Kp No W w1) (hv : FOk w1 v s) :
    Bk (((w1.setCell ⟨k, 0, none⟩ (.func (.func v.wn) #[] v.wc)).setCell ⟨k, 1, none⟩ (.func (.func v.rn) #[] v.rc)).setCell ⟨k, 2, none⟩ (.func (.func v.fn) #[] v.fc)) k 91 v.cells ∧
    FOk (((w1.setCell ⟨k, 0, none⟩ (.func (.func v.wn) #[] v.wc)).setCell ⟨k, 1, none⟩ (.func (.func v.rn) #[] v.rc)).setCell ⟨k, 2, none⟩ (.func (.func v.fn) #[] v.fc)) v s ∧
    Kp No W (((w1.setCell ⟨k, 0, none⟩ (.func (.func v.wn) #[] v.wc)).setCell ⟨k, 1, none⟩ (.func (.func v.rn) #[] v.rc)).setCell ⟨k, 2, none⟩ (.func (.func v.fn) #[] v.fc)) := by
  have b2 := ((B.set_ 0 (.func (.func v.wn) #[] v.wc)).set_ 1 (.func (.func v.rn) #[] v.rc)).set_ 2 (.func (.func v.fn) #[] v.fc)
  have k1 : Kp (One k) w1 _ := (((Kp.refl (One k) w1).set (.inl rfl) 0 (.func (.func v.wn) #[] v.wc)).set (.inl rfl) 1 (.func (.func v.rn) #[] v.rc)).set (.inl rfl) 2 (.func (.func v.fn) #[] v.fc)
  have e : ((cs.set 0 (.func (.func v.wn) #[] v.wc)).set 1 (.func (.func v.rn) #[] v.rc)).set 2 (.func (.func v.fn) #[] v.fc) = v.cells := by
    match cs, hc with
    | [a, b, c], _ => rfl
  rw [e] at b2
  have ht : Tys (One k) w1 [91] := fun i hi _ => by
    have e1 : i = k := hi
    subst e1
    exact ⟨_, _, B, List.mem_singleton.2 rfl⟩
  refine ⟨b2, hv.stay (Stay.of_kp k1 ht (by decide)), ?_⟩
  exact ((K.set (.inr hk) 0 _).set (.inr hk) 1 _).set (.inr hk) 2 _
set_option maxRecDepth 100000 in
set_option maxHeartbeats 1000000 in
theorem counter_any (ga off : Nat) (get : Msg → Int) (set : Msg → Int → Msg) (N : NumAt off get set) (eg : Ent ga) (hat : AtOk ga off) (W : World) :
    Calls Tryz.prog 46 #[.func (.func ga) #[] #[]] W (MkF W (fN get set fun m => decide (cntI (get m)))) := by
  have hmf : ∀ (fn : Fn) (first cap : Array Value) (w : World), (Instr.makeFunc fn first cap).run Tryz.prog w = .ok (.func fn first cap) w := fun _ _ _ _ => rfl
  have pn : ∀ W1 : World, Bk W1 W.heap.size 101 [.func (.func ga) #[] #[]] → Calls Tryz.prog 49 #[.func (.func ga) #[] #[], .func (.func 79) #[] #[.pointer (some ⟨W.heap.size, 0, none⟩)]] W1 (MkF W1 (fN get set fun m => decide (cntI (get m)))) := fun W1 hb =>
    number_any ga off get set _ N eg hat _ _ W1 ⟨ent55, fun W2 hs g m sv hm _ => counter1_any _ ga off get set N eg hat W2 (hs.bk hb (by decide)) g m sv hm.1⟩
  clear N eg hat
  go_enter Tryz.func46, Tryz.ntmps46
  go_wp2_with fail
  refine (pn _ ((Bk.new' rfl rfl).alloc _)).mono ?_
  rintro e w1 ⟨v, rfl, hv, k1⟩
  have K : Kp No W w1 := (((Kp.refl No W).alloc _).alloc _).trans k1
  have B1 := ((Bk.new' (by simp) rfl : Bk ((W.alloc (.cells #[.func (.func ga) #[] #[]] 101)).alloc (.cells #[.nilFunc, .nilFunc, .nilFunc] 91)) (W.heap.size + 1) 91 [.nilFunc, .nilFunc, .nilFunc]).no k1)
  have z0 := B1.cell 0
  have z1 := B1.cell 1
  have z2 := B1.cell 2
  have zf := B1.frozen
  have HK := Lib.hid K; have HV := Lib.hid hv; have HB := Lib.hid B1
  clear K hv k1 pn B1
  unfold FV.cells
  go_wp2
  obtain ⟨B2, F2, K2⟩ := setFld HB.out rfl (Nat.le_succ _) HK.out HV.out
  have y0 := B2.cell 0
  have y1 := B2.cell 1
  have y2 := B2.cell 2
  simp only [FV.cells] at y0 y1 y2
  generalize (((w1.setCell ⟨W.heap.size + 1, 0, none⟩ (.func (.func v.wn) #[] v.wc)).setCell ⟨W.heap.size + 1, 1, none⟩ (.func (.func v.rn) #[] v.rc)).setCell ⟨W.heap.size + 1, 2, none⟩ (.func (.func v.fn) #[] v.fc)) = w2 at *
  refine bodyPost_ret (v := .agg v.cells.toArray) (by simp [results, Tryz.results46, go_sem, y0, y1, y2, FV.cells]) rfl ⟨v, rfl, F2, K2⟩
end Go.Proofs.YtaipbikbapjmjaaGreat
