/- Several texts of this claim in one. No condition beyond what each theorem states. -/
import Derived.Test.YtaipbikbapjmjaaGreatB05
import Derived.Test.YtaipbikbapjmjaaGreatB16
import Derived.ProofKit
import Derived.OpenShut
import Derived.SizedLaws
import Derived.Deep.Matrix
import Derived.Deep.Slices
/- RepliesOnce in plain words: what is told of requests that come one behind the other. No condition beyond what each theorem states. -/
namespace Go.Proofs.YtaipbikbapjmjaaGreat
open Go

structure Ak where
  frm : Int
  boot : Int
  seq : Int
  low : Int
def onceTo (f : Int) : Int := (f.tmod 8 + 9) % 8
def onceM (x : Ak) : Msg := { kind := 1, from_ := x.frm, dest := onceTo x.frm, boot := x.boot, seq := x.seq, low := x.low, verb := 3, id := 5 }
def markM (i : Int) (x : Ak) : Msg := { kind := 2, from_ := onceTo x.frm, dest := x.frm, boot := x.boot, seq := x.seq, term := 9, id := i + 1, stamp := [i + 1] }
def likeA (y x : Ak) : Prop := y.frm = x.frm ∧ y.boot = x.boot ∧ y.seq = x.seq
instance (y x : Ak) : Decidable (likeA y x) := by unfold likeA; infer_instance
/-- the last that is like x among the first k -/
def atK (d : List Ak) (x : Ak) : Nat → Int
  | 0 => -1
  | k + 1 => if likeA (d.getD k ⟨0, 0, 0, 0⟩) x then (k : Int) else atK d x k
theorem atK_none {d : List Ak} {x : Ak} (h : ∀ y ∈ d, ¬ likeA y x) : ∀ k, k ≤ d.length → atK d x k = -1
  | 0, _ => rfl
  | k + 1, hk => by
    unfold atK
    rw [if_neg, atK_none h k (by omega)]
    rw [List.getD_eq_getElem?_getD, List.getElem?_eq_getElem (by omega)]
    exact h _ (List.getElem_mem _)
theorem atK_some {d : List Ak} {x : Ak} (hp : d.Pairwise fun a b => ¬ likeA a b) {j : Nat} (hj : j < d.length) (hl : likeA d[j] x) : ∀ k, j < k → k ≤ d.length → atK d x k = j
  | 0, h, _ => by omega
  | k + 1, h, hk => by
    unfold atK
    by_cases e : j = k
    · subst e
      rw [if_pos]
      rw [List.getD_eq_getElem?_getD, List.getElem?_eq_getElem (by omega)]
      exact hl
    · rw [if_neg, atK_some hp hj hl k (by omega) (by omega)]
      rw [List.getD_eq_getElem?_getD, List.getElem?_eq_getElem (by omega), Option.getD_some]
      intro h2
      have := List.pairwise_iff_getElem.1 hp j k hj (by omega) (by omega)
      exact this ⟨hl.1.trans h2.1.symm, hl.2.1.trans h2.2.1.symm, hl.2.2.trans h2.2.2.symm⟩
theorem atK_le (d : List Ak) (x : Ak) : ∀ k, -1 ≤ atK d x k ∧ atK d x k < k
  | 0 => by simp [atK]
  | k + 1 => by
    have := atK_le d x k
    unfold atK
    split <;> omega

structure InvO (cs : List Cl) (d : List Ak) (n : Int) : Prop where
  i1 : ∀ y ∈ d, nodeI y.frm ∧ 0 ≤ y.low ∧ y.low < n ∧ (y.boot < (cs.getD y.frm.toNat {}).boot ∨ (y.boot = (cs.getD y.frm.toNat {}).boot ∧ (y.seq < (cs.getD y.frm.toNat {}).low ∨ markM y.low y ∈ (cs.getD y.frm.toNat {}).ans)))
  i2 : ∀ f : Nat, f < 8 → ∀ a ∈ (cs.getD f {}).ans, ∃ y ∈ d, y.frm = f ∧ y.boot = (cs.getD f {}).boot ∧ a = markM y.low y
  i3 : d.Pairwise fun a b => ¬ likeA a b
theorem InvO.init : InvO (List.replicate 8 {}) [] 0 := by
  refine ⟨by simp, fun f hf a ha => ?_, List.Pairwise.nil⟩
  have e : (List.replicate 8 ({} : Cl)).getD f {} = {} := by
    rw [List.getD_eq_getElem?_getD, List.getElem?_replicate]
    split <;> rfl
  rw [e] at ha
  cases ha
theorem InvO.mono {cs : List Cl} {d : List Ak} {n k : Int} (h : InvO cs d n) (hk : n ≤ k) : InvO cs d k :=
  ⟨fun y hy => by obtain ⟨a, b, c, e⟩ := h.i1 y hy; exact ⟨a, b, by omega, e⟩, h.i2, h.i3⟩
/-- what a client that has heard is -/
theorem heard_cases {c c' : Cl} {m : Msg} (h : heardS c m = some c') : c'.boot = m.boot ∧ (c.boot < m.boot ∧ c'.ans = [] ∧ c'.low = max 1 m.low ∨ c.boot = m.boot ∧ c'.low = max c.low m.low ∧ c'.ans = c.ans.filter fun a => decide (c'.low ≤ a.seq)) := by
  unfold heardS at h
  by_cases h1 : m.boot < c.boot
  · rw [if_pos h1] at h; cases h
  · rw [if_neg h1] at h
    by_cases h2 : c.boot < m.boot
    · rw [if_pos h2] at h; injection h with h; subst h; exact ⟨rfl, .inl ⟨h2, rfl, rfl⟩⟩
    · rw [if_neg h2] at h; injection h with h; subst h; exact ⟨by show c.boot = m.boot; omega, .inr ⟨by omega, rfl, rfl⟩⟩
theorem heard_again {c c' : Cl} {m : Msg} (h : heardS c m = some c') : heardS c' m = some c' := by
  obtain ⟨h1, h2⟩ := heard_cases h
  have hm : m.low ≤ c'.low := by rcases h2 with ⟨_, _, e⟩ | ⟨_, e, _⟩ <;> omega
  have hf : (c'.ans.filter fun a => decide (c'.low ≤ a.seq)) = c'.ans := by
    rcases h2 with ⟨_, e, _⟩ | ⟨_, _, e⟩
    · rw [e]; rfl
    · rw [List.filter_eq_self]
      intro a ha
      rw [e, List.mem_filter] at ha
      exact ha.2
  unfold heardS
  rw [if_neg (by omega), if_neg (by omega), show max c'.low m.low = c'.low by omega, hf]
/-- the state behind a message: as it was, or one client has heard -/
theorem seen_state (cs : List Cl) (m : Msg) : ((seenS cs m).1 = cs ∧ (seenS cs m).2 = (1, {})) ∨ (m.kind = 1 ∧ mayS vpP m ∧ ∃ c, heardS (cs.getD m.from_.toNat {}) m = some c ∧ (seenS cs m).1 = cs.set m.from_.toNat c ∧
    (((m.seq < c.low ∨ c.low + 8 ≤ m.seq) ∧ (seenS cs m).2 = (1, {})) ∨ (c.low ≤ m.seq ∧ m.seq < c.low + 8 ∧ ((∃ a, findS c m.seq = some a ∧ (seenS cs m).2 = (2, a)) ∨ (findS c m.seq = none ∧ (seenS cs m).2 = (3, {})))))) := by
  unfold seenS
  by_cases ha : m.kind = 1 ∧ mayS vpP m
  · rw [if_pos ha]
    cases hh : heardS (cs.getD m.from_.toNat {}) m with
    | none => exact .inl ⟨rfl, rfl⟩
    | some c =>
      right
      refine ⟨ha.1, ha.2, c, rfl, ?_⟩
      simp only
      by_cases hv : m.seq < c.low ∨ c.low + 8 ≤ m.seq
      · rw [if_pos hv]; exact ⟨rfl, .inl ⟨hv, rfl⟩⟩
      · rw [if_neg hv]
        cases hf : findS c m.seq with
        | some a => exact ⟨rfl, .inr ⟨by omega, by omega, .inl ⟨a, rfl, rfl⟩⟩⟩
        | none => exact ⟨rfl, .inr ⟨by omega, by omega, .inr ⟨rfl, rfl⟩⟩⟩
  · rw [if_neg ha]; exact .inl ⟨rfl, rfl⟩
theorem InvO.seen {cs : List Cl} {d : List Ak} {n : Int} (h : InvO cs d n) (hl : cs.length = 8) (m : Msg) : InvO (seenS cs m).1 d n := by
  rcases seen_state cs m with ⟨e, _⟩ | ⟨hk, hm, c, hh, e, _⟩
  · rw [e]; exact h
  · rw [e]
    obtain ⟨g1, _⟩ := may_ask hm hk
    unfold nodeI at g1
    have hi : m.from_.toNat < cs.length := by omega
    obtain ⟨hb, hc⟩ := heard_cases hh
    refine ⟨fun y hy => ?_, fun f hf a ha => ?_, h.i3⟩
    · obtain ⟨a1, a2, a3, a4⟩ := h.i1 y hy
      refine ⟨a1, a2, a3, ?_⟩
      rw [getD_set _ _ _ _ _ hi]
      by_cases e : y.frm.toNat = m.from_.toNat
      · rw [if_pos e]
        rw [e] at a4
        rcases hc with ⟨c1, c2, _⟩ | ⟨c1, c2, c3⟩
        · left; rcases a4 with a4 | ⟨a4, _⟩ <;> omega
        · rcases a4 with a4 | ⟨a4, a5⟩
          · left; omega
          · right
            refine ⟨by omega, ?_⟩
            rcases a5 with a5 | a5
            · left; omega
            · by_cases hs : c.low ≤ y.seq
              · right; rw [c3, List.mem_filter, decide_eq_true_iff]; exact ⟨a5, hs⟩
              · left; omega
      · rw [if_neg e]; exact a4
    · rw [getD_set _ _ _ _ _ hi] at ha ⊢
      by_cases e : f = m.from_.toNat
      · rw [if_pos e] at ha ⊢
        rcases hc with ⟨c1, c2, _⟩ | ⟨c1, c2, c3⟩
        · rw [c2] at ha; cases ha
        · rw [c3, List.mem_filter] at ha
          obtain ⟨y, hy, e1, e2, e3⟩ := h.i2 f hf a (by rw [e]; exact ha.1)
          refine ⟨y, hy, e1, ?_, e3⟩
          rw [e] at e2; omega
      · rw [if_neg e] at ha ⊢
        exact h.i2 f hf a ha
theorem find_mem {c : Cl} {s : Int} {a : Msg} (h : findS c s = some a) : a ∈ c.ans ∧ a.seq = s := by
  unfold findS at h
  exact ⟨List.mem_of_find?_eq_some h, by have := List.find?_some h; simpa using this⟩
/-- an answer that is told again: it is the mark of the one that is like it -/
theorem InvO.kept {cs : List Cl} {d : List Ak} {n : Int} (h : InvO cs d n) (hl : cs.length = 8) (x : Ak) {a : Msg} (hv : (seenS cs (onceM x)).2 = (2, a)) :
    ∃ (j : Nat) (hj : j < d.length), likeA d[j] x ∧ a = markM (d[j]).low d[j] ∧ atK d x d.length = j := by
  have hi2 := (h.seen hl (onceM x)).i2
  rcases seen_state cs (onceM x) with ⟨_, e⟩ | ⟨hk, hm, c, hh, e, h2⟩
  · rw [e] at hv; simp at hv
  · obtain ⟨g1, _⟩ := may_ask hm hk
    unfold nodeI at g1
    have g1 : 0 ≤ x.frm ∧ x.frm < 8 := g1
    rcases h2 with ⟨_, e2⟩ | ⟨_, _, ⟨b, hf, e2⟩ | ⟨_, e2⟩⟩
    · rw [e2] at hv; simp at hv
    · rw [e2] at hv
      injection hv with _ hv
      subst hv
      obtain ⟨f1, f2⟩ := find_mem hf
      have hg : (seenS cs (onceM x)).1.getD x.frm.toNat {} = c := by
        rw [e, show (onceM x).from_ = x.frm from rfl, getD_set _ _ _ _ _ (by omega), if_pos rfl]
      obtain ⟨y, hy, y1, y2, y3⟩ := hi2 x.frm.toNat (by omega) b (by rw [hg]; exact f1)
      rw [hg, (heard_cases hh).1] at y2
      obtain ⟨j, hj, e3⟩ := List.getElem_of_mem hy
      have hlk : likeA d[j] x := by
        rw [e3]
        refine ⟨by omega, y2, ?_⟩
        rw [y3] at f2; exact f2
      exact ⟨j, hj, hlk, by rw [e3]; exact y3, atK_some h.i3 hj hlk _ hj (Nat.le_refl _)⟩
    · rw [e2] at hv; simp at hv
theorem mark_may {x : Ak} {i : Int} (h : mayS vpP (onceM x)) (h0 : 0 ≤ i) (h1 : i ≤ 300) : mayS vpP (markM i x) ∧ fitsS (onceM x) (markM i x) := by
  obtain ⟨g1, g2, g3, g4, g5⟩ := may_ask h rfl
  have hne := h.2.2.1
  have ht : nodeI (onceTo x.frm) := by
    have h2 := h.2.2.2
    unfold fineS at h2
    rw [if_pos (show (onceM x).kind = 1 from rfl)] at h2
    exact h2.1
  have hm : mayS vpP (markM i x) := by
    refine ⟨?_, ht, fun e => hne e.symm, ?_⟩
    · unfold usedS markM; simp
    · unfold fineS
      rw [if_neg (by simp [markM]), if_pos (by simp [markM])]
      refine ⟨g1, g2, g3, by simp [markM], by simp [markM], fun _ => ⟨?_, ⟨?_, ?_⟩, .inr ⟨?_, ?_⟩⟩⟩
      · show cntI (i + 1); unfold cntI; omega
      · simp [markM]
      · intro y hy
        have : y = i + 1 := by simpa [markM] using hy
        subst this
        unfold cntI; omega
      · show termI 9; unfold termI; omega
      · simp [markM]
  exact ⟨hm, rfl, hm, rfl, rfl, rfl, rfl⟩
/-- a new one: none is like it, and its answer is kept -/
theorem InvO.new_ {cs : List Cl} {d : List Ak} {n : Int} (h : InvO cs d n) (hl : cs.length = 8) (h0 : 0 ≤ n) (h1 : n ≤ 300) (x : Ak) (hv : (seenS cs (onceM x)).2.1 = 3) :
    atK d x d.length = -1 ∧ (keepS (seenS cs (onceM x)).1 (onceM x) (markM n x)).2 = true ∧ InvO (keepS (seenS cs (onceM x)).1 (onceM x) (markM n x)).1 (d ++ [⟨x.frm, x.boot, x.seq, n⟩]) (n + 1) := by
  have hi := h.seen hl (onceM x)
  rcases seen_state cs (onceM x) with ⟨_, e⟩ | ⟨hk, hm, c, hh, e, h2⟩
  · rw [e] at hv; simp at hv
  · obtain ⟨g1, _⟩ := may_ask hm hk
    unfold nodeI at g1
    have g1 : 0 ≤ x.frm ∧ x.frm < 8 := g1
    rcases h2 with ⟨_, e2⟩ | ⟨hlo, hhi, ⟨b, hf, e2⟩ | ⟨hf, e2⟩⟩
    · rw [e2] at hv; simp at hv
    · rw [e2] at hv; simp at hv
    · have hlo : c.low ≤ x.seq := hlo
      have hhi : x.seq < c.low + 8 := hhi
      have hf : findS c x.seq = none := hf
      have hg : (seenS cs (onceM x)).1.getD x.frm.toNat {} = c := by
        rw [e, show (onceM x).from_ = x.frm from rfl, getD_set _ _ _ _ _ (by omega), if_pos rfl]
      have hbt : c.boot = x.boot := (heard_cases hh).1
      have hno : ∀ y ∈ d, ¬ likeA y x := fun y hy hlk => by
        obtain ⟨_, _, _, a4⟩ := hi.i1 y hy
        rw [hlk.1, hg, hbt, hlk.2.1, hlk.2.2] at a4
        rcases a4 with a4 | ⟨_, a4 | a4⟩
        · omega
        · omega
        · unfold findS at hf
          rw [List.find?_eq_none] at hf
          have := hf _ a4
          have hs : (markM y.low y).seq = x.seq := hlk.2.2
          simp [hs] at this
      have hagain : seenS (seenS cs (onceM x)).1 (onceM x) = ((seenS cs (onceM x)).1, 3, {}) := by
        have hset : (seenS cs (onceM x)).1.set x.frm.toNat c = (seenS cs (onceM x)).1 := by
          rw [e, show (onceM x).from_ = x.frm from rfl, List.set_set]
        generalize (seenS cs (onceM x)).1 = cs2 at *
        unfold seenS
        rw [if_pos ⟨hk, hm⟩, show (onceM x).from_ = x.frm from rfl, hg, heard_again hh]
        simp only
        rw [if_neg (by show ¬ (x.seq < c.low ∨ c.low + 8 ≤ x.seq); omega), show (onceM x).seq = x.seq from rfl, hf, hset]
      obtain ⟨m1, m2⟩ := mark_may hm h0 h1
      have hkp : keepS (seenS cs (onceM x)).1 (onceM x) (markM n x) = ((seenS cs (onceM x)).1.set x.frm.toNat (addS c (markM n x)), true) := by
        unfold keepS
        rw [hagain]
        simp only
        rw [if_pos ⟨trivial, m2⟩, show (onceM x).from_ = x.frm from rfl, hg]
      rw [hkp]
      have hln : x.frm.toNat < (seenS cs (onceM x)).1.length := by rw [e, List.length_set, hl]; omega
      refine ⟨atK_none hno _ (Nat.le_refl _), rfl, fun y hy => ?_, fun f hf8 a ha => ?_, ?_⟩
      · rw [getD_set _ _ _ _ _ hln]
        rw [List.mem_append, List.mem_singleton] at hy
        rcases hy with hy | rfl
        · obtain ⟨a1, a2, a3, a4⟩ := hi.i1 y hy
          refine ⟨a1, a2, by omega, ?_⟩
          by_cases e2 : y.frm.toNat = x.frm.toNat
          · rw [if_pos e2]
            rw [e2, hg] at a4
            rcases a4 with a4 | ⟨a4, a5 | a5⟩
            · exact .inl a4
            · exact .inr ⟨a4, .inl a5⟩
            · exact .inr ⟨a4, .inr (by simp [addS, a5])⟩
          · rw [if_neg e2]; exact a4
        · refine ⟨g1, h0, by show n < n + 1; omega, ?_⟩
          rw [if_pos rfl]
          exact .inr ⟨hbt.symm, .inr (by simp [addS, markM])⟩
      · rw [getD_set _ _ _ _ _ hln] at ha ⊢
        by_cases e2 : f = x.frm.toNat
        · rw [if_pos e2] at ha ⊢
          simp only [addS, List.mem_append, List.mem_singleton] at ha
          rcases ha with ha | rfl
          · obtain ⟨y, hy, y1, y2, y3⟩ := hi.i2 f hf8 a (by rw [e2, hg]; exact ha)
            rw [e2, hg] at y2
            exact ⟨y, by simp [hy], y1, y2, y3⟩
          · exact ⟨⟨x.frm, x.boot, x.seq, n⟩, by simp, by rw [e2]; show x.frm = _; omega, hbt.symm, rfl⟩
        · rw [if_neg e2] at ha ⊢
          obtain ⟨y, hy, y1, y2, y3⟩ := hi.i2 f hf8 a ha
          exact ⟨y, by simp [hy], y1, y2, y3⟩
      · rw [List.pairwise_append]
        refine ⟨hi.i3, List.pairwise_singleton _ _, fun y hy z hz => ?_⟩
        rw [List.mem_singleton] at hz
        subst hz
        exact fun hlk => hno y hy hlk
theorem lenP_le {ps : List Pc} {cs : List Cl} (h : St ps cs) (k : Int) : lenP ps k ≤ 8 := by
  unfold lenP
  split
  · omega
  · have := List.length_filter_le (fun s : Sl => decide (0 < s.seq)) (ps.getD k.toNat {}).slots
    have h2 := (h.rc k.toNat).len
    omega
theorem mark_like {y x : Ak} (h : likeA y x) (i : Int) : markM i y = markM i x := by
  obtain ⟨h1, h2, h3⟩ := h
  unfold markM
  rw [h1, h2, h3]
end Go.Proofs.YtaipbikbapjmjaaGreat

/- Lists of requests that came in, and in rows of the call's own. No condition beyond what each theorem states. -/
namespace Go.Proofs.YtaipbikbapjmjaaGreat
open Go Go.ChangeShapes Go.WideShapes Go.ChangeAt Go.RowKit Go.Deep Go.PlainAid

def akC (x : Ak) : List Value := [.int .i64 x.frm, .int .i64 x.boot, .int .i64 x.seq, .int .i64 x.low]
def akL (l : List Ak) : List Value := (l.map akC).flatten
theorem akL_len : ∀ l : List Ak, (akL l).length = 4 * l.length
  | [] => rfl
  | x :: l => by
    have h := akL_len l
    unfold akL at h ⊢
    rw [List.map_cons, List.flatten_cons, List.length_append, h, List.length_cons]
    show 4 + _ = _; omega
theorem akL_snoc (l : List Ak) (x : Ak) : akL (l ++ [x]) = akL l ++ akC x := by simp [akL]
theorem akL_get (l : List Ak) (k : Nat) (hk : k < l.length) (j : Nat) (hj : j < 4) : (akL l)[k * 4 + j]? = (akC l[k])[j]? := by
  have e : l = l.take k ++ (l[k] :: l.drop (k + 1)) := by rw [← List.drop_eq_getElem_cons hk, List.take_append_drop]
  have h1 : akL l = akL (l.take k) ++ (akC l[k] ++ akL (l.drop (k + 1))) := by
    conv => lhs; rw [e]
    unfold akL
    rw [List.map_append, List.flatten_append, List.map_cons, List.flatten_cons]
  have h2 : (akL (l.take k)).length = k * 4 := by rw [akL_len, List.length_take]; omega
  rw [h1, List.getElem?_append_right (by omega), h2, Nat.add_sub_cancel_left, List.getElem?_append_left (by show j < 4; exact hj)]
/-- numbers that an int may be -/
def AkI (x : Ak) : Prop := (-9223372036854775808 ≤ x.frm ∧ x.frm < 9223372036854775808) ∧ (-9223372036854775808 ≤ x.boot ∧ x.boot < 9223372036854775808) ∧ (-9223372036854775808 ≤ x.seq ∧ x.seq < 9223372036854775808) ∧ (-9223372036854775808 ≤ x.low ∧ x.low < 9223372036854775808)
/-- a list of requests that came in -/
def ArgAk (w : World) (v : Value) (l : List Ak) : Prop := ∃ A c, v = .slice A l.length c ∧ l.length ≤ c ∧ (l ≠ [] → ∃ g o, A = some ⟨g, o, none⟩ ∧ g < w.heap.size ∧ ∀ k (h : k < l.length), AkI l[k] ∧ w.rangeAt g (o + k * 4) (akC l[k]))
theorem ArgAk.no {w w' : World} {v : Value} {l : List Ak} (h : ArgAk w v l) (hk : Kp No w w') : ArgAk w' v l := by
  obtain ⟨A, c, e, hc, h⟩ := h
  refine ⟨A, c, e, hc, fun hne => ?_⟩
  obtain ⟨g, o, e1, h1, h2⟩ := h hne
  exact ⟨g, o, e1, Nat.lt_of_lt_of_le h1 hk.size, fun k hk' => ⟨(h2 k hk').1, range_kp (h2 k hk').2 hk (fun m => m)⟩⟩
theorem addr_none {w : World} {a : Addr} {v : Value} (h : w.cell? (a.add 0) = some v) : ∃ b o, a = ⟨b, o, none⟩ := by
  obtain ⟨b, o, s⟩ := a
  cases s with
  | none => exact ⟨b, o, rfl⟩
  | some s =>
    exfalso
    simp only [World.cell?, Addr.add, if_true] at h
    split at h <;> simp_all
theorem mapM_some {α β : Type} {f : α → Option β} : ∀ {l : List α} {r : List β}, l.mapM f = some r → r.length = l.length ∧ ∀ i (h : i < l.length), f l[i] = r[i]?
  | [], r, h => by simp at h; subst h; exact ⟨rfl, by intro i hi; simp at hi⟩
  | a :: t, r, h => by
    rw [List.mapM_cons] at h
    cases ha : f a with
    | none => simp [ha] at h
    | some b =>
      cases ht : t.mapM f with
      | none => simp [ha, ht] at h
      | some bs =>
        simp [ha, ht] at h
        subst h
        obtain ⟨h1, h2⟩ := mapM_some ht
        refine ⟨by simp [h1], fun i hi => ?_⟩
        rcases i with _ | i
        · simpa using ha
        · simpa using h2 i (by simpa using hi)
section
variable {H : Type} {enc : TypeId × Value → H} {P : Program}
theorem open_asked {W : World} {b0 : Nat} {t e : TypeId} {f0 f1 f2 f3 : Field} {v : Value} {d : DataW H} {ps : List MemPlace} (ht : P.underlying t = some (.slice e)) (he : P.underlying e = some (.struct #[f0, f1, f2, f3]))
    (t0 : P.underlying f0.type = some (.int .i64)) (t1 : P.underlying f1.type = some (.int .i64)) (t2 : P.underlying f2.type = some (.int .i64)) (t3 : P.underlying f3.type = some (.int .i64))
    (c0 : P.cellsOf f0.type = 1) (c1 : P.cellsOf f1.type = 1) (c2 : P.cellsOf f2.type = 1) (c3 : P.cellsOf f3.type = 1) (ce : P.cellsOf e = 4) (o0 : f0.offset = 0) (o1 : f1.offset = 1) (o2 : f2.offset = 2) (o3 : f3.offset = 3)
    (be : P.bytesOf e = 32) (hv : Value.okWide P W .any b0 t v) (h : DataW.Trod enc P W 0 (fun _ => true) true t v d ps) (hz : ∀ n ∈ d.weights P t, n ≤ reachBytes) :
    ∃ l : List Ak, ArgAk W v l ∧ l.length * 32 ≤ reachBytes := by
  obtain ⟨a, len, cap, rfl⟩ := okWide_slice ht hv
  obtain ⟨fuel, hf⟩ := h
  rcases open_slice ht hf with ⟨hcs, hx⟩ | ⟨a', len', cap', m, n, D, Pl, hcs, _, hl, hm, hmm, hx, hr⟩
  · simp [Value.cells] at hcs
    obtain ⟨rfl, rfl, rfl⟩ := hcs
    exact ⟨[], ⟨Option.none, 0, rfl, Nat.le_refl _, fun h => absurd rfl h⟩, by simp⟩
  · simp [Value.cells] at hcs
    obtain ⟨rfl, rfl, rfl⟩ := hcs
    simp at hmm
    subst hmm
    injection hx with hd _
    have hone : ∀ i, i < len → ∃ o : Ak, AkI o ∧ ∀ j v, (akC o)[j]? = some v → W.cell? ((a'.add (i * 4)).add j) = some v := fun i hi => by
      obtain ⟨cs', hcs', htr⟩ := hr i (by omega)
      rw [ce] at hcs'
      obtain ⟨xs, n', _, _, hcl, hxl, hg⟩ := DataW.trod_struct he htr
      unfold World.cells? at hcs'
      rw [if_pos (Nat.zero_le _)] at hcs'
      obtain ⟨hl4, hc4⟩ := mapM_some hcs'
      simp only [List.length_range] at hl4 hc4
      match cs', hl4, hcs', hc4, hg with
      | [v0, v1, v2, v3], _, _, hc4, hg =>
        have g0 := hg 0 f0 rfl
        have g1 := hg 1 f1 rfl
        have g2 := hg 2 f2 rfl
        have g3 := hg 3 f3 rfl
        rw [o0, c0] at g0; rw [o1, c1] at g1; rw [o2, c2] at g2; rw [o3, c3] at g3
        match xs, hxl with
        | [y0, y1, y2, y3], _ =>
          simp at g0 g1 g2 g3
          obtain ⟨n0, e0, _, w0⟩ := DataW.trod_int t0 g0
          obtain ⟨n1, e1, _, w1⟩ := DataW.trod_int t1 g1
          obtain ⟨n2, e2, _, w2⟩ := DataW.trod_int t2 g2
          obtain ⟨n3, e3, _, w3⟩ := DataW.trod_int t3 g3
          simp at e0 e1 e2 e3
          subst e0 e1 e2 e3
          refine ⟨⟨n0, n1, n2, n3⟩, ?_, fun j v hj => ?_⟩
          · have := bounds_i64 w0; have := bounds_i64 w1; have := bounds_i64 w2; have := bounds_i64 w3
            unfold AkI
            simp only
            omega
          · simp only [akC] at hj
            have hj4 : j < 4 := (List.getElem?_eq_some_iff.1 hj).1
            have := hc4 j hj4
            rw [List.getElem_range] at this
            rw [this]
            exact hj
    obtain ⟨f, hf'⟩ : ∃ f : Nat → Ak, ∀ i, i < len → AkI (f i) ∧ ∀ j v, (akC (f i))[j]? = some v → W.cell? ((a'.add (i * 4)).add j) = some v :=
      ⟨fun i => if h : i < len then (hone i h).choose else ⟨0, 0, 0, 0⟩, fun i hi => by
        simp only [dif_pos hi]
        exact (hone i hi).choose_spec⟩
    refine ⟨(List.range len).map f, ⟨some a', m, by simp, by simp; omega, fun hne => ?_⟩, ?_⟩
    · have hlen : 0 < len := by
        rcases Nat.eq_zero_or_pos len with h0 | h0
        · subst h0; simp at hne
        · exact h0
      have h00 := (hf' 0 hlen).2 0 (.int .i64 (f 0).frm) rfl
      rw [add_add, Nat.zero_mul] at h00
      obtain ⟨b, o, rfl⟩ := addr_none h00
      refine ⟨b, o, rfl, ?_, fun k hk => ⟨by simpa using (hf' k (by simpa using hk)).1, fun j v hj => ?_⟩⟩
      · have := World.block_lt_of_cell? W _ h00
        rwa [Addr.add_mid] at this
      · have hk' : k < len := by simpa using hk
        simp only [List.getElem_map, List.getElem_range] at hj
        have := (hf' k hk').2 j v hj
        rw [add_add, Addr.add_mid] at this
        rw [Nat.add_assoc]; exact this
    · simp only [List.length_map, List.length_range]
      have := hz ((len + (m - len)) * P.bytesOf e) (by rw [hd]; simp [DataW.weights, ht])
      rw [be] at this
      omega
end
theorem mark_rng {k : Int} {x : Ak} (h1 : k ≤ 300) (ht : onceTo x.frm < 9223372036854775808) (hf : x.frm < 9223372036854775808) (hb : x.boot < 9223372036854775808) (hs : x.seq < 9223372036854775808) : Rng (markM k x) := by
  refine ⟨fun y hy => ?_, fun y hy => ?_⟩
  · simp only [markM, List.mem_cons, List.not_mem_nil, or_false] at hy
    rcases hy with rfl | rfl | rfl | rfl | rfl | rfl | rfl | rfl | rfl | rfl | rfl | rfl | rfl <;> omega
  · have : y = k + 1 := by simpa [markM] using hy
    omega
/-- one of a row of the call's own -/
theorem own_ak {w : World} {base : Nat} {t : TypeId} {v : Value} {l : List Ak} (h : w.ownsRow base t 4 v l.length (akL l)) {k : Nat} (hk : k < l.length) : ∃ g c, v = .slice (some ⟨g, 0, none⟩) l.length c ∧ l.length ≤ c ∧ w.rangeAt g (k * 4) (akC l[k]) := by
  obtain ⟨g, c, e, hc, _, _⟩ := own_form h (by omega)
  refine ⟨g, c, e, hc, fun j u hu => ?_⟩
  have hj : j < 4 := (List.getElem?_eq_some_iff.1 hu).1
  have := h.cells (g := g) (by rw [e]; rfl) (k * 4 + j) u (by rw [akL_get l k hk j hj]; exact hu)
  rw [Addr.add_mid, Nat.zero_add] at this
  exact this
end Go.Proofs.YtaipbikbapjmjaaGreat
