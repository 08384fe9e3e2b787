/- Several texts of this claim in one. No condition beyond what each theorem states. -/
import Derived.Test.YtbnpdghfbiacaaaGreatB01
import Derived.Lib.Hide
import Derived.Laws.BitsAllLaws
import Derived.Deep.RegionLaw
import Derived.Deep.Cut
import Derived.Deep.CutRange
import Derived.Deep.DeepCutAuto
import Derived.PlainAid
import Derived.OwnWalk
import Derived.Laws.ShiftsVarLaws
/- Fields of a message, in plain words (wire): how each goes out, how it comes in, whether it may be so. No condition beyond what each theorem states. -/
namespace Go.Proofs.YtbnpdghfbiacaaaGreat
open Go

structure Fld where
  out : Msg → List UInt8
  inn : Rd → Msg → Msg × Rd
  may : Msg → Bool
def fN (get : Msg → Int) (set : Msg → Int → Msg) (may : Msg → Bool) : Fld := ⟨fun m => nS (get m), fun s m => (set m (rdNum s).1, (rdNum s).2), may⟩
def fBoot : Fld := fN Msg.boot (fun m x => { m with boot := x }) fun m => decide (cntI m.boot)
def fSeq : Fld := fN Msg.seq (fun m x => { m with seq := x }) fun m => decide (cntI m.seq)
def fLow : Fld := fN Msg.low (fun m x => { m with low := x }) fun m => decide (1 ≤ m.low ∧ m.low ≤ m.seq)
def fVerb : Fld := fN Msg.verb (fun m x => { m with verb := x }) fun _ => true
def fCode : Fld := fN Msg.code (fun m x => { m with code := x }) fun m => decide (0 ≤ m.code ∧ m.code ≤ 99)
def fMode : Fld := fN Msg.mode (fun m x => { m with mode := x }) fun m => decide (modeI m.mode)
def fTerm : Fld := fN Msg.term (fun m x => { m with term := x }) fun m => decide (termI m.term)
def fGrant : Fld := fN Msg.term (fun m x => { m with term := x }) fun m => decide (termI m.term ∧ m.stamp ≠ [] ∨ m.term = 0 ∧ m.stamp = [])
def fId : Fld := fN Msg.id (fun m x => { m with id := x }) fun m => decide (cntI m.id)
def fOrigin : Fld := fN Msg.origin (fun m x => { m with origin := x }) fun m => decide (nodeI m.origin)
def fNumber : Fld := fN Msg.number (fun m x => { m with number := x }) fun m => decide (cntI m.number)
def fPath (vp : List UInt8 → Bool) : Fld := ⟨fun m => textS m.path, fun s m => ({ m with path := (rdText 200 s).1 }, (rdText 200 s).2), fun m => vp m.path⟩
def fFresh : Fld := ⟨fun m => nS (if m.fresh then 1 else 0), fun s m => ({ m with fresh := decide ((rdNum s).1 = 1) }, (rdNum s).2), fun _ => true⟩
def fStamp : Fld := ⟨fun m => cS m.stamp, fun s m => ({ m with stamp := m.stamp ++ (rdCnts s).1.map Int.ofNat }, (rdCnts s).2), fun m => decide (stampI m.stamp)⟩
def fNone : Fld := ⟨fun _ => [], fun s m => (m, s), fun _ => false⟩
section
variable (vp : List UInt8 → Bool)
def askedF (v : Int) : List Fld := if v = 1 then [fPath vp, fMode, fTerm] else if v = 2 then [fId, fTerm, fFresh] else if v = 3 then [fId] else [fNone]
def fieldsF (m : Msg) : List Fld :=
  if m.kind = 1 then [fBoot, fSeq, fLow, fVerb] ++ askedF vp m.verb
  else if m.kind = 2 then [fBoot, fSeq, fCode] ++ (if m.code = 0 then [fId, fGrant, fStamp] else [])
  else if m.kind = 3 then [fId, fPath vp, fOrigin, fNumber]
  else if m.kind = 4 then [fId, fOrigin, fNumber]
  else if m.kind = 5 then [fPath vp, fMode, fStamp]
  else []
def outF (L : List Fld) (m : Msg) : List UInt8 := (L.map fun f => f.out m).flatten
theorem body_fields (m : Msg) : bodyS m = nS m.kind ++ nS m.from_ ++ nS m.dest ++ outF (fieldsF vp m) m := by
  unfold bodyS fieldsF askedF outF
  repeat' split
  all_goals simp_all [fN, fBoot, fSeq, fLow, fVerb, fCode, fMode, fTerm, fGrant, fId, fOrigin, fNumber, fPath, fFresh, fStamp, fNone]
theorem fields_le (m : Msg) : (fieldsF vp m).length ≤ 7 := by
  unfold fieldsF askedF
  repeat' split
  all_goals simp
/-- the fields are taken up one behind the other: those that are known by then -/
def goF : Nat → Nat → Msg → Rd → Msg
  | 0, _, m, _ => m
  | n + 1, i, m, s => match (fieldsF vp m)[i]? with
    | none => m
    | some f => goF n (i + 1) (f.inn s m).1 (f.inn s m).2
theorem goF_end {i : Nat} {m : Msg} (h : (fieldsF vp m).length ≤ i) (n : Nat) (s : Rd) : goF vp n i m s = m := by
  cases n with
  | zero => rfl
  | succ n => unfold goF; rw [List.getElem?_eq_none h]
theorem goF_step {i : Nat} {m : Msg} (h : i < (fieldsF vp m).length) (n : Nat) (s : Rd) : goF vp (n + 1) i m s = goF vp n (i + 1) (((fieldsF vp m)[i]'h).inn s m).1 (((fieldsF vp m)[i]'h).inn s m).2 := by
  rw [goF, List.getElem?_eq_getElem h]
def headM (b : List UInt8) : Msg := { kind := (rdNum (b, 0)).1, from_ := (rdNum (rdNum (b, 0)).2).1, dest := (rdNum (rdNum (rdNum (b, 0)).2).2).1 }
def headR (b : List UInt8) : Rd := (rdNum (rdNum (rdNum (b, 0)).2).2).2
theorem goF_take (b : List UInt8) : goF vp 8 0 (headM b) (headR b) = takeMsg b := by
  unfold takeMsg headM headR
  generalize rdNum (b, 0) = a0
  obtain ⟨k, s0⟩ := a0
  simp only
  generalize rdNum s0 = a1
  obtain ⟨f, s1⟩ := a1
  simp only
  generalize rdNum s1 = a2
  obtain ⟨t, s2⟩ := a2
  simp only
  have e1 : ∀ j : Nat, ((k : Int) = ((j : Nat) : Int)) ↔ k = j := by omega
  by_cases k1 : k = 1
  · subst k1
    by_cases v1 : (rdNum (rdNum (rdNum (rdNum s2).2).2).2).1 = 1
    · simp [goF, fieldsF, askedF, fN, fBoot, fSeq, fLow, fVerb, fMode, fTerm, fPath, v1]
    · by_cases v2 : (rdNum (rdNum (rdNum (rdNum s2).2).2).2).1 = 2
      · simp [goF, fieldsF, askedF, fN, fBoot, fSeq, fLow, fVerb, fTerm, fId, fFresh, v2]
      · by_cases v3 : (rdNum (rdNum (rdNum (rdNum s2).2).2).2).1 = 3
        · simp [goF, fieldsF, askedF, fN, fBoot, fSeq, fLow, fVerb, fId, v3]
        · have w1 : ¬ ((rdNum (rdNum (rdNum (rdNum s2).2).2).2).1 : Int) = 1 := by omega
          have w2 : ¬ ((rdNum (rdNum (rdNum (rdNum s2).2).2).2).1 : Int) = 2 := by omega
          have w3 : ¬ ((rdNum (rdNum (rdNum (rdNum s2).2).2).2).1 : Int) = 3 := by omega
          simp [goF, fieldsF, askedF, fN, fBoot, fSeq, fLow, fVerb, fNone, v1, v2, v3, w1, w2, w3]
  · have j1 : ¬ (k : Int) = 1 := by omega
    by_cases k2 : k = 2
    · subst k2
      by_cases c0 : (rdNum (rdNum (rdNum s2).2).2).1 = 0
      · simp [goF, fieldsF, fN, fBoot, fSeq, fCode, fId, fGrant, fStamp, c0]
      · have d0 : ¬ ((rdNum (rdNum (rdNum s2).2).2).1 : Int) = 0 := by omega
        simp [goF, fieldsF, fN, fBoot, fSeq, fCode, fId, fGrant, fStamp, c0]
    · have j2 : ¬ (k : Int) = 2 := by omega
      by_cases k3 : k = 3
      · subst k3
        simp [goF, fieldsF, fN, fId, fPath, fOrigin, fNumber]
      · have j3 : ¬ (k : Int) = 3 := by omega
        by_cases k4 : k = 4
        · subst k4
          simp [goF, fieldsF, fN, fId, fOrigin, fNumber]
        · have j4 : ¬ (k : Int) = 4 := by omega
          by_cases k5 : k = 5
          · subst k5
            simp [goF, fieldsF, fN, fPath, fMode, fStamp]
          · have j5 : ¬ (k : Int) = 5 := by omega
            simp [goF, fieldsF, k1, k2, k3, k4, k5, j1, j2, j3, j4, j5]
theorem used_take (b : List UInt8) : usedS (takeMsg b) = takeMsg b := by
  unfold takeMsg
  generalize rdNum (b, 0) = a0
  obtain ⟨k, s0⟩ := a0
  simp only
  generalize rdNum s0 = a1
  obtain ⟨f, s1⟩ := a1
  simp only
  generalize rdNum s1 = a2
  obtain ⟨t, s2⟩ := a2
  simp only
  by_cases k1 : k = 1
  · subst k1
    generalize rdNum s2 = a3
    obtain ⟨x3, s3⟩ := a3
    simp only
    generalize rdNum s3 = a4
    obtain ⟨x4, s4⟩ := a4
    simp only
    generalize rdNum s4 = a5
    obtain ⟨x5, s5⟩ := a5
    simp only
    generalize rdNum s5 = a6
    obtain ⟨v, s6⟩ := a6
    simp only
    by_cases v1 : v = 1
    · subst v1; simp [usedS]
    · by_cases v2 : v = 2
      · subst v2; simp [usedS]
      · by_cases v3 : v = 3
        · subst v3; simp [usedS]
        · have w1 : ¬ (v : Int) = 1 := by omega
          have w2 : ¬ (v : Int) = 2 := by omega
          have w3 : ¬ (v : Int) = 3 := by omega
          simp [usedS, v1, v2, v3, w1, w2, w3]
  · have j1 : ¬ (k : Int) = 1 := by omega
    by_cases k2 : k = 2
    · subst k2
      by_cases c0 : (rdNum (rdNum (rdNum s2).2).2).1 = 0
      · simp [usedS, c0]
      · have d0 : ¬ ((rdNum (rdNum (rdNum s2).2).2).1 : Int) = 0 := by omega
        simp [usedS, c0]
    · have j2 : ¬ (k : Int) = 2 := by omega
      by_cases k3 : k = 3
      · subst k3; simp [usedS]
      · have j3 : ¬ (k : Int) = 3 := by omega
        by_cases k4 : k = 4
        · subst k4; simp [usedS]
        · have j4 : ¬ (k : Int) = 4 := by omega
          by_cases k5 : k = 5
          · subst k5; simp [usedS]
          · have j5 : ¬ (k : Int) = 5 := by omega
            simp [usedS, k1, k2, k3, k4, k5, j1, j2, j3, j4, j5]
/-- what the program asks of a message -/
def validP (m : Msg) : Prop := fieldsF vp m ≠ [] ∧ nodeI m.from_ ∧ m.from_ ≠ m.dest ∧ (m.kind = 5 → 8 ≤ m.dest ∧ m.dest < 12) ∧ (m.kind ≠ 5 → nodeI m.dest) ∧ (∀ f ∈ fieldsF vp m, f.may m = true)
theorem valid_iff (hvp : ∀ l, vp l = true → l.length ≤ 27) (m : Msg) : mayS vp m ↔ validP vp m ∧ takeMsg (bodyS m) = m := by
  constructor
  · intro h
    obtain ⟨hf, hv⟩ := fit_of hvp h
    have ht := take_body m hf []
    rw [if_neg hv, List.append_nil] at ht
    refine ⟨?_, by rw [ht]; exact h.1⟩
    obtain ⟨_, h1, h2, h3⟩ := h
    refine ⟨?_, h1, h2, ?_⟩
    · unfold fineS at h3
      unfold fieldsF
      repeat' split
      all_goals simp_all
    · unfold fineS at h3
      unfold fieldsF askedF
      refine ⟨fun k5 => ?_, fun k5 => ?_, ?_⟩
      · rw [k5] at h3; simp at h3; omega
      · by_cases k1 : m.kind = 1
        · rw [if_pos k1] at h3; exact h3.1
        · rw [if_neg k1] at h3
          by_cases k2 : m.kind = 2
          · rw [if_pos k2] at h3; exact h3.1
          · rw [if_neg k2] at h3
            by_cases k3 : m.kind = 3
            · rw [if_pos k3] at h3; exact h3.1
            · rw [if_neg k3] at h3
              by_cases k4 : m.kind = 4
              · rw [if_pos k4] at h3; exact h3.1
              · rw [if_neg k4, if_neg k5] at h3; exact h3.elim
      · by_cases k1 : m.kind = 1
        · rw [if_pos k1] at h3 ⊢
          by_cases v1 : m.verb = 1
          · simp_all [fN, fBoot, fSeq, fLow, fVerb, fMode, fTerm, fPath]
          · by_cases v2 : m.verb = 2
            · simp_all [fN, fBoot, fSeq, fLow, fVerb, fTerm, fId, fFresh]
            · by_cases v3 : m.verb = 3
              · simp_all [fN, fBoot, fSeq, fLow, fVerb, fId]
              · simp_all
        · rw [if_neg k1] at h3 ⊢
          by_cases k2 : m.kind = 2
          · rw [if_pos k2] at h3 ⊢
            by_cases c0 : m.code = 0
            · simp_all [fN, fBoot, fSeq, fCode, fId, fGrant, fStamp]
              rcases h3.2.2.2.2.2 with ⟨q1, q2⟩ | ⟨q1, q2⟩
              · simp_all
              · simp_all
            · simp_all [fN, fBoot, fSeq, fCode]
          · rw [if_neg k2] at h3 ⊢
            by_cases k3 : m.kind = 3
            · simp_all [fN, fId, fPath, fOrigin, fNumber]
            · by_cases k4 : m.kind = 4
              · simp_all [fN, fId, fOrigin, fNumber]
              · by_cases k5 : m.kind = 5
                · simp_all [fN, fMode, fPath, fStamp]
                · simp_all
  · rintro ⟨⟨h0, h1, h2, h3, h4, h5⟩, ht⟩
    refine ⟨by rw [← ht]; exact used_take _, h1, h2, ?_⟩
    unfold fieldsF askedF at h5 h0
    unfold fineS
    by_cases k1 : m.kind = 1
    · rw [if_pos k1] at h5 ⊢
      have := h4 (by omega)
      by_cases v1 : m.verb = 1
      · simp_all [fN, fBoot, fSeq, fLow, fVerb, fMode, fTerm, fPath]
      · by_cases v2 : m.verb = 2
        · simp_all [fN, fBoot, fSeq, fLow, fVerb, fTerm, fId, fFresh]
        · by_cases v3 : m.verb = 3
          · simp_all [fN, fBoot, fSeq, fLow, fVerb, fId]
          · simp_all [fNone]
    · rw [if_neg k1] at h5 ⊢
      by_cases k2 : m.kind = 2
      · rw [if_pos k2] at h5 ⊢
        have := h4 (by omega)
        by_cases c0 : m.code = 0
        · simp_all [fN, fBoot, fSeq, fCode, fId, fGrant, fStamp]
          rcases h5.2.2.2.1 with ⟨q1, q2⟩ | ⟨q1, q2⟩
          · simp_all
          · simp_all
        · simp_all [fN, fBoot, fSeq, fCode]
      · rw [if_neg k2] at h5 ⊢
        by_cases k3 : m.kind = 3
        · have := h4 (by omega)
          simp_all [fN, fId, fPath, fOrigin, fNumber]
        · by_cases k4 : m.kind = 4
          · have := h4 (by omega)
            simp_all [fN, fId, fOrigin, fNumber]
          · by_cases k5 : m.kind = 5
            · have := h3 k5
              simp_all [fN, fMode, fPath, fStamp]
            · simp_all
end
end Go.Proofs.YtbnpdghfbiacaaaGreat

/- Lists of ints in memory: no condition beyond what each theorem states. -/
namespace Go.Proofs.YtbnpdghfbiacaaaGreat
open Go Go.RowKit

def ints (L : List Int) : List Value := L.map (Value.int .i64)
@[simp] theorem ints_length (L : List Int) : (ints L).length = L.length := by simp [ints]
theorem ints_get (L : List Int) (j : Nat) : (ints L)[j]? = (L[j]?).map (Value.int .i64) := by simp [ints]
theorem ints_append (L M : List Int) : ints (L ++ M) = ints L ++ ints M := by simp [ints]
theorem ints_one (L : List Int) : ∀ u ∈ ints L, u.oneCell' = true := by
  intro v hv; simp only [ints, List.mem_map] at hv; obtain ⟨c, _, rfl⟩ := hv; rfl
theorem ints_take (L : List Int) (k : Nat) : ints (L.take k) = (ints L).take k := by simp [ints]
/-- what a slice of ints holds -/
def ArgInts (w : World) (v : Value) (L : List Int) : Prop := ∃ A c, v = .slice A L.length c ∧ L.length ≤ c ∧ Cs w A (ints L)
theorem Cs.kp {w w' : World} {A : Option Addr} {xs : List Value} {M : Nat → Prop} (h : Cs w A xs) (hk : Kp M w w') (hM : ∀ g o, A = some ⟨g, o, none⟩ → ¬ M g) : Cs w' A xs := fun hx => by
  obtain ⟨g, o, e, hr⟩ := h hx
  exact ⟨g, o, e, range_kp hr hk (hM g o e)⟩
theorem ArgInts.kp {w w' : World} {v : Value} {L : List Int} {M : Nat → Prop} (h : ArgInts w v L) (hk : Kp M w w') (hM : ∀ g o n c, v = .slice (some ⟨g, o, none⟩) n c → ¬ M g) : ArgInts w' v L := by
  obtain ⟨A, c, rfl, hc, h⟩ := h
  exact ⟨A, c, rfl, hc, h.kp hk fun g o e => hM g o _ _ (by rw [e])⟩
theorem ArgInts.no {w w' : World} {v : Value} {L : List Int} (h : ArgInts w v L) (hk : Kp No w w') : ArgInts w' v L := h.kp hk fun _ _ _ _ _ m => m
theorem ArgInts.nil (w : World) (A : Option Addr) (c : Nat) : ArgInts w (.slice A 0 c) [] := ⟨A, c, rfl, Nat.zero_le _, fun h => absurd rfl h⟩
theorem ArgInts.at_ {w : World} {v : Value} {L : List Int} (h : ArgInts w v L) {k : Nat} (hk : k < L.length) : ∃ g o c, v = .slice (some ⟨g, o, none⟩) L.length c ∧ ∀ j x, L[j]? = some x → w.cell? ⟨g, o + j, none⟩ = some (.int .i64 x) := by
  obtain ⟨A, c, rfl, hc, hcs⟩ := h
  obtain ⟨g, o, rfl, hr⟩ := hcs (by intro e; have h0 := congrArg List.length e; rw [ints_length, List.length_nil] at h0; omega)
  exact ⟨g, o, c, rfl, fun j x hx => hr j _ (by rw [ints_get, hx]; rfl)⟩
theorem ArgInts.take {w : World} {A : Option Addr} {n c : Nat} {L : List Int} (h : ArgInts w (.slice A n c) L) (k : Nat) (hk : k ≤ L.length) : ArgInts w (.slice A k c) (L.take k) := by
  obtain ⟨A', c', e, hc, h⟩ := h
  injection e with e1 e2 e3
  subst e1 e2 e3
  refine ⟨A, c, by rw [List.length_take, Nat.min_eq_left hk], by rw [List.length_take]; omega, fun hx => ?_⟩
  obtain ⟨g, o, rfl, hr⟩ := h (fun e => hx (by rw [ints_take, e]; simp))
  refine ⟨g, o, rfl, fun j v hv => hr j v ?_⟩
  rw [ints_take, List.getElem?_take] at hv
  split at hv
  · exact hv
  · cases hv
theorem ArgInts.cs {w : World} {A : Option Addr} {n c : Nat} {L : List Int} (h : ArgInts w (.slice A n c) L) : Cs w A (ints L) ∧ n = L.length ∧ n ≤ c := by
  obtain ⟨A', c', e, hc, h⟩ := h
  injection e with e1 e2 e3
  subst e1 e2 e3
  exact ⟨h, rfl, hc⟩
theorem own_argI {w : World} {B : Nat} {v : Value} {L : List Int} {n : Nat} {t : TypeId} (hown : w.ownsRow B t 1 v n (ints L)) : ArgInts w v L := by
  have hl : L.length = n := by have := hown.1; simp at this; omega
  subst hl
  rcases hown.2 with ⟨rfl, h0⟩ | ⟨g, cap, cur, rfl, hb, hh, h1, h2, h3, h4⟩
  · exact ⟨Option.none, 0, by rw [h0], by omega, fun hx => absurd (List.eq_nil_of_length_eq_zero (by simp [h0])) hx⟩
  · refine ⟨_, cap, rfl, by omega, fun hx => ⟨g, 0, rfl, fun j v hv => ?_⟩⟩
    have := hown.cells (g := g) rfl j v hv
    rwa [Addr.add_mid] at this
theorem own_kp {w w' : World} {base : Nat} {e : TypeId} {size n : Nat} {v : Value} {xs : List Value} {M : Nat → Prop} (h : w.ownsRow base e size v n xs) (hk : Kp M w w') (hm : ∀ g, v.ownBlock = some g → ¬ M g) : w'.ownsRow base e size v n xs := by
  refine ⟨h.1, ?_⟩
  rcases h.2 with hn | ⟨g, cap, cur, rfl, hb, hgg, rest⟩
  · exact .inl hn
  · exact .inr ⟨g, cap, cur, rfl, hb, (hk.block g (Array.getElem?_eq_some_iff.1 hgg).1 (hm g rfl)).trans hgg, rest⟩
theorem own_mono {w : World} {base base' : Nat} {e : TypeId} {size n : Nat} {v : Value} {xs : List Value} (h : w.ownsRow base e size v n xs) (hb : base' ≤ base) : w.ownsRow base' e size v n xs := by
  refine ⟨h.1, ?_⟩
  rcases h.2 with hn | ⟨g, cap, cur, rfl, hb', rest⟩
  · exact .inl hn
  · exact .inr ⟨g, cap, cur, rfl, by omega, rest⟩
theorem own_fresh (w : World) (base : Nat) (e : TypeId) (hb : base ≤ w.heap.size) : (w.alloc (.cells #[] e)).ownsRow base e 1 (.slice (some ⟨w.heap.size, 0, none⟩) 0 0) 0 [] := by
  refine ⟨rfl, .inr ⟨w.heap.size, 0, #[], rfl, hb, heap_alloc_new w _, ?_, ?_, ?_, ?_⟩⟩ <;> simp
theorem own_of_bk {w : World} {g : Nat} {t : TypeId} {cs : List Value} {base n cap : Nat} (h : Bk w g t cs) (hb : base ≤ g) (hn : cs.length = cap) (hc : n ≤ cap) (hm : cap ≤ maxLen) : w.ownsRow base t 1 (.slice (some ⟨g, 0, none⟩) n cap) n (cs.take n) :=
  ⟨by rw [List.length_take]; omega, .inr ⟨g, cap, cs.toArray, rfl, hb, h, hc, hm, by simp [hn], by rw [Nat.mul_one]⟩⟩
theorem own_len {w : World} {B n size : Nat} {t : TypeId} {v : Value} {xs : List Value} (h : w.ownsRow B t size v n xs) : ∃ A c, v = .slice A n c ∧ n ≤ c := by
  rcases h.2 with ⟨rfl, rfl⟩ | ⟨g, cap, cur, hv, _, _, hc, _⟩
  · exact ⟨_, _, rfl, Nat.le_refl _⟩
  · exact ⟨_, _, hv, hc⟩
theorem own_form {w : World} {B n size : Nat} {t : TypeId} {v : Value} {xs : List Value} (h : w.ownsRow B t size v n xs) (hn : 0 < n) : ∃ g cap, v = .slice (some ⟨g, 0, none⟩) n cap ∧ n ≤ cap ∧ B ≤ g ∧ g < w.heap.size := by
  rcases h.2 with ⟨_, h0⟩ | ⟨g, cap, cur, hv, _, _, hc, _⟩
  · omega
  · have := h.lt g (by rw [hv]; rfl)
    exact ⟨g, cap, hv, hc, this.1, this.2⟩

theorem nil_own (w : World) (base : Nat) (e : TypeId) (size : Nat) : w.ownsRow base e size (.slice none 0 0) 0 [] := World.ownsRow_nil w base e size
section
variable {P : Program}
/-- append(v, xs...): cells onto a row of the call's own, nil or not, from whatever source -/
theorem run_appV (w : World) (t ty : TypeId) (base : Nat) (e : TypeId) (z : Value) (bytes : Nat) (ht : P.underlying t = some (.slice e)) (hi : (P.info? e).map (fun i => (i.zero, i.size, i.bytes)) = some (some z, 1, bytes)) (hzs : z.cells.size = 1)
    (v : Value) (n : Nat) (xs : List Value) (hown : w.ownsRow base e 1 v n xs)
    (A : Option Addr) (m c : Nat) (news : List Value) (hl : news.length = m) (hc : Cs w A news) (h1 : ∀ u ∈ news, u.oneCell' = true)
    (hn : n + m ≤ 281474976710656) (hbytes : (n + m) * bytes ≤ 140737488355328) (hbase : base ≤ w.heap.size) :
    ∃ v' w', (Builtin.append_ #[t, t] ty #[v, .slice A m c]).run P w = .ok v' w' ∧ w'.ownsRow base e 1 v' (n + m) (xs ++ news) ∧ Kp (fun k => v.ownBlock = some k) w w' ∧ (∀ g, v'.ownBlock = some g → v.ownBlock = some g ∨ g = w.heap.size) := by
  obtain ⟨i0, hi0, hz0, hz1, hz2⟩ := info_parts hi
  cases A with
  | none =>
    have hm : news = [] := by
      by_cases hne : news = []
      · exact hne
      · obtain ⟨g, o, e, _⟩ := hc hne; cases e
    subst hm
    have hm0 : m = 0 := by simpa using hl.symm
    subst hm0
    refine ⟨v, w, ?_, by simpa using hown, Kp.refl _ _, fun g h => .inl h⟩
    rcases hown.2 with ⟨rfl, rfl⟩ | ⟨g, cap, cur, rfl, _, _, hnc, _⟩
    · simp [Builtin.append_, run_underlying ht, sizeOf, typeInfo, hi0, Builtin.lenOf, Builtin.firstCells]
    · simp [Builtin.append_, run_underlying ht, sizeOf, typeInfo, hi0, Builtin.lenOf, Builtin.firstCells, hnc, storeCells]
  | some ad =>
    have hnews : ∀ j u, news[j]? = some u → w.cell? (ad.add j) = some u := by
      intro j u hu
      obtain ⟨g, o, e, hr⟩ := hc (by intro e; subst e; simp at hu)
      injection e with e; subst e
      rw [Addr.add_mid]; exact hr j u hu
    obtain ⟨v', w', hr, h2, h3, _, h5⟩ := run_append_own_at (P := P) w base t ty e i0 z 1 bytes ht hi0 hz0 hz1 hz2 hzs (by omega) v n xs hown ad m c news (by omega) hnews h1 (by unfold maxLen; omega) hbytes hbase
    refine ⟨v', w', hr, h2, (Kp.of_grownBy h3).mono (fun k _ e => e), fun g hg => ?_⟩
    rcases h5 with e | e
    · left; rw [← e]; exact hg
    · right; rw [e] at hg; injection hg with hg; exact hg.symm
theorem wp_appV (w : World) {o : Oper} {a : Act} {K : Act → World → Prop} {Q : Exit → Act → World → Prop} (s x : Operand) (t : TypeId)
    (ho : o.op = .call { callee := .builtin .append, args := #[s, x], argTypes := #[t, t] })
    (base : Nat) (e : TypeId) (z : Value) (bytes : Nat) (ht : P.underlying t = some (.slice e)) (hi : (P.info? e).map (fun i => (i.zero, i.size, i.bytes)) = some (some z, 1, bytes)) (hzs : z.cells.size = 1)
    (v : Value) (n : Nat) (xs : List Value) (hs : a.eval s = v) (hown : w.ownsRow base e 1 v n xs)
    (A : Option Addr) (m c : Nat) (news : List Value) (hx : a.eval x = .slice A m c) (hl : news.length = m) (hc : Cs w A news) (h1 : ∀ u ∈ news, u.oneCell' = true)
    (hn : n + m ≤ 281474976710656) (hbytes : (n + m) * bytes ≤ 140737488355328) (hbase : base ≤ w.heap.size)
    (h : ∀ v' w', w'.ownsRow base e 1 v' (n + m) (xs ++ news) → Kp (fun k => v.ownBlock = some k) w w' → (∀ g, v'.ownBlock = some g → v.ownBlock = some g ∨ g = w.heap.size) → K (a.put o.dst v') w') : o.wp P a w K Q := by
  obtain ⟨v', w', hr, h2, h3, h4⟩ := run_appV (P := P) w t o.type base e z bytes ht hi hzs v n xs hown A m c news hl hc h1 hn hbytes hbase
  unfold Oper.wp execOp
  simp only [ho, resolve, invoke, builtin, Sem.run_bind, Sem.run_pure, Result.andThen_ok, List.map_toArray, List.map_cons, List.map_nil, hs, hx, hr]
  exact h v' w' h2 h3 h4
theorem wpList_appV (w : World) {ops : Array Oper} {rest : List Oper} {o : Oper} {a : Act} {Q : Exit → Act → World → Prop} (hgd : o.guard = none) (s x : Operand) (t : TypeId)
    (ho : o.op = .call { callee := .builtin .append, args := #[s, x], argTypes := #[t, t] })
    (base : Nat) (e : TypeId) (z : Value) (bytes : Nat) (ht : P.underlying t = some (.slice e)) (hi : (P.info? e).map (fun i => (i.zero, i.size, i.bytes)) = some (some z, 1, bytes)) (hzs : z.cells.size = 1)
    (v : Value) (n : Nat) (xs : List Value) (hs : a.eval s = v) (hown : w.ownsRow base e 1 v n xs)
    (A : Option Addr) (m c : Nat) (news : List Value) (hx : a.eval x = .slice A m c) (hl : news.length = m) (hc : Cs w A news) (h1 : ∀ u ∈ news, u.oneCell' = true)
    (hn : n + m ≤ 281474976710656) (hbytes : (n + m) * bytes ≤ 140737488355328) (hbase : base ≤ w.heap.size)
    (h : ∀ v' w', w'.ownsRow base e 1 v' (n + m) (xs ++ news) → Kp (fun k => v.ownBlock = some k) w w' → (∀ g, v'.ownBlock = some g → v.ownBlock = some g ∨ g = w.heap.size) → wpList P ops Q rest (a.put o.dst v') w') : wpList P ops Q (o :: rest) a w :=
  wpList_plain hgd fun _ hK => wp_appV w s x t ho base e z bytes ht hi hzs v n xs hs hown A m c news hx hl hc h1 hn hbytes hbase fun v' w' h2 h3 h4 => hK _ _ (h v' w' h2 h3 h4)
/-- make([]T, 0, c) -/
theorem mk_run0 (t e : TypeId) (i : TypeInfo) (z : Value) (ht : P.underlying t = some (.slice e)) (hi : P.info? e = some i) (hz : i.zero = some z) (v : Value) (hc : z.cells = #[v]) (hsz : i.size = 1)
    (n : Nat) (hbytes : i.bytes * n ≤ 281474976710656) (h63 : n ≤ 9223372036854775807) (w : World) :
    (Instr.makeSlice t (.int .i64 0) (.int .i64 (n : Int))).run P w = .ok (.slice (some ⟨w.heap.size, 0, none⟩) 0 n) (w.alloc (.cells (List.replicate n v).toArray e)) := by
  have hr := run_make (P := P) w t e i z ht hi hz .i64 .i64 (0 : Nat) n (by omega) (by omega) (by omega) (by omega)
  rw [hc, show (#[v] : Array Value) = Array.replicate 1 v from rfl, madeCells_same _ _ _ (by omega), hsz, Nat.mul_one] at hr
  exact hr
theorem own_made0 (w : World) (base : Nat) (e : TypeId) (v : Value) (n : Nat) (hb : base ≤ w.heap.size) (hm : n ≤ maxLen) : (w.alloc (.cells (List.replicate n v).toArray e)).ownsRow base e 1 (.slice (some ⟨w.heap.size, 0, none⟩) 0 n) 0 [] :=
  ⟨rfl, .inr ⟨w.heap.size, n, (List.replicate n v).toArray, rfl, hb, heap_alloc_new w _, Nat.zero_le _, hm, by simp, by simp⟩⟩
end

theorem ret_bool {x : Value} {b c : Bool} (hx : x = .bool b) (h : b = c) : Ending.returned x = .returned (.bool c) := by rw [hx, h]
theorem ret_int {x : Value} {b c : Int} (hx : x = .int .i64 b) (h : b = c) : Ending.returned x = .returned (.int .i64 c) := by rw [hx, h]
end Go.Proofs.YtbnpdghfbiacaaaGreat

/- Lists of bytes in memory. No condition beyond what each theorem states. -/
namespace Go.Proofs.YtbnpdghfbiacaaaGreat
open Go Go.RowKit

/-- bytes as cells -/
def u8s (l : List UInt8) : List Value := l.map fun c => .int .u8 (c.toNat : Int)
@[simp] theorem u8s_length (l : List UInt8) : (u8s l).length = l.length := by simp [u8s]
theorem u8s_one (l : List UInt8) : ∀ v ∈ u8s l, v.oneCell' = true := by
  intro v hv; simp only [u8s, List.mem_map] at hv; obtain ⟨c, _, rfl⟩ := hv; rfl
theorem u8s_get (l : List UInt8) (j : Nat) : (u8s l)[j]? = (l[j]?).map fun c => .int .u8 (c.toNat : Int) := by simp [u8s]
theorem u8s_append (l m : List UInt8) : u8s (l ++ m) = u8s l ++ u8s m := by simp [u8s]
theorem u8s_take (l : List UInt8) (k : Nat) : u8s (l.take k) = (u8s l).take k := by simp [u8s]
theorem u8s_drop (l : List UInt8) (k : Nat) : u8s (l.drop k) = (u8s l).drop k := by simp [u8s]
theorem u8s_set (l : List UInt8) (k : Nat) (c : UInt8) : (u8s l).set k (.int .u8 (c.toNat : Int)) = u8s (l.set k c) := by simp [u8s, List.map_set]
theorem u8s_zero (n : Nat) : u8s (List.replicate n 0) = List.replicate n (.int .u8 0) := by simp [u8s]
theorem u8s_inj {l m : List UInt8} (h : u8s l = u8s m) : l = m := by
  refine List.map_inj_right (f := fun c : UInt8 => Value.int .u8 (c.toNat : Int)) ?_ |>.1 h
  intro a b e
  injection e with _ e
  exact UInt8.toNat_inj.1 (by omega)
/-- what a slice of bytes holds -/
def ArgB (w : World) (v : Value) (l : List UInt8) : Prop := ∃ A c, v = .slice A l.length c ∧ l.length ≤ c ∧ Cs w A (u8s l)
theorem ArgB.kp {w w' : World} {v : Value} {l : List UInt8} {M : Nat → Prop} (h : ArgB w v l) (hk : Kp M w w') (hM : ∀ g o n c, v = .slice (some ⟨g, o, none⟩) n c → ¬ M g) : ArgB w' v l := by
  obtain ⟨A, c, rfl, hc, h⟩ := h
  exact ⟨A, c, rfl, hc, h.kp hk fun g o e => hM g o _ _ (by rw [e])⟩
theorem ArgB.no {w w' : World} {v : Value} {l : List UInt8} (h : ArgB w v l) (hk : Kp No w w') : ArgB w' v l := h.kp hk fun _ _ _ _ _ m => m
theorem ArgB.nil (w : World) (A : Option Addr) (c : Nat) : ArgB w (.slice A 0 c) [] := ⟨A, c, rfl, Nat.zero_le _, fun h => absurd rfl h⟩
theorem ArgB.form {w : World} {v : Value} {l : List UInt8} (h : ArgB w v l) : ∃ A c, v = .slice A l.length c ∧ l.length ≤ c := by
  obtain ⟨A, c, e, hc, _⟩ := h; exact ⟨A, c, e, hc⟩
theorem ArgB.at_ {w : World} {v : Value} {l : List UInt8} (h : ArgB w v l) (hk : 0 < l.length) : ∃ g o c, v = .slice (some ⟨g, o, none⟩) l.length c ∧ l.length ≤ c ∧ ∀ j x, l[j]? = some x → w.cell? ⟨g, o + j, none⟩ = some (.int .u8 (x.toNat : Int)) := by
  obtain ⟨A, c, rfl, hc, hcs⟩ := h
  obtain ⟨g, o, rfl, hr⟩ := hcs (by intro e; have h0 := congrArg List.length e; rw [u8s_length, List.length_nil] at h0; omega)
  exact ⟨g, o, c, rfl, hc, fun j x hx => hr j _ (by rw [u8s_get, hx]; rfl)⟩
theorem ArgB.cs {w : World} {A : Option Addr} {n c : Nat} {l : List UInt8} (h : ArgB w (.slice A n c) l) : Cs w A (u8s l) ∧ n = l.length ∧ n ≤ c := by
  obtain ⟨A', c', e, hc, h⟩ := h
  injection e with e1 e2 e3
  subst e1 e2 e3
  exact ⟨h, rfl, hc⟩
theorem ArgB.take {w : World} {A : Option Addr} {n c : Nat} {l : List UInt8} (h : ArgB w (.slice A n c) l) (k : Nat) (hk : k ≤ l.length) : ArgB w (.slice A k c) (l.take k) := by
  obtain ⟨hcs, rfl, hc⟩ := h.cs
  refine ⟨A, c, by rw [List.length_take, Nat.min_eq_left hk], by rw [List.length_take]; omega, fun hx => ?_⟩
  obtain ⟨g, o, rfl, hr⟩ := hcs (fun e => hx (by rw [u8s_take, e]; simp))
  refine ⟨g, o, rfl, fun j v hv => hr j v ?_⟩
  rw [u8s_take, List.getElem?_take] at hv
  split at hv
  · exact hv
  · cases hv
theorem ArgB.drop {w : World} {g o n c : Nat} {l : List UInt8} (h : ArgB w (.slice (some ⟨g, o, none⟩) n c) l) (k : Nat) (hk : k ≤ l.length) : ArgB w (.slice (some ⟨g, o + k, none⟩) (n - k) (c - k)) (l.drop k) := by
  obtain ⟨hcs, rfl, hc⟩ := h.cs
  refine ⟨some ⟨g, o + k, none⟩, c - k, by rw [List.length_drop], by rw [List.length_drop]; omega, fun hx => ?_⟩
  obtain ⟨g', o', e, hr⟩ := hcs (fun e => hx (by rw [u8s_drop, e]; simp))
  injection e with e
  injection e with e1 e2
  subst e1 e2
  refine ⟨g, o + k, rfl, fun j v hv => ?_⟩
  rw [u8s_drop, List.getElem?_drop] at hv
  rw [show o + k + j = o + (k + j) by omega]
  exact hr _ v hv
theorem bk_argB {w : World} {g : Nat} {t : TypeId} {l : List UInt8} {sp : List Value} (h : Bk w g t (u8s l ++ sp)) {c : Nat} (hc : l.length ≤ c) : ArgB w (.slice (some ⟨g, 0, none⟩) l.length c) l :=
  ⟨_, c, rfl, hc, fun _ => ⟨g, 0, rfl, fun j v hv => by
    rw [h.cell, Nat.zero_add, List.getElem?_append_left (by
      have := (List.getElem?_eq_some_iff.1 hv).1; omega)]; exact hv⟩⟩
theorem bk_argB' {w : World} {g : Nat} {t : TypeId} {l : List UInt8} (h : Bk w g t (u8s l)) {c : Nat} (hc : l.length ≤ c) : ArgB w (.slice (some ⟨g, 0, none⟩) l.length c) l :=
  bk_argB (sp := []) (by simpa using h) hc
/-- bytes that the call has made: an own row -/
def OwnB (w : World) (B : Nat) (v : Value) (l : List UInt8) : Prop := w.ownsRow B 5 1 v l.length (u8s l)
theorem own_argB {w : World} {B : Nat} {v : Value} {l : List UInt8} (hown : OwnB w B v l) : ArgB w v l := by
  unfold OwnB at hown
  rcases hown.2 with ⟨rfl, h0⟩ | ⟨g, cap, cur, rfl, hb, hh, h1, h2, h3, h4⟩
  · exact ⟨Option.none, 0, by rw [h0], by omega, fun hx => absurd (List.eq_nil_of_length_eq_zero (by simp [h0])) hx⟩
  · refine ⟨_, cap, rfl, by omega, fun hx => ⟨g, 0, rfl, fun j v hv => ?_⟩⟩
    have := hown.cells (g := g) rfl j v hv
    rwa [Addr.add_mid] at this
theorem OwnB.nil (w : World) (B : Nat) : OwnB w B (.slice none 0 0) [] := nil_own _ _ _ _
theorem OwnB.kp {w w' : World} {B : Nat} {v : Value} {l : List UInt8} {M : Nat → Prop} (h : OwnB w B v l) (hk : Kp M w w') (hm : ∀ g, v.ownBlock = some g → ¬ M g) : OwnB w' B v l := own_kp h hk hm
theorem OwnB.no {w w' : World} {B : Nat} {v : Value} {l : List UInt8} (h : OwnB w B v l) (hk : Kp No w w') : OwnB w' B v l := own_kp h hk fun _ _ m => m
theorem OwnB.mono {w : World} {B B' : Nat} {v : Value} {l : List UInt8} (h : OwnB w B v l) (hb : B' ≤ B) : OwnB w B' v l := own_mono h hb
theorem ownB_of_bk {w : World} {g B : Nat} {l : List UInt8} (h : Bk w g 5 (u8s l)) (hb : B ≤ g) (hm : l.length ≤ maxLen) : OwnB w B (.slice (some ⟨g, 0, none⟩) l.length l.length) l := by
  have := own_of_bk (n := l.length) h hb (cap := l.length) (by simp) (Nat.le_refl _) hm
  rwa [List.take_of_length_le (by simp)] at this

theorem Tryz.infoByte : (Tryz.prog.info? 5).map (fun i => (i.zero, i.size, i.bytes)) = some (some (.int .u8 0), 1, 1) := by kernel_rfl
theorem mk_bytes (n : Nat) (hn : n ≤ 140737488355328) (w : World) :
    (Instr.makeSlice 30 (.int .i64 (n : Int)) (.int .i64 (n : Int))).run Tryz.prog w = .ok (.slice (some ⟨w.heap.size, 0, none⟩) n n) (w.alloc (.cells (List.replicate n (.int .u8 0)).toArray 5)) := by
  obtain ⟨i0, hi, hz0, hz1, hz2⟩ := info_parts Tryz.infoByte
  have := mk_run (P := Tryz.prog) 30 5 i0 _ Tryz.underlying30 hi hz0 1 (.int .u8 0) (by omega) (by rfl) n (by rw [hz2]; omega) (by omega) w
  rw [hz1, Nat.mul_one] at this
  exact this
theorem u8_nat (n : Nat) : IntKind.u8.wrap (n : Int) = ((UInt8.ofNat n).toNat : Int) := by
  rw [IntKind.wrap_u8, UInt8.toNat_ofNat']; omega
theorem byte_bd (c : UInt8) : 0 ≤ (c.toNat : Int) ∧ (c.toNat : Int) < 256 := by have := c.toNat_lt; omega
theorem take_snoc8 (l : List UInt8) (k : Nat) (h : k < l.length) : l.take (k + 1) = l.take k ++ [l[k]] := List.take_succ_eq_append_getElem h
theorem cs_new {w : World} {g : Nat} {t : TypeId} {xs : List Value} {C : Array Value} (hg : g = w.heap.size) (hC : C = xs.toArray) : Cs (w.alloc (.cells C t)) (some ⟨g, 0, none⟩) xs := fun _ => ⟨g, 0, rfl, fun j v hv => by
  rw [(Bk.new' hg hC : Bk _ g t xs).cell, Nat.zero_add]; exact hv⟩
theorem u8s_nat (q : Nat) : u8s [UInt8.ofNat q] = [.int .u8 ((q : Int) % 256)] := by
  simp only [u8s, List.map_cons, List.map_nil]
  rw [← u8_nat, IntKind.wrap_u8]
theorem OwnB.alloc {w : World} {B : Nat} {v : Value} {l : List UInt8} (h : OwnB w B v l) (o : Obj) : OwnB (w.alloc o) B v l := h.no ((Kp.refl No w).alloc o)
theorem OwnB.alloc' {w : World} {B k : Nat} {v : Value} {l : List UInt8} (h : OwnB w B v l) (hk : l.length = k) (o : Obj) : (w.alloc o).ownsRow B 5 1 v k (u8s l) := by subst hk; exact h.alloc o
theorem own_of {w : World} {B k : Nat} {v : Value} {l m : List UInt8} {ms : List Value} (h : w.ownsRow B 5 1 v k (u8s l ++ ms)) (hm : ms = u8s m) : OwnB w B v (l ++ m) := by
  subst hm
  rw [← u8s_append] at h
  have hl : (l ++ m).length = k := by have := h.1; simpa using this
  subst hl; exact h
/-- from an own row that began at B, only that row or new blocks have changed: nothing below B -/
theorem kp_own {w wr w' : World} {v : Value} {n : Nat} {xs : List Value} {t : TypeId} {size : Nat} (h : wr.ownsRow w.heap.size t size v n xs) (k : Kp No w wr) (k2 : Kp (fun k => v.ownBlock = some k) wr w') : Kp No w w' :=
  k.then_ k2 fun i hi hm => by
    have := (h.lt i hm).1; omega
end Go.Proofs.YtbnpdghfbiacaaaGreat

/- Numbers as bytes: the words in which the programs reckon them. No condition beyond what each theorem states. -/
namespace Go.Proofs.YtbnpdghfbiacaaaGreat
open Go

set_option maxRecDepth 10000 in
theorem or128 : ∀ a : Nat, a < 256 → a ||| 128 = a % 128 + 128 := by decide
set_option maxRecDepth 10000 in
theorem and127 : ∀ a : Nat, a < 256 → a &&& 127 = a % 128 := by decide
theorem or_shift (x c i : Nat) (h : x < 128 ^ i) : x ||| (c <<< (7 * i)) = x + c * 128 ^ i := by
  have e : (128 : Nat) ^ i = 2 ^ (7 * i) := by rw [Nat.pow_mul]
  rw [e] at h ⊢
  rw [Nat.or_comm, ← Nat.shiftLeft_add_eq_or_of_lt h, Nat.shiftLeft_eq, Nat.add_comm]
/-- what is taken up from the i-th byte on, what was taken before being acc -/
def takeA (acc i : Nat) (l : List UInt8) : Nat × Nat × Int := if (takeN i l).2.2 = 0 then (acc + (takeN i l).1 * 128 ^ i, i + (takeN i l).2.1, 0) else (0, 0, (takeN i l).2.2)
theorem takeA_start (l : List UInt8) : takeA 0 0 l = takeN 0 l := by
  unfold takeA
  have key : ∀ (l : List UInt8) (i : Nat), (takeN i l).2.2 ≠ 0 → takeN i l = (0, 0, (takeN i l).2.2) := by
    intro l
    induction l with
    | nil => intro i _; rfl
    | cons c r ih =>
      intro i h
      unfold takeN at h ⊢
      by_cases h1 : c.toNat < 128
      · rw [if_pos h1] at h ⊢
        by_cases h2 : c.toNat = 0 ∧ 0 < i
        · rw [if_pos h2]
        · rw [if_neg h2] at h; exact absurd rfl h
      · rw [if_neg h1] at h ⊢
        by_cases h2 : i = 8
        · rw [if_pos h2]
        · rw [if_neg h2] at h ⊢
          by_cases h3 : (takeN (i + 1) r).2.2 = 0
          · simp only [h3, if_true] at h; exact absurd rfl h
          · simp only [h3, if_false]
  by_cases h : (takeN 0 l).2.2 = 0
  · rw [if_pos h]
    have e : takeN 0 l = ((takeN 0 l).1, (takeN 0 l).2.1, (takeN 0 l).2.2) := rfl
    rw [e, h]
    simp
  · rw [if_neg h, ← key l 0 h]
theorem takeA_nil (acc i : Nat) : takeA acc i [] = (0, 0, 20) := by unfold takeA takeN; rfl
theorem takeA_last (acc i : Nat) (c : UInt8) (r : List UInt8) (h : c.toNat < 128) (h2 : ¬ (c.toNat = 0 ∧ 0 < i)) : takeA acc i (c :: r) = (acc + c.toNat * 128 ^ i, i + 1, 0) := by
  have e : takeN i (c :: r) = (c.toNat, 1, 0) := by
    unfold takeN
    rw [if_pos h, if_neg h2]
  unfold takeA
  rw [e]
  rfl
theorem takeA_zero (acc i : Nat) (c : UInt8) (r : List UInt8) (h : c.toNat = 0) (h2 : 0 < i) : takeA acc i (c :: r) = (0, 0, 21) := by
  have e : takeN i (c :: r) = (0, 0, 21) := by
    unfold takeN
    rw [if_pos (by omega : c.toNat < 128), if_pos ⟨h, h2⟩]
  unfold takeA
  rw [e]
  rfl
theorem takeA_long (acc : Nat) (c : UInt8) (r : List UInt8) (h : 128 ≤ c.toNat) : takeA acc 8 (c :: r) = (0, 0, 21) := by
  have e : takeN 8 (c :: r) = (0, 0, 21) := by
    unfold takeN
    rw [if_neg (by omega : ¬ c.toNat < 128), if_pos rfl]
  unfold takeA
  rw [e]
  rfl
theorem takeA_more (acc i : Nat) (c : UInt8) (r : List UInt8) (h : 128 ≤ c.toNat) (hi : i ≠ 8) : takeA acc i (c :: r) = takeA (acc + (c.toNat - 128) * 128 ^ i) (i + 1) r := by
  unfold takeA
  have e : takeN i (c :: r) = if (takeN (i + 1) r).2.2 = 0 then (c.toNat - 128 + 128 * (takeN (i + 1) r).1, (takeN (i + 1) r).2.1 + 1, 0) else (0, 0, (takeN (i + 1) r).2.2) := by
    conv => lhs; unfold takeN
    rw [if_neg (by omega), if_neg hi]
  rw [e]
  by_cases h3 : (takeN (i + 1) r).2.2 = 0
  · rw [if_pos h3, if_pos h3]
    simp only [if_true, Prod.mk.injEq, and_true]
    refine ⟨?_, by omega⟩
    rw [Nat.add_mul, Nat.pow_succ, ← Nat.add_assoc]
    congr 1
    rw [Nat.mul_comm 128, Nat.mul_assoc, Nat.mul_comm 128]
  · rw [if_neg h3, if_neg h3, if_neg h3]
/-- the value that is taken stays below 2^63 -/
theorem takeN_lt (l : List UInt8) : (takeN 0 l).1 < 9223372036854775808 := by
  by_cases h : (takeN 0 l).2.2 = 0
  · have e : takeN 0 l = ((takeN 0 l).1, (takeN 0 l).2.1, 0) := by rw [← h]
    exact (take_inv e).2.2
  · have := takeA_start l
    unfold takeA at this
    rw [if_neg h] at this
    rw [← this]
    show (0 : Nat) < _
    omega
theorem takeN_len (l : List UInt8) : (takeN 0 l).2.1 ≤ l.length := by
  by_cases h : (takeN 0 l).2.2 = 0
  · have e : takeN 0 l = ((takeN 0 l).1, (takeN 0 l).2.1, 0) := by rw [← h]
    obtain ⟨h1, h2, _⟩ := take_inv e
    have h3 := congrArg List.length h1
    rw [List.length_append] at h3
    omega
  · have := takeA_start l
    unfold takeA at this
    rw [if_neg h] at this
    rw [← this]
    exact Nat.zero_le _
end Go.Proofs.YtbnpdghfbiacaaaGreat

/- octets.Writer by contracts. No condition beyond what each theorem states. -/
namespace Go.Proofs.YtbnpdghfbiacaaaGreat
open Go Go.RowKit

/-- a writer at b that holds the bytes l, in a block of its own from B on -/
def WrB (w : World) (b B : Nat) (v : Value) (l : List UInt8) : Prop := Bk w b 75 [v] ∧ OwnB w B v l
/-- the blocks that a call on it may change -/
def WrM (b : Nat) (v : Value) : Nat → Prop := fun k => k = b ∨ v.ownBlock = some k
/-- it lies where it lay, or in a new block -/
def Nxt (w : World) (v v' : Value) : Prop := ∀ g, v'.ownBlock = some g → v.ownBlock = some g ∨ w.heap.size ≤ g
def WrAft (w : World) (b B : Nat) (v : Value) (l : List UInt8) (w' : World) : Prop := ∃ v', WrB w' b B v' l ∧ Kp (WrM b v) w w' ∧ Nxt w v v'
theorem WrAft.start {w : World} {b B : Nat} {v : Value} {l : List UInt8} (h : WrB w b B v l) : WrAft w b B v l w := ⟨v, h, Kp.refl _ _, fun _ h => .inl h⟩
theorem WrAft.then_ {w w1 w2 : World} {b B : Nat} {v v1 : Value} {l2 : List UInt8} (k1 : Kp (WrM b v) w w1) (n1 : Nxt w v v1) (h2 : WrAft w1 b B v1 l2 w2) : WrAft w b B v l2 w2 := by
  obtain ⟨v2, b2, k2, n2⟩ := h2
  refine ⟨v2, b2, k1.then_ k2 ?_, ?_⟩
  · intro i hi hm
    rcases hm with hm | hm
    · exact .inl hm
    · rcases n1 i hm with h | h
      · exact .inr h
      · omega
  · intro g hg
    rcases n2 g hg with h | h
    · exact n1 g h
    · right; have := k1.size; omega
theorem WrB.step {wr w2 : World} {b B g cap : Nat} {vv : Value} {l : List UInt8} {c : UInt8} {o : Obj} (h : WrB wr b B vv l)
    (hown : w2.ownsRow B 5 1 (.slice (some ⟨g, 0, none⟩) (l.length + 1) cap) (l.length + 1) (u8s l ++ [.int .u8 (c.toNat : Int)])) (hk : Kp (fun k => vv.ownBlock = some k) (wr.alloc o) w2) (hat : vv.ownBlock = some g ∨ g = (wr.alloc o).heap.size) :
    WrAft wr b B vv (l ++ [c]) (w2.setCell ⟨b, 0, none⟩ (.slice (some ⟨g, 0, none⟩) (l.length + 1) cap)) := by
  obtain ⟨h1, h2⟩ := h
  have hO : OwnB w2 B (.slice (some ⟨g, 0, none⟩) (l.length + 1) cap) (l ++ [c]) := own_of (m := [c]) hown rfl
  have hne : vv.ownBlock ≠ some b := own_ne h2 h1 (by decide)
  have B2 : Bk w2 b 75 [vv] := (h1.alloc o).kp hk hne
  have hgb : (Value.slice (some ⟨g, 0, none⟩) (l.length + 1) cap).ownBlock ≠ some b := own_ne hO B2 (by decide)
  refine ⟨_, ⟨B2.set_ 0 _, hO.kp (M := One b) ((Kp.refl (One b) w2).set (g := b) (.inl rfl) 0 _) fun k hk hm => hgb (by rw [hk]; exact congrArg _ hm)⟩, ?_, ?_⟩
  · exact (((Kp.refl (WrM b vv) wr).alloc o).then_ hk fun i _ hm => .inr hm).set (.inl (.inl rfl)) 0 _
  · intro k hk
    have hk : g = k := by simpa [Value.ownBlock] using hk
    subst hk
    rcases hat with h | h
    · exact .inl h
    · right; rw [h]; simp
theorem or_u8 (m : Nat) : bits .or .u8 ((m : Int) % 256) 128 = ((UInt8.ofNat (m % 128 + 128)).toNat : Int) := by
  have h1 : (m : Int) % 256 = ((m % 256 : Nat) : Int) := by omega
  rw [h1, show (128 : Int) = ((128 : Nat) : Int) from rfl, u8_or_nat _ _ (by omega) (by omega), or128 _ (by omega), UInt8.toNat_ofNat']
  congr 1
  omega

set_option maxHeartbeats 1000000 in
theorem wnum_nil (n : Int) (w : World) : Calls Tryz.prog 42 #[.pointer none, .int .i64 n] w fun e w' => e = .returned (.tuple #[]) ∧ w = w' := by
  go_enter Tryz.func42, Tryz.ntmps42
  go_wp2
  refine bodyPost_ret (results_none rfl _ _ _) rfl ?_
  exact ⟨rfl, rfl⟩
set_option maxHeartbeats 1000000 in
theorem wnum_any (b B : Nat) (v : Value) (l : List UInt8) (n : Int) (w : World) (h : WrB w b B v l) (hB : B ≤ w.heap.size) (hl : l.length ≤ 1000000) (hn : n < 9223372036854775808) :
    Calls Tryz.prog 42 #[.pointer (some ⟨b, 0, none⟩), .int .i64 n] w fun e w' => e = .returned (.tuple #[]) ∧ WrAft w b B v (l ++ numS n.toNat) w' := by
  obtain ⟨N, hN⟩ : ∃ N : Nat, max n 0 = (N : Int) := ⟨n.toNat, by omega⟩
  have hN2 : n.toNat = N := by omega
  rw [hN2]
  have hlen : (numS N).length ≤ 9 := numS_len 8 N (by omega)
  have HL := Lib.hid hlen; have HN2 := Lib.hid hN2; clear hlen hN2
  have HW := Lib.hid h
  have hwr : IntKind.u64.wrap (N : Int) = (N : Int) := by rw [IntKind.wrap_u64]; omega
  clear h
  go_enter Tryz.func42, Tryz.ntmps42
  go_upto_region 1 with (fail)
  go_cut [4] (fun t wx => t = .int .u64 (N : Int) ∧ w = wx)
  case first =>
    by_cases h0 : n < 0
    · have e0 : N = 0 := by omega
      subst e0
      go_wp2
      go_meet
      exact ⟨rfl, rfl⟩
    · have e0 : n = (N : Int) := by omega
      subst e0
      go_wp2
      go_meet
      exact ⟨by first | rfl | rw [hwr], rfl⟩
  case rest =>
    obtain ⟨rfl, rfl⟩ := hcut
    go_wp2
    go_loopw [4] (fun t wr => ∃ (m : Nat) (l' : List UInt8), t = .int .u64 (m : Int) ∧ m ≤ N ∧ l' ++ numS m = l ++ numS N ∧ WrAft w b B v l' wr) (fun t _ => (intOf t).toNat)
    case atStart => exact ⟨N, l, rfl, Nat.le_refl _, rfl, WrAft.start HW.out⟩
    case round =>
      obtain ⟨m, l', rfl, hm, hl', va, ⟨hb, ho⟩, hk, hn'⟩ := hrel
      have hll : l'.length ≤ 1000009 := by
        have := congrArg List.length hl'
        rw [List.length_append, List.length_append] at this
        have := HL.out; omega
      obtain ⟨A, c, rfl⟩ : ∃ A c, va = .slice A l'.length c := by obtain ⟨A, c, h, _⟩ := own_len ho; exact ⟨A, c, h⟩
      have z0 : wr.cell? ⟨b, 0, none⟩ = some (.slice A l'.length c) := hb.cell 0
      have zf := hb.frozen
      have hsz : B ≤ wr.heap.size := Nat.le_trans hB hk.size
      have HB := Lib.hid hb; have HO := Lib.hid ho; have HK := Lib.hid hk; have HX := Lib.hid hn'; have HE := Lib.hid hl'; clear hb ho hk hn' hl'
      have hor := or_u8 m
      have hm63 : (m : Int) < 9223372036854775808 := by omega
      by_cases hlt : 127 < m
      · have h1 : (127 : Int) < (m : Int) := by omega
        clear hor
        go_wp2_with (at_builtin; refine wpList_app1 _ rfl _ _ 30 rfl B 5 _ 1 1 Tryz.underlying30 Tryz.infoByte rfl (by omega) _ l'.length (u8s l') rfl (HO.out.alloc _) _ _ _ rfl (Bk.new' (by simp) rfl) rfl (by simp [Value.oneCell']) (by omega) (by omega) (by simp; omega) ?_; intro g1 cap1 w1 hown1 hk1 hat1; have B1 : Bk w1 b 75 [.slice A l'.length c] := (HB.out.alloc _).kp hk1 (own_ne HO.out HB.out (by decide)); have z1 : w1.cell? ⟨b, 0, none⟩ = some (.slice A l'.length c) := B1.cell 0; have zf1 := B1.frozen; clear B1)
        rw [or_u8] at hown1
        have HS := Lib.hid (WrB.step ⟨HB.out, HO.out⟩ hown1 hk1 hat1)
        clear hown1 hk1 hat1
        go_roundw
        case rel => exact ⟨m / 128, l' ++ [UInt8.ofNat (m % 128 + 128)], by go_num, by omega, by rw [← HE.out, numS_big (n := m) (by omega), List.append_assoc]; rfl, WrAft.then_ HK.out HX.out HS.out⟩
        case measure => simp [intOf]; omega
      · have h1 : ¬ (127 : Int) < (m : Int) := by omega
        clear hor
        go_wp2_with (at_builtin; refine wpList_app1 _ rfl _ _ 30 rfl B 5 _ 1 1 Tryz.underlying30 Tryz.infoByte rfl (by omega) _ l'.length (u8s l') rfl (HO.out.alloc _) _ _ _ rfl (Bk.new' (by simp) rfl) rfl (by simp [Value.oneCell']) (by omega) (by omega) (by simp; omega) ?_; intro g1 cap1 w1 hown1 hk1 hat1; have B1 : Bk w1 b 75 [.slice A l'.length c] := (HB.out.alloc _).kp hk1 (own_ne HO.out HB.out (by decide)); have z1 : w1.cell? ⟨b, 0, none⟩ = some (.slice A l'.length c) := B1.cell 0; have zf1 := B1.frozen; clear B1)
        rw [show (m : Int) = ((UInt8.ofNat m).toNat : Int) by rw [UInt8.toNat_ofNat']; omega] at hown1
        have HS := Lib.hid (WrB.step ⟨HB.out, HO.out⟩ hown1 hk1 hat1)
        clear hown1 hk1 hat1
        go_end0
        refine ⟨rfl, ?_⟩
        rw [← HE.out, numS_small (n := m) (by omega)]
        exact WrAft.then_ HK.out HX.out HS.out
set_option maxHeartbeats 1000000 in
theorem wbytes_any (b B : Nat) (v : Value) (l : List UInt8) (w : World) (h : WrB w b B v l) (_hB : B ≤ w.heap.size) (hl : l.length ≤ 1000000) :
    Calls Tryz.prog 43 #[.pointer (some ⟨b, 0, none⟩)] w fun e w' => ∃ v', e = .returned v' ∧ OwnB w' w.heap.size v' l ∧ Kp No w w' := by
  obtain ⟨hb, ho⟩ := h
  obtain ⟨A, c, rfl⟩ : ∃ A c, v = .slice A l.length c := by obtain ⟨A, c, h, _⟩ := own_len ho; exact ⟨A, c, h⟩
  have z0 : w.cell? ⟨b, 0, none⟩ = some (.slice A l.length c) := hb.cell 0
  have HO := Lib.hid ho; clear ho hb
  go_enter Tryz.func43, Tryz.ntmps43
  go_wp2_with (at_builtin; refine (wpList_appV _ rfl _ _ 30 rfl w.heap.size 5 _ 1 Tryz.underlying30 Tryz.infoByte rfl _ 0 [] rfl (nil_own _ _ _ _) A l.length c (u8s l) rfl (by simp) (own_argB HO.out).cs.1 (u8s_one _) (by omega) (by omega) (Nat.le_refl _) ?_); intro v1 w1 o1 k1 _)
  have O1 : OwnB w1 w.heap.size v1 l := own_of (l := []) o1 rfl
  have K1 : Kp No w w1 := k1.mono (fun _ _ h => by cases h)
  go_ret
  exact ⟨_, rfl, O1, K1⟩
end Go.Proofs.YtbnpdghfbiacaaaGreat

/- octets.Reader by contracts. No condition beyond what each theorem states. -/
namespace Go.Proofs.YtbnpdghfbiacaaaGreat
open Go Go.RowKit Go.PlainAid

theorem pow_le8 {k : Nat} (h : k ≤ 8) : 128 ^ k ≤ 72057594037927936 := by
  have : 128 ^ k ≤ 128 ^ 8 := Nat.pow_le_pow_right (by omega) h
  simpa using this
theorem or_acc (acc k : Nat) (x : UInt8) (hk : k ≤ 8) (h : acc < 128 ^ k) :
    bits .or .u64 (acc : Int) (IntKind.u64.wrap (IntKind.u64.wrap (bits .and .u8 (x.toNat : Int) 127) * 2 ^ (7 * k))) = ((acc + x.toNat % 128 * 128 ^ k : Nat) : Int) := by
  have hx := x.toNat_lt
  have hp := pow_le8 hk
  have h1 : bits .and .u8 (x.toNat : Int) 127 = ((x.toNat % 128 : Nat) : Int) := by
    rw [show (127 : Int) = ((127 : Nat) : Int) from rfl, u8_and_nat _ _ (by omega) (by omega), and127 _ (by omega)]
  have h2 : x.toNat % 128 * 128 ^ k ≤ 127 * 72057594037927936 := Nat.mul_le_mul (by omega) hp
  have h3 : ((x.toNat % 128 : Nat) : Int) * 2 ^ (7 * k) = ((x.toNat % 128 * 128 ^ k : Nat) : Int) := by
    rw [Int.natCast_mul, Int.natCast_pow, show ((128 : Nat) : Int) = 2 ^ 7 by rfl, ← Int.pow_mul]
  have h4 : IntKind.u64.wrap ((x.toNat % 128 : Nat) : Int) = ((x.toNat % 128 : Nat) : Int) := by rw [IntKind.wrap_u64]; omega
  have h5 : IntKind.u64.wrap ((x.toNat % 128 * 128 ^ k : Nat) : Int) = ((x.toNat % 128 * 128 ^ k : Nat) : Int) := by
    rw [IntKind.wrap_u64]; generalize x.toNat % 128 * 128 ^ k = z at *; omega
  rw [h1, h4, h3, h5, u64_or_nat _ _ (by omega) (by generalize x.toNat % 128 * 128 ^ k = z at *; omega)]
  congr 1
  have := or_shift acc (x.toNat % 128) k h
  rw [Nat.shiftLeft_eq, show 2 ^ (7 * k) = 128 ^ k by rw [Nat.pow_mul]] at this
  exact this
theorem acc_lt (acc k : Nat) (x : Nat) (h : acc < 128 ^ k) : acc + x % 128 * 128 ^ k < 128 ^ (k + 1) := by
  have : x % 128 * 128 ^ k ≤ 127 * 128 ^ k := Nat.mul_le_mul_right _ (by omega)
  rw [Nat.pow_succ]
  omega
set_option maxRecDepth 100000 in
set_option maxHeartbeats 2000000 in
theorem onum_any (A : Option Addr) (c : Nat) (l : List UInt8) (w : World) (hv : ArgB w (.slice A l.length c) l) (hm : l.length ≤ maxLen) :
    Calls Tryz.prog 110 #[.slice A l.length c] w fun e w' => e = .returned (.tuple #[.int .i64 ((takeN 0 l).1 : Int), .int .i64 ((takeN 0 l).2.1 : Int), .int .i64 (takeN 0 l).2.2]) ∧ w = w' := by
  have HV := Lib.hid hv; clear hv
  unfold maxLen at hm
  go_enter Tryz.func110, Tryz.ntmps110
  go_wp2
  go_loopw [5, 10] (fun t i wr => ∃ k acc : Nat, k ≤ l.length ∧ k ≤ 9 ∧ acc < 128 ^ k ∧ t = .int .u64 (acc : Int) ∧ i = .int .i64 k ∧ wr = w ∧ takeA acc k (l.drop k) = takeN 0 l ∧ (k ≤ 8 ∨ l.length ≤ k)) (fun _ i _ => l.length - (intOf i).toNat)
  case atStart => exact ⟨0, 0, Nat.zero_le _, by omega, by decide, rfl, rfl, rfl, by rw [List.drop_zero]; exact takeA_start l, .inl (by omega)⟩
  case round =>
    obtain ⟨k, acc, hk, hk9, hacc, rfl, rfl, rfl, hT, h8⟩ := hrel
    have HT := Lib.hid hT; have HA := Lib.hid hacc; clear hT hacc
    by_cases hlt : k < l.length
    · have hk0 : (0 : Int) ≤ (k : Int) := by omega
      have hk1 : (k : Int) < (l.length : Int) := by omega
      have hk8 : k ≤ 8 := by omega
      clear h8 hk9
      obtain ⟨g, o, c', e1, hcl, hxx⟩ := HV.out.at_ (by omega)
      have hx := hxx k _ (List.getElem?_eq_getElem hlt)
      clear hxx
      injection e1 with e1 _ e1c
      subst e1 e1c
      have HD := Lib.hid (List.drop_eq_getElem_cons hlt)
      generalize l[k] = x at *
      have xb := byte_bd x
      go_upto_region 6 with (fail)
      rw [or_acc acc k x hk8 HA.out]
      have HB := Lib.hid (acc_lt acc k x.toNat HA.out)
      have HN := Lib.hid (show acc + x.toNat % 128 * 128 ^ k = acc + x.toNat % 128 * 128 ^ k from rfl)
      have hlt63 : acc + x.toNat % 128 * 128 ^ k < 9223372036854775808 := by
        have h1 := acc_lt acc k x.toNat HA.out
        have h2 := pow_le8 hk8
        rw [Nat.pow_succ] at h1
        omega
      obtain ⟨q, hq⟩ : ∃ q, acc + x.toNat % 128 * 128 ^ k = q := ⟨_, rfl⟩
      rw [hq] at hlt63 ⊢
      have HQ := Lib.hid hq; clear hq
      have hwq : IntKind.i64.wrap (q : Int) = (q : Int) := by rw [IntKind.wrap_i64]; omega
      obtain ⟨y, hy⟩ : ∃ y, x.toNat = y := ⟨_, rfl⟩
      rw [hy] at xb ⊢
      have H63 := Lib.hid hlt63; clear hlt63
      have HY := Lib.hid hy
      by_cases hx1 : y < 128
      · have d1 : (y : Int) < 128 := by omega
        by_cases hx2 : y = 0
        · subst hx2
          by_cases hk2 : 0 < k
          · have d2 : (0 : Int) < (k : Int) := by omega
            have HR := Lib.hid (show takeN 0 l = (0, 0, 21) by rw [← HT.out, HD.out]; exact takeA_zero acc k x _ HY.out hk2)
            go_wp2
            go_ret3
            exact ⟨by rw [HR.out]; rfl, rfl⟩
          · have e0 : k = 0 := by omega
            subst e0
            have HR := Lib.hid (show takeN 0 l = (q, 1, 0) by
              rw [← HT.out, HD.out, takeA_last acc 0 x _ (by rw [HY.out]; omega) (by omega), ← HQ.out, HY.out])
            go_wp2
            go_ret3
            exact ⟨by rw [HR.out]; rfl, rfl⟩
        · have d2 : ((y : Int) == 0) = false := by rw [beq_eq_false_iff_ne]; omega
          have HR := Lib.hid (show takeN 0 l = (q, k + 1, 0) by
            rw [← HT.out, HD.out, takeA_last acc k x _ (by rw [HY.out]; omega) (by rw [HY.out]; omega), ← HQ.out, HY.out, Nat.mod_eq_of_lt hx1])
          go_wp2
          go_ret3
          exact ⟨by rw [HR.out]; first | rfl | (rw [hwq]; rfl), rfl⟩
      · have d1 : ¬ (y : Int) < 128 := by omega
        by_cases h8 : k = 8
        · subst h8
          have HR := Lib.hid (show takeN 0 l = (0, 0, 21) by rw [← HT.out, HD.out]; exact takeA_long acc x _ (by rw [HY.out]; omega))
          go_wp2
          go_ret3
          exact ⟨by rw [HR.out]; first | rfl | (rw [hwq]; rfl), rfl⟩
        · have d2 : ((k : Int) == 8) = false := by rw [beq_eq_false_iff_ne]; omega
          have HR := Lib.hid (show takeA q (k + 1) (l.drop (k + 1)) = takeN 0 l by
            rw [← HT.out, HD.out, takeA_more acc k x _ (by rw [HY.out]; omega) h8, ← HQ.out, HY.out]
            congr 3
            omega)
          have HB2 := Lib.hid (show q < 128 ^ (k + 1) by rw [← HQ.out]; exact HB.out)
          go_wp2
          go_roundw
          case rel => exact ⟨k + 1, q, by omega, by omega, HB2.out, rfl, by go_num, by trivial, HR.out, by omega⟩
          case measure => simp [intOf]; omega
    · have hk' : k = l.length := by omega
      have hk1 : ¬ (k : Int) < (l.length : Int) := by omega
      have HR := Lib.hid (show takeN 0 l = (0, 0, 20) by rw [← HT.out, List.drop_of_length_le (by omega)]; exact takeA_nil acc k)
      clear hk'
      go_wp2
      go_ret3
      exact ⟨by rw [HR.out]; rfl, rfl⟩
end Go.Proofs.YtbnpdghfbiacaaaGreat
