/- Fields of a message, in plain words (wire): how each goes out, how it comes in, whether it may be so. No condition beyond what each theorem states. -/
import Derived.Test.YtbnpdghfbiacaaaWv
namespace Go.Proofs.Ytbnpdghfbiacaaa
open Go

structure Fld where
  out : Msg → List UInt8
  inn : Rd → Msg → Msg × Rd
  may : Msg → Bool
def fN (get : Msg → Int) (set : Msg → Int → Msg) (may : Msg → Bool) : Fld := ⟨fun m => nS (get m), fun s m => (set m (rdNum s).1, (rdNum s).2), may⟩
def fBoot : Fld := fN Msg.boot (fun m x => { m with boot := x }) fun m => decide (cntI m.boot)
def fSeq : Fld := fN Msg.seq (fun m x => { m with seq := x }) fun m => decide (cntI m.seq)
def fLow : Fld := fN Msg.low (fun m x => { m with low := x }) fun m => decide (1 ≤ m.low ∧ m.low ≤ m.seq)
def fVerb : Fld := fN Msg.verb (fun m x => { m with verb := x }) fun _ => true
def fCode : Fld := fN Msg.code (fun m x => { m with code := x }) fun m => decide (0 ≤ m.code ∧ m.code ≤ 99)
def fMode : Fld := fN Msg.mode (fun m x => { m with mode := x }) fun m => decide (modeI m.mode)
def fTerm : Fld := fN Msg.term (fun m x => { m with term := x }) fun m => decide (termI m.term)
def fGrant : Fld := fN Msg.term (fun m x => { m with term := x }) fun m => decide (termI m.term ∧ m.stamp ≠ [] ∨ m.term = 0 ∧ m.stamp = [])
def fId : Fld := fN Msg.id (fun m x => { m with id := x }) fun m => decide (cntI m.id)
def fOrigin : Fld := fN Msg.origin (fun m x => { m with origin := x }) fun m => decide (nodeI m.origin)
def fNumber : Fld := fN Msg.number (fun m x => { m with number := x }) fun m => decide (cntI m.number)
def fPath (vp : List UInt8 → Bool) : Fld := ⟨fun m => textS m.path, fun s m => ({ m with path := (rdText 200 s).1 }, (rdText 200 s).2), fun m => vp m.path⟩
def fFresh : Fld := ⟨fun m => nS (if m.fresh then 1 else 0), fun s m => ({ m with fresh := decide ((rdNum s).1 = 1) }, (rdNum s).2), fun _ => true⟩
def fStamp : Fld := ⟨fun m => cS m.stamp, fun s m => ({ m with stamp := m.stamp ++ (rdCnts s).1.map Int.ofNat }, (rdCnts s).2), fun m => decide (stampI m.stamp)⟩
def fNone : Fld := ⟨fun _ => [], fun s m => (m, s), fun _ => false⟩
section
variable (vp : List UInt8 → Bool)
def askedF (v : Int) : List Fld := if v = 1 then [fPath vp, fMode, fTerm] else if v = 2 then [fId, fTerm, fFresh] else if v = 3 then [fId] else [fNone]
def fieldsF (m : Msg) : List Fld :=
  if m.kind = 1 then [fBoot, fSeq, fLow, fVerb] ++ askedF vp m.verb
  else if m.kind = 2 then [fBoot, fSeq, fCode] ++ (if m.code = 0 then [fId, fGrant, fStamp] else [])
  else if m.kind = 3 then [fId, fPath vp, fOrigin, fNumber]
  else if m.kind = 4 then [fId, fOrigin, fNumber]
  else if m.kind = 5 then [fPath vp, fMode, fStamp]
  else []
def outF (L : List Fld) (m : Msg) : List UInt8 := (L.map fun f => f.out m).flatten
theorem body_fields (m : Msg) : bodyS m = nS m.kind ++ nS m.from_ ++ nS m.dest ++ outF (fieldsF vp m) m := by
  unfold bodyS fieldsF askedF outF
  repeat' split
  all_goals simp_all [fN, fBoot, fSeq, fLow, fVerb, fCode, fMode, fTerm, fGrant, fId, fOrigin, fNumber, fPath, fFresh, fStamp, fNone]
theorem fields_le (m : Msg) : (fieldsF vp m).length ≤ 7 := by
  unfold fieldsF askedF
  repeat' split
  all_goals simp
/-- the fields are taken up one behind the other: those that are known by then -/
def goF : Nat → Nat → Msg → Rd → Msg
  | 0, _, m, _ => m
  | n + 1, i, m, s => match (fieldsF vp m)[i]? with
    | none => m
    | some f => goF n (i + 1) (f.inn s m).1 (f.inn s m).2
theorem goF_end {i : Nat} {m : Msg} (h : (fieldsF vp m).length ≤ i) (n : Nat) (s : Rd) : goF vp n i m s = m := by
  cases n with
  | zero => rfl
  | succ n => unfold goF; rw [List.getElem?_eq_none h]
theorem goF_step {i : Nat} {m : Msg} (h : i < (fieldsF vp m).length) (n : Nat) (s : Rd) : goF vp (n + 1) i m s = goF vp n (i + 1) (((fieldsF vp m)[i]'h).inn s m).1 (((fieldsF vp m)[i]'h).inn s m).2 := by
  rw [goF, List.getElem?_eq_getElem h]
def headM (b : List UInt8) : Msg := { kind := (rdNum (b, 0)).1, from_ := (rdNum (rdNum (b, 0)).2).1, dest := (rdNum (rdNum (rdNum (b, 0)).2).2).1 }
def headR (b : List UInt8) : Rd := (rdNum (rdNum (rdNum (b, 0)).2).2).2
theorem goF_take (b : List UInt8) : goF vp 8 0 (headM b) (headR b) = takeMsg b := by
  unfold takeMsg headM headR
  generalize rdNum (b, 0) = a0
  obtain ⟨k, s0⟩ := a0
  simp only
  generalize rdNum s0 = a1
  obtain ⟨f, s1⟩ := a1
  simp only
  generalize rdNum s1 = a2
  obtain ⟨t, s2⟩ := a2
  simp only
  have e1 : ∀ j : Nat, ((k : Int) = ((j : Nat) : Int)) ↔ k = j := by omega
  by_cases k1 : k = 1
  · subst k1
    by_cases v1 : (rdNum (rdNum (rdNum (rdNum s2).2).2).2).1 = 1
    · simp [goF, fieldsF, askedF, fN, fBoot, fSeq, fLow, fVerb, fMode, fTerm, fPath, v1]
    · by_cases v2 : (rdNum (rdNum (rdNum (rdNum s2).2).2).2).1 = 2
      · simp [goF, fieldsF, askedF, fN, fBoot, fSeq, fLow, fVerb, fTerm, fId, fFresh, v2]
      · by_cases v3 : (rdNum (rdNum (rdNum (rdNum s2).2).2).2).1 = 3
        · simp [goF, fieldsF, askedF, fN, fBoot, fSeq, fLow, fVerb, fId, v3]
        · have w1 : ¬ ((rdNum (rdNum (rdNum (rdNum s2).2).2).2).1 : Int) = 1 := by omega
          have w2 : ¬ ((rdNum (rdNum (rdNum (rdNum s2).2).2).2).1 : Int) = 2 := by omega
          have w3 : ¬ ((rdNum (rdNum (rdNum (rdNum s2).2).2).2).1 : Int) = 3 := by omega
          simp [goF, fieldsF, askedF, fN, fBoot, fSeq, fLow, fVerb, fNone, v1, v2, v3, w1, w2, w3]
  · have j1 : ¬ (k : Int) = 1 := by omega
    by_cases k2 : k = 2
    · subst k2
      by_cases c0 : (rdNum (rdNum (rdNum s2).2).2).1 = 0
      · simp [goF, fieldsF, fN, fBoot, fSeq, fCode, fId, fGrant, fStamp, c0]
      · have d0 : ¬ ((rdNum (rdNum (rdNum s2).2).2).1 : Int) = 0 := by omega
        simp [goF, fieldsF, fN, fBoot, fSeq, fCode, fId, fGrant, fStamp, c0]
    · have j2 : ¬ (k : Int) = 2 := by omega
      by_cases k3 : k = 3
      · subst k3
        simp [goF, fieldsF, fN, fId, fPath, fOrigin, fNumber]
      · have j3 : ¬ (k : Int) = 3 := by omega
        by_cases k4 : k = 4
        · subst k4
          simp [goF, fieldsF, fN, fId, fOrigin, fNumber]
        · have j4 : ¬ (k : Int) = 4 := by omega
          by_cases k5 : k = 5
          · subst k5
            simp [goF, fieldsF, fN, fPath, fMode, fStamp]
          · have j5 : ¬ (k : Int) = 5 := by omega
            simp [goF, fieldsF, k1, k2, k3, k4, k5, j1, j2, j3, j4, j5]
theorem used_take (b : List UInt8) : usedS (takeMsg b) = takeMsg b := by
  unfold takeMsg
  generalize rdNum (b, 0) = a0
  obtain ⟨k, s0⟩ := a0
  simp only
  generalize rdNum s0 = a1
  obtain ⟨f, s1⟩ := a1
  simp only
  generalize rdNum s1 = a2
  obtain ⟨t, s2⟩ := a2
  simp only
  by_cases k1 : k = 1
  · subst k1
    generalize rdNum s2 = a3
    obtain ⟨x3, s3⟩ := a3
    simp only
    generalize rdNum s3 = a4
    obtain ⟨x4, s4⟩ := a4
    simp only
    generalize rdNum s4 = a5
    obtain ⟨x5, s5⟩ := a5
    simp only
    generalize rdNum s5 = a6
    obtain ⟨v, s6⟩ := a6
    simp only
    by_cases v1 : v = 1
    · subst v1; simp [usedS]
    · by_cases v2 : v = 2
      · subst v2; simp [usedS]
      · by_cases v3 : v = 3
        · subst v3; simp [usedS]
        · have w1 : ¬ (v : Int) = 1 := by omega
          have w2 : ¬ (v : Int) = 2 := by omega
          have w3 : ¬ (v : Int) = 3 := by omega
          simp [usedS, v1, v2, v3, w1, w2, w3]
  · have j1 : ¬ (k : Int) = 1 := by omega
    by_cases k2 : k = 2
    · subst k2
      by_cases c0 : (rdNum (rdNum (rdNum s2).2).2).1 = 0
      · simp [usedS, c0]
      · have d0 : ¬ ((rdNum (rdNum (rdNum s2).2).2).1 : Int) = 0 := by omega
        simp [usedS, c0]
    · have j2 : ¬ (k : Int) = 2 := by omega
      by_cases k3 : k = 3
      · subst k3; simp [usedS]
      · have j3 : ¬ (k : Int) = 3 := by omega
        by_cases k4 : k = 4
        · subst k4; simp [usedS]
        · have j4 : ¬ (k : Int) = 4 := by omega
          by_cases k5 : k = 5
          · subst k5; simp [usedS]
          · have j5 : ¬ (k : Int) = 5 := by omega
            simp [usedS, k1, k2, k3, k4, k5, j1, j2, j3, j4, j5]
/-- what the program asks of a message -/
def validP (m : Msg) : Prop := fieldsF vp m ≠ [] ∧ nodeI m.from_ ∧ m.from_ ≠ m.dest ∧ (m.kind = 5 → 8 ≤ m.dest ∧ m.dest < 12) ∧ (m.kind ≠ 5 → nodeI m.dest) ∧ (∀ f ∈ fieldsF vp m, f.may m = true)
theorem valid_iff (hvp : ∀ l, vp l = true → l.length ≤ 27) (m : Msg) : mayS vp m ↔ validP vp m ∧ takeMsg (bodyS m) = m := by
  constructor
  · intro h
    obtain ⟨hf, hv⟩ := fit_of hvp h
    have ht := take_body m hf []
    rw [if_neg hv, List.append_nil] at ht
    refine ⟨?_, by rw [ht]; exact h.1⟩
    obtain ⟨_, h1, h2, h3⟩ := h
    refine ⟨?_, h1, h2, ?_⟩
    · unfold fineS at h3
      unfold fieldsF
      repeat' split
      all_goals simp_all
    · unfold fineS at h3
      unfold fieldsF askedF
      refine ⟨fun k5 => ?_, fun k5 => ?_, ?_⟩
      · rw [k5] at h3; simp at h3; omega
      · by_cases k1 : m.kind = 1
        · rw [if_pos k1] at h3; exact h3.1
        · rw [if_neg k1] at h3
          by_cases k2 : m.kind = 2
          · rw [if_pos k2] at h3; exact h3.1
          · rw [if_neg k2] at h3
            by_cases k3 : m.kind = 3
            · rw [if_pos k3] at h3; exact h3.1
            · rw [if_neg k3] at h3
              by_cases k4 : m.kind = 4
              · rw [if_pos k4] at h3; exact h3.1
              · rw [if_neg k4, if_neg k5] at h3; exact h3.elim
      · by_cases k1 : m.kind = 1
        · rw [if_pos k1] at h3 ⊢
          by_cases v1 : m.verb = 1
          · simp_all [fN, fBoot, fSeq, fLow, fVerb, fMode, fTerm, fPath]
          · by_cases v2 : m.verb = 2
            · simp_all [fN, fBoot, fSeq, fLow, fVerb, fTerm, fId, fFresh]
            · by_cases v3 : m.verb = 3
              · simp_all [fN, fBoot, fSeq, fLow, fVerb, fId]
              · simp_all
        · rw [if_neg k1] at h3 ⊢
          by_cases k2 : m.kind = 2
          · rw [if_pos k2] at h3 ⊢
            by_cases c0 : m.code = 0
            · simp_all [fN, fBoot, fSeq, fCode, fId, fGrant, fStamp]
              rcases h3.2.2.2.2.2 with ⟨q1, q2⟩ | ⟨q1, q2⟩
              · simp_all
              · simp_all
            · simp_all [fN, fBoot, fSeq, fCode]
          · rw [if_neg k2] at h3 ⊢
            by_cases k3 : m.kind = 3
            · simp_all [fN, fId, fPath, fOrigin, fNumber]
            · by_cases k4 : m.kind = 4
              · simp_all [fN, fId, fOrigin, fNumber]
              · by_cases k5 : m.kind = 5
                · simp_all [fN, fMode, fPath, fStamp]
                · simp_all
  · rintro ⟨⟨h0, h1, h2, h3, h4, h5⟩, ht⟩
    refine ⟨by rw [← ht]; exact used_take _, h1, h2, ?_⟩
    unfold fieldsF askedF at h5 h0
    unfold fineS
    by_cases k1 : m.kind = 1
    · rw [if_pos k1] at h5 ⊢
      have := h4 (by omega)
      by_cases v1 : m.verb = 1
      · simp_all [fN, fBoot, fSeq, fLow, fVerb, fMode, fTerm, fPath]
      · by_cases v2 : m.verb = 2
        · simp_all [fN, fBoot, fSeq, fLow, fVerb, fTerm, fId, fFresh]
        · by_cases v3 : m.verb = 3
          · simp_all [fN, fBoot, fSeq, fLow, fVerb, fId]
          · simp_all [fNone]
    · rw [if_neg k1] at h5 ⊢
      by_cases k2 : m.kind = 2
      · rw [if_pos k2] at h5 ⊢
        have := h4 (by omega)
        by_cases c0 : m.code = 0
        · simp_all [fN, fBoot, fSeq, fCode, fId, fGrant, fStamp]
          rcases h5.2.2.2.1 with ⟨q1, q2⟩ | ⟨q1, q2⟩
          · simp_all
          · simp_all
        · simp_all [fN, fBoot, fSeq, fCode]
      · rw [if_neg k2] at h5 ⊢
        by_cases k3 : m.kind = 3
        · have := h4 (by omega)
          simp_all [fN, fId, fPath, fOrigin, fNumber]
        · by_cases k4 : m.kind = 4
          · have := h4 (by omega)
            simp_all [fN, fId, fOrigin, fNumber]
          · by_cases k5 : m.kind = 5
            · have := h3 k5
              simp_all [fN, fMode, fPath, fStamp]
            · simp_all
end
end Go.Proofs.Ytbnpdghfbiacaaa
