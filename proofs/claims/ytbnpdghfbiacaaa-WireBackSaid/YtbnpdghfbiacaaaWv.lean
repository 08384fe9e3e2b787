/- Messages, in plain words (wire): which may be, their bytes, and back. vp says which texts are paths. No condition beyond what each theorem states. -/
import Derived.Test.YtbnpdghfbiacaaaWi
import Derived.Test.YtbnpdghfbiacaaaSe
namespace Go.Proofs.Ytbnpdghfbiacaaa
open Go

def nodeI (x : Int) : Prop := 0 ≤ x ∧ x < 8
def cntI (x : Int) : Prop := 1 ≤ x ∧ x ≤ 1099511627776
def modeI (x : Int) : Prop := x = 1 ∨ x = 2
def termI (x : Int) : Prop := 4 ≤ x ∧ x ≤ 1048576
def stampI (l : List Int) : Prop := l.length ≤ 4 ∧ ∀ x ∈ l, cntI x
instance (x : Int) : Decidable (nodeI x) := by unfold nodeI; infer_instance
instance (x : Int) : Decidable (cntI x) := by unfold cntI; infer_instance
instance (x : Int) : Decidable (modeI x) := by unfold modeI; infer_instance
instance (x : Int) : Decidable (termI x) := by unfold termI; infer_instance
instance (l : List Int) : Decidable (stampI l) := by unfold stampI; infer_instance
section
variable (vp : List UInt8 → Bool)
/-- may the fields of its kind be? -/
def fineS (m : Msg) : Prop :=
  if m.kind = 1 then nodeI m.dest ∧ cntI m.boot ∧ cntI m.seq ∧ 1 ≤ m.low ∧ m.low ≤ m.seq ∧
    (if m.verb = 1 then vp m.path = true ∧ modeI m.mode ∧ termI m.term else if m.verb = 2 then cntI m.id ∧ termI m.term else if m.verb = 3 then cntI m.id else False)
  else if m.kind = 2 then nodeI m.dest ∧ cntI m.boot ∧ cntI m.seq ∧ 0 ≤ m.code ∧ m.code ≤ 99 ∧
    (m.code = 0 → cntI m.id ∧ stampI m.stamp ∧ (m.term = 0 ∧ m.stamp = [] ∨ termI m.term ∧ m.stamp ≠ []))
  else if m.kind = 3 then nodeI m.dest ∧ cntI m.id ∧ nodeI m.origin ∧ cntI m.number ∧ vp m.path = true
  else if m.kind = 4 then nodeI m.dest ∧ cntI m.id ∧ nodeI m.origin ∧ cntI m.number
  else if m.kind = 5 then 8 ≤ m.dest ∧ m.dest < 12 ∧ vp m.path = true ∧ modeI m.mode ∧ stampI m.stamp
  else False
/-- may it be a message? -/
def mayS (m : Msg) : Prop := usedS m = m ∧ nodeI m.from_ ∧ m.from_ ≠ m.dest ∧ fineS vp m
instance (m : Msg) : Decidable (fineS vp m) := by unfold fineS; infer_instance
instance (m : Msg) : Decidable (mayS vp m) := by unfold mayS; infer_instance
def sumS (l : List UInt8) : List UInt8 := l ++ four (crcS l).toNat
def encS (m : Msg) : Option (List UInt8) := if mayS vp m then some (sumS (bodyS m)) else none
def decS (b : List UInt8) : Option Msg := if b.length ≤ 200 ∧ encS vp (takeMsg b) = some b then some (takeMsg b) else none
end

theorem used_kind {m : Msg} (h : usedS m = m) : (m.kind ≠ 1 → m.low = 0 ∧ m.verb = 0 ∧ m.fresh = false) := fun h1 => by
  rw [← h]; unfold usedS; rw [if_neg h1]
  repeat' split
  all_goals exact ⟨rfl, rfl, rfl⟩
theorem cI {x : Int} (h : cntI x) : 0 ≤ x ∧ x < 9223372036854775808 := by unfold cntI at h; omega
theorem nI {x : Int} (h : nodeI x) : 0 ≤ x ∧ x < 9223372036854775808 := by unfold nodeI at h; omega
theorem mI {x : Int} (h : modeI x) : 0 ≤ x ∧ x < 9223372036854775808 := by unfold modeI at h; omega
theorem tI {x : Int} (h : termI x) : 0 ≤ x ∧ x < 9223372036854775808 := by unfold termI at h; omega
theorem i1 : (0 : Int) ≤ 1 ∧ (1 : Int) < 9223372036854775808 := by omega
theorem i2 : (0 : Int) ≤ 2 ∧ (2 : Int) < 9223372036854775808 := by omega
theorem i3 : (0 : Int) ≤ 3 ∧ (3 : Int) < 9223372036854775808 := by omega
theorem i4 : (0 : Int) ≤ 4 ∧ (4 : Int) < 9223372036854775808 := by omega
theorem i5 : (0 : Int) ≤ 5 ∧ (5 : Int) < 9223372036854775808 := by omega
theorem zI : (0 : Int) ≤ 0 ∧ (0 : Int) < 9223372036854775808 := by omega
theorem sI {l : List Int} (h : stampI l) : ∀ x ∈ l, 0 ≤ x ∧ x < 9223372036854775808 := fun x hx => cI (h.2 x hx)
theorem sJ {l : List Int} (h : stampI l) : l.length ≤ 5 := by have := h.1; omega
theorem zJ : ([] : List Int).length ≤ 5 := by simp
theorem zK : ∀ x ∈ ([] : List Int), 0 ≤ x ∧ x < 9223372036854775808 := by simp
theorem zP : ([] : List UInt8).length ≤ 200 := by simp
/-- a valid message fits -/
theorem fit_of {vp : List UInt8 → Bool} (hvp : ∀ l, vp l = true → l.length ≤ 27) {m : Msg} (h : mayS vp m) : Fit m ∧ ¬ (m.kind = 1 ∧ m.verb ≠ 1 ∧ m.verb ≠ 2 ∧ m.verb ≠ 3) := by
  obtain ⟨hu, hn, _, hf⟩ := h
  have hP : ∀ l, vp l = true → l.length ≤ 200 := fun l hl => by have := hvp l hl; omega
  obtain ⟨kind, from_, to, boot, seq, low, verb, path, mode, term, id, fresh, code, stamp, origin, number⟩ := m
  simp only [fineS] at hf hn
  by_cases k1 : kind = 1
  · subst k1
    rw [if_pos rfl] at hf
    obtain ⟨h1, h2, h3, h4, h5, h6⟩ := hf
    have hl : 0 ≤ low ∧ low < 9223372036854775808 := by have := cI h3; omega
    by_cases v1 : verb = 1
    · subst v1
      rw [if_pos rfl] at h6
      simp [usedS] at hu
      obtain ⟨rfl, rfl, rfl, rfl, rfl, rfl⟩ := hu
      exact ⟨⟨i1, nI hn, nI h1, cI h2, cI h3, hl, i1, hP _ h6.1, mI h6.2.1, tI h6.2.2, zI, zI, zJ, zK, zI, zI⟩, by simp⟩
    · rw [if_neg v1] at h6
      by_cases v2 : verb = 2
      · subst v2
        rw [if_pos rfl] at h6
        simp [usedS] at hu
        obtain ⟨rfl, rfl, rfl, rfl, rfl, rfl⟩ := hu
        exact ⟨⟨i1, nI hn, nI h1, cI h2, cI h3, hl, i2, zP, zI, tI h6.2, cI h6.1, zI, zJ, zK, zI, zI⟩, by simp⟩
      · rw [if_neg v2] at h6
        by_cases v3 : verb = 3
        · subst v3
          rw [if_pos rfl] at h6
          simp [usedS] at hu
          obtain ⟨rfl, rfl, rfl, rfl, rfl, rfl, rfl, rfl⟩ := hu
          exact ⟨⟨i1, nI hn, nI h1, cI h2, cI h3, hl, i3, zP, zI, zI, cI h6, zI, zJ, zK, zI, zI⟩, by simp⟩
        · rw [if_neg v3] at h6
          exact h6.elim
  · rw [if_neg k1] at hf
    by_cases k2 : kind = 2
    · subst k2
      rw [if_pos rfl] at hf
      obtain ⟨h1, h2, h3, h4, h5, h6⟩ := hf
      have hc : 0 ≤ code ∧ code < 9223372036854775808 := by omega
      by_cases c0 : code = 0
      · subst c0
        obtain ⟨q1, q2, q3⟩ := h6 rfl
        have ht : 0 ≤ term ∧ term < 9223372036854775808 := by
          rcases q3 with ⟨q, _⟩ | ⟨q, _⟩
          · omega
          · exact tI q
        simp [usedS] at hu
        obtain ⟨rfl, rfl, rfl, rfl, rfl, rfl, rfl⟩ := hu
        exact ⟨⟨i2, nI hn, nI h1, cI h2, cI h3, zI, zI, zP, zI, ht, cI q1, zI, sJ q2, sI q2, zI, zI⟩, by simp⟩
      · simp [usedS, c0] at hu
        obtain ⟨rfl, rfl, rfl, rfl, rfl, rfl, rfl, rfl, rfl, rfl⟩ := hu
        exact ⟨⟨i2, nI hn, nI h1, cI h2, cI h3, zI, zI, zP, zI, zI, zI, hc, zJ, zK, zI, zI⟩, by simp⟩
    · rw [if_neg k2] at hf
      by_cases k3 : kind = 3
      · subst k3
        rw [if_pos rfl] at hf
        obtain ⟨h1, h2, h3, h4, h5⟩ := hf
        simp [usedS] at hu
        obtain ⟨rfl, rfl, rfl, rfl, rfl, rfl, rfl, rfl, rfl⟩ := hu
        exact ⟨⟨i3, nI hn, nI h1, zI, zI, zI, zI, hP _ h5, zI, zI, cI h2, zI, zJ, zK, nI h3, cI h4⟩, by simp⟩
      · rw [if_neg k3] at hf
        by_cases k4 : kind = 4
        · subst k4
          rw [if_pos rfl] at hf
          obtain ⟨h1, h2, h3, h4⟩ := hf
          simp [usedS] at hu
          obtain ⟨rfl, rfl, rfl, rfl, rfl, rfl, rfl, rfl, rfl, rfl⟩ := hu
          exact ⟨⟨i4, nI hn, nI h1, zI, zI, zI, zI, zP, zI, zI, cI h2, zI, zJ, zK, nI h3, cI h4⟩, by simp⟩
        · rw [if_neg k4] at hf
          by_cases k5 : kind = 5
          · subst k5
            rw [if_pos rfl] at hf
            obtain ⟨h1, h2, h3, h4, h5⟩ := hf
            have ht : 0 ≤ to ∧ to < 9223372036854775808 := by omega
            simp [usedS] at hu
            obtain ⟨rfl, rfl, rfl, rfl, rfl, rfl, rfl, rfl, rfl, rfl⟩ := hu
            exact ⟨⟨i5, nI hn, ht, zI, zI, zI, zI, hP _ h3, mI h4, zI, zI, zI, sJ h5, sI h5, zI, zI⟩, by simp⟩
          · rw [if_neg k5] at hf
            exact hf.elim
/-- what was made of a message gives it back -/
theorem dec_enc {vp : List UInt8 → Bool} (hvp : ∀ l, vp l = true → l.length ≤ 27) {m : Msg} {b : List UInt8} (h : encS vp m = some b) (hb : b.length ≤ 200) : decS vp b = some m := by
  have h0 := h
  unfold encS at h
  by_cases hv : mayS vp m
  · rw [if_pos hv] at h
    injection h with h
    obtain ⟨hf, hn⟩ := fit_of hvp hv
    have ht : takeMsg b = m := by
      rw [← h]
      unfold sumS
      rw [take_body m hf, if_neg hn]
      exact hv.1
    unfold decS
    rw [ht, if_pos ⟨hb, h0⟩]
  · rw [if_neg hv] at h; cases h
/-- bytes that are taken are the only bytes of their message -/
theorem enc_dec {vp : List UInt8 → Bool} {m : Msg} {b : List UInt8} (h : decS vp b = some m) : encS vp m = some b ∧ b.length ≤ 200 ∧ takeMsg b = m := by
  unfold decS at h
  split at h
  · rename_i hh
    injection h with h
    exact ⟨by rw [← h]; exact hh.2, hh.1, h⟩
  · cases h
theorem enc_sum {vp : List UInt8 → Bool} {m : Msg} {b : List UInt8} (h : encS vp m = some b) : b = sumS (bodyS m) ∧ mayS vp m := by
  unfold encS at h
  split at h
  · rename_i hh
    injection h with h
    exact ⟨h.symm, hh⟩
  · cases h
/-- bytes in which one is turned are no message's -/
theorem dec_turned {vp : List UInt8 → Bool} {m : Msg} {b : List UInt8} (h : encS vp m = some b) (i : Nat) (hi : i < b.length) (c : UInt8) (hc : c ≠ b[i]) : decS vp (b.set i c) = none := by
  cases hd : decS vp (b.set i c) with
  | none => rfl
  | some m' =>
    exfalso
    obtain ⟨he, _, _⟩ := enc_dec hd
    obtain ⟨e1, _⟩ := enc_sum h
    obtain ⟨e2, _⟩ := enc_sum he
    generalize bodyS m = x at *
    generalize bodyS m' = y at *
    unfold sumS at e1 e2
    have hl : y.length = x.length := by
      have h1 := congrArg List.length e1
      have h2 := congrArg List.length e2
      simp at h1 h2
      omega
    have hbl : b.length = x.length + 4 := by rw [e1]; simp
    by_cases hx : i < x.length
    · have q1 : (b.set i c).take x.length = x.set i c := by rw [List.take_set, e1, List.take_left' rfl]
      have q2 : (b.set i c).take x.length = y := by rw [e2, ← hl, List.take_left' rfl]
      have q3 : (b.set i c).drop x.length = four (crcS x).toNat := by rw [List.drop_set, if_pos hx, e1, List.drop_left' rfl]
      have q4 : (b.set i c).drop x.length = four (crcS y).toNat := by rw [e2, ← hl, List.drop_left' rfl]
      have hy : y = x.set i c := by rw [← q2, q1]
      rw [q3, hy] at q4
      have h1 := ofFour_four (crcS x).toNat (crcS _).isLt []
      have h2 := ofFour_four (crcS (x.set i c)).toNat (crcS _).isLt []
      rw [List.append_nil] at h1 h2
      rw [← q4, h1] at h2
      have h3 : crcS x = crcS (x.set i c) := BitVec.eq_of_toNat_eq h2
      refine crcS_set x i c hx (fun e => hc ?_) h3.symm
      rw [e]
      simp [e1, hx]
    · have q1 : (b.set i c).take x.length = x := by rw [List.take_set, List.set_eq_of_length_le (by simp; omega), e1, List.take_left' rfl]
      have q2 : (b.set i c).take x.length = y := by rw [e2, ← hl, List.take_left' rfl]
      have hy : y = x := by rw [← q2, q1]
      have q4 : (b.set i c).drop x.length = four (crcS x).toNat := by rw [e2, hy, List.drop_left' rfl]
      have q3 : b.drop x.length = four (crcS x).toNat := by rw [e1, List.drop_left' rfl]
      rw [← q3] at q4
      have hg : ((b.set i c).drop x.length)[i - x.length]? = (b.drop x.length)[i - x.length]? := by rw [q4]
      rw [List.getElem?_drop, List.getElem?_drop, show x.length + (i - x.length) = i by omega, List.getElem?_set_self hi, List.getElem?_eq_getElem hi] at hg
      injection hg with hg
      exact hc hg
theorem nS_le {x : Int} (h : x ≤ 1099511627776) : (nS x).length ≤ 6 := numS_len 5 x.toNat (by omega)
theorem nS_pos (x : Int) : 0 < (nS x).length := numS_pos _
theorem cS_le {l : List Int} (h : stampI l) : (cS l).length ≤ 30 := by
  have key : ∀ l : List Int, (∀ x ∈ l, cntI x) → (numsS (l.map Int.toNat)).length ≤ 6 * l.length := by
    intro l
    induction l with
    | nil => intro _; simp [numsS]
    | cons x l ih =>
      intro hx
      have h1 := ih (fun y hy => hx y (List.mem_cons_of_mem _ hy))
      have h2 : (nS x).length ≤ 6 := nS_le (by have := hx x (List.mem_cons_self ..); unfold cntI at this; omega)
      unfold nS at h2
      simp only [numsS, List.map_cons, List.flatten_cons, List.length_append, List.length_cons] at h1 ⊢
      omega
  have h1 := key l h.2
  have h2 : (numS (l.map Int.toNat).length).length ≤ 1 := numS_len 0 _ (by have := h.1; simp; omega)
  have h3 := h.1
  unfold cS cntsS
  rw [List.length_append]
  omega
theorem textS_le {t : List UInt8} (h : t.length ≤ 27) : (textS t).length ≤ 28 := by
  have h2 : (numS t.length).length ≤ 1 := numS_len 0 _ (by omega)
  unfold textS
  rw [List.length_append]
  omega
/-- no message is longer than a packet -/
theorem enc_len {vp : List UInt8 → Bool} (hvp : ∀ l, vp l = true → l.length ≤ 27) {m : Msg} {b : List UInt8} (h : encS vp m = some b) : 4 < b.length ∧ b.length ≤ 200 := by
  obtain ⟨e, hv⟩ := enc_sum h
  obtain ⟨_, hn, _, hf⟩ := hv
  have h0 := nS_pos m.kind
  have hb : b.length = (bodyS m).length + 4 := by rw [e]; simp [sumS]
  have hlow : 0 < (bodyS m).length := by unfold bodyS; rw [List.length_append]; omega
  refine ⟨by omega, ?_⟩
  suffices (bodyS m).length ≤ 190 by omega
  unfold nodeI at hn
  have f1 := nS_le (x := m.from_) (by omega)
  unfold fineS at hf
  by_cases k1 : m.kind = 1
  · rw [if_pos k1] at hf
    obtain ⟨h1, h2, h3, h4, h5, h6⟩ := hf
    unfold nodeI at h1
    unfold cntI at h2 h3
    have f0 := nS_le (x := m.kind) (by omega); have f2 := nS_le (x := m.dest) (by omega); have f3 := nS_le (x := m.boot) (by omega); have f4 := nS_le (x := m.seq) (by omega); have f5 := nS_le (x := m.low) (by omega)
    by_cases v1 : m.verb = 1
    · rw [if_pos v1] at h6
      obtain ⟨q1, q2, q3⟩ := h6
      unfold modeI at q2
      unfold termI at q3
      have f6 := nS_le (x := m.verb) (by omega); have f7 := textS_le (hvp _ q1); have f8 := nS_le (x := m.mode) (by omega); have f9 := nS_le (x := m.term) (by omega)
      simp only [bodyS, if_pos k1, if_pos v1, List.length_append]
      omega
    · rw [if_neg v1] at h6
      by_cases v2 : m.verb = 2
      · rw [if_pos v2] at h6
        obtain ⟨q1, q2⟩ := h6
        unfold cntI at q1
        unfold termI at q2
        have f6 := nS_le (x := m.verb) (by omega); have f7 := nS_le (x := m.id) (by omega); have f8 := nS_le (x := if m.fresh then (1 : Int) else 0) (by split <;> omega); have f9 := nS_le (x := m.term) (by omega)
        simp only [bodyS, if_pos k1, if_neg v1, if_pos v2, List.length_append]
        omega
      · rw [if_neg v2] at h6
        by_cases v3 : m.verb = 3
        · rw [if_pos v3] at h6
          unfold cntI at h6
          have f6 := nS_le (x := m.verb) (by omega); have f7 := nS_le (x := m.id) (by omega)
          simp only [bodyS, if_pos k1, if_neg v1, if_neg v2, if_pos v3, List.length_append]
          omega
        · rw [if_neg v3] at h6; exact h6.elim
  · rw [if_neg k1] at hf
    by_cases k2 : m.kind = 2
    · rw [if_pos k2] at hf
      obtain ⟨h1, h2, h3, h4, h5, h6⟩ := hf
      unfold nodeI at h1
      unfold cntI at h2 h3
      have f0 := nS_le (x := m.kind) (by omega); have f2 := nS_le (x := m.dest) (by omega); have f3 := nS_le (x := m.boot) (by omega); have f4 := nS_le (x := m.seq) (by omega); have f5 := nS_le (x := m.code) (by omega)
      by_cases c0 : m.code = 0
      · obtain ⟨q1, q2, q3⟩ := h6 c0
        unfold cntI at q1
        have f6 := nS_le (x := m.id) (by omega); have f7 := cS_le q2
        have f8 := nS_le (x := m.term) (by
          rcases q3 with ⟨q, _⟩ | ⟨q, _⟩
          · omega
          · unfold termI at q; omega)
        simp only [bodyS, if_neg k1, if_pos k2, if_pos c0, List.length_append]
        omega
      · simp only [bodyS, if_neg k1, if_pos k2, if_neg c0, List.length_append, List.length_nil]
        omega
    · rw [if_neg k2] at hf
      by_cases k3 : m.kind = 3
      · rw [if_pos k3] at hf
        obtain ⟨h1, h2, h3, h4, h5⟩ := hf
        unfold nodeI at h1 h3
        unfold cntI at h2 h4
        have f0 := nS_le (x := m.kind) (by omega); have f2 := nS_le (x := m.dest) (by omega); have f3 := nS_le (x := m.id) (by omega); have f4 := nS_le (x := m.origin) (by omega); have f5 := nS_le (x := m.number) (by omega); have f6 := textS_le (hvp _ h5)
        simp only [bodyS, if_neg k1, if_neg k2, if_pos k3, List.length_append]
        omega
      · rw [if_neg k3] at hf
        by_cases k4 : m.kind = 4
        · rw [if_pos k4] at hf
          obtain ⟨h1, h2, h3, h4⟩ := hf
          unfold nodeI at h1 h3
          unfold cntI at h2 h4
          have f0 := nS_le (x := m.kind) (by omega); have f2 := nS_le (x := m.dest) (by omega); have f3 := nS_le (x := m.id) (by omega); have f4 := nS_le (x := m.origin) (by omega); have f5 := nS_le (x := m.number) (by omega)
          simp only [bodyS, if_neg k1, if_neg k2, if_neg k3, if_pos k4, List.length_append]
          omega
        · rw [if_neg k4] at hf
          by_cases k5 : m.kind = 5
          · rw [if_pos k5] at hf
            obtain ⟨h1, h2, h3, h4, h5⟩ := hf
            unfold modeI at h4
            have f0 := nS_le (x := m.kind) (by omega); have f2 := nS_le (x := m.dest) (by omega); have f3 := nS_le (x := m.mode) (by omega); have f4 := textS_le (hvp _ h3); have f5 := cS_le h5
            simp only [bodyS, if_neg k1, if_neg k2, if_neg k3, if_neg k4, if_pos k5, List.length_append]
            omega
          · rw [if_neg k5] at hf; exact hf.elim
end Go.Proofs.Ytbnpdghfbiacaaa
