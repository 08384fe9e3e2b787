/- Sectors in plain words: a part's sector, what a sector holds, the records of a list of sectors. No condition beyond what each theorem states. -/
import Derived.Test.YtbnpdghfbiacaaaCr
namespace Go.Proofs.Ytbnpdghfbiacaaa
open Go

/-- a number as four bytes -/
def four (n : Nat) : List UInt8 := [UInt8.ofNat n, UInt8.ofNat (n / 256), UInt8.ofNat (n / 65536), UInt8.ofNat (n / 16777216)]
/-- the number of the first four bytes -/
def ofFour (l : List UInt8) : Nat := (l.getD 0 0).toNat + (l.getD 1 0).toNat * 256 + (l.getD 2 0).toNat * 65536 + (l.getD 3 0).toNat * 16777216
@[simp] theorem four_length (n : Nat) : (four n).length = 4 := rfl
theorem ofFour_lt (l : List UInt8) : ofFour l < 4294967296 := by
  unfold ofFour
  have := (l.getD 0 0).toNat_lt; have := (l.getD 1 0).toNat_lt; have := (l.getD 2 0).toNat_lt; have := (l.getD 3 0).toNat_lt
  omega
theorem ofFour_four (n : Nat) (h : n < 4294967296) (r : List UInt8) : ofFour (four n ++ r) = n := by
  simp [ofFour, four, UInt8.toNat_ofNat']; omega
theorem four_ofFour (l : List UInt8) (h : 4 ≤ l.length) : four (ofFour l) = l.take 4 := by
  obtain ⟨a, l, rfl⟩ : ∃ a t, l = a :: t := by cases l <;> simp at h ⊢
  obtain ⟨b, l, rfl⟩ : ∃ a t, l = a :: t := by cases l <;> simp at h ⊢
  obtain ⟨c, l, rfl⟩ : ∃ a t, l = a :: t := by cases l <;> simp at h ⊢
  obtain ⟨d, l, rfl⟩ : ∃ a t, l = a :: t := by cases l <;> simp at h ⊢
  have := a.toNat_lt; have := b.toNat_lt; have := c.toNat_lt; have := d.toNat_lt
  simp only [ofFour, four, List.take_succ_cons, List.take_zero, List.getD_cons_zero, List.getD_cons_succ]
  simp only [List.cons.injEq, and_true, ← UInt8.toNat_inj, UInt8.toNat_ofNat']
  omega

structure Pt where
  gen : Nat
  seq : Nat
  idx : Nat
  parts : Nat
  data : List UInt8
deriving DecidableEq

def headS (p : Pt) : List UInt8 := four p.gen ++ four p.seq ++ [UInt8.ofNat p.idx, UInt8.ofNat p.parts, UInt8.ofNat p.data.length] ++ p.data
def padS (l : List UInt8) : List UInt8 := l ++ List.replicate (60 - l.length) 0
def layS (p : Pt) : List UInt8 := padS (headS p) ++ four (crcS (padS (headS p))).toNat
/-- may it be a part? -/
def okPt (p : Pt) : Prop := 1 ≤ p.gen ∧ p.gen ≤ 1073741824 ∧ p.seq ≤ 1073741824 ∧ p.parts ≤ 4 ∧ p.idx < p.parts ∧ p.data.length ≤ 47 ∧ (p.idx + 1 ≠ p.parts → p.data.length = 47) ∧ (p.idx + 1 = p.parts → 0 < p.data.length ∨ p.parts = 1)
instance (p : Pt) : Decidable (okPt p) := by unfold okPt; infer_instance
/-- what a sector would hold -/
def readS (b : List UInt8) : Pt := ⟨ofFour b, ofFour (b.drop 4), (b.getD 8 0).toNat, (b.getD 9 0).toNat, (b.drop 11).take (b.getD 10 0).toNat⟩
def lookS (b : List UInt8) : Option Pt := if b.length = 64 ∧ okPt (readS b) ∧ layS (readS b) = b then some (readS b) else none

theorem headS_length (p : Pt) : (headS p).length = 11 + p.data.length := by simp [headS]; omega
theorem padS_length (l : List UInt8) (h : l.length ≤ 60) : (padS l).length = 60 := by simp [padS]; omega
theorem layS_length (p : Pt) (h : p.data.length ≤ 49) : (layS p).length = 64 := by
  unfold layS; rw [List.length_append, padS_length _ (by rw [headS_length]; omega), four_length]
theorem readS_layS (p : Pt) (h : okPt p) : readS (layS p) = p := by
  obtain ⟨h1, h2, h3, h4, h5, h6, h7, h8⟩ := h
  obtain ⟨gen, seq, idx, parts, data⟩ := p
  simp only at h1 h2 h3 h4 h5 h6 h7 h8
  have e : layS ⟨gen, seq, idx, parts, data⟩ = four gen ++ (four seq ++ (UInt8.ofNat idx :: UInt8.ofNat parts :: UInt8.ofNat data.length :: (data ++ (List.replicate (60 - (headS ⟨gen, seq, idx, parts, data⟩).length) 0 ++ four (crcS (padS (headS ⟨gen, seq, idx, parts, data⟩))).toNat)))) := by
    simp [layS, padS, headS, List.append_assoc]
  have d4 : (layS ⟨gen, seq, idx, parts, data⟩).drop 4 = four seq ++ (UInt8.ofNat idx :: UInt8.ofNat parts :: UInt8.ofNat data.length :: (data ++ (List.replicate (60 - (headS ⟨gen, seq, idx, parts, data⟩).length) 0 ++ four (crcS (padS (headS ⟨gen, seq, idx, parts, data⟩))).toNat))) := by
    rw [e, List.drop_left' (four_length _)]
  unfold readS
  rw [d4]
  rw [e]
  rw [ofFour_four _ (by omega), ofFour_four _ (by omega)]
  have g8 : ∀ (r : List UInt8), (four gen ++ (four seq ++ (UInt8.ofNat idx :: UInt8.ofNat parts :: UInt8.ofNat data.length :: r))).getD 8 0 = UInt8.ofNat idx := fun r => rfl
  have g9 : ∀ (r : List UInt8), (four gen ++ (four seq ++ (UInt8.ofNat idx :: UInt8.ofNat parts :: UInt8.ofNat data.length :: r))).getD 9 0 = UInt8.ofNat parts := fun r => rfl
  have g10 : ∀ (r : List UInt8), (four gen ++ (four seq ++ (UInt8.ofNat idx :: UInt8.ofNat parts :: UInt8.ofNat data.length :: r))).getD 10 0 = UInt8.ofNat data.length := fun r => rfl
  have g11 : ∀ (r : List UInt8), (four gen ++ (four seq ++ (UInt8.ofNat idx :: UInt8.ofNat parts :: UInt8.ofNat data.length :: r))).drop 11 = r := fun r => rfl
  rw [g8, g9, g10, g11]
  have n1 : (UInt8.ofNat idx).toNat = idx := by rw [UInt8.toNat_ofNat']; omega
  have n2 : (UInt8.ofNat parts).toNat = parts := by rw [UInt8.toNat_ofNat']; omega
  have n3 : (UInt8.ofNat data.length).toNat = data.length := by rw [UInt8.toNat_ofNat']; omega
  rw [n1, n2, n3, List.take_left' rfl]
theorem lookS_layS (p : Pt) (h : okPt p) : lookS (layS p) = some p := by
  unfold lookS
  rw [readS_layS p h]
  rw [if_pos ⟨layS_length p (by have := h.2.2.2.2.2.1; omega), h, rfl⟩]
theorem lookS_some {b : List UInt8} {p : Pt} (h : lookS b = some p) : okPt p ∧ b = layS p ∧ b.length = 64 ∧ readS b = p := by
  unfold lookS at h
  split at h
  · rename_i hh
    injection h with h
    subst h
    exact ⟨hh.2.1, hh.2.2.symm, hh.1, rfl⟩
  · cases h

/-- the head, the rest and the sum of a sector that would be laid so -/
theorem lay_iff (b : List UInt8) (hb : b.length = 64) (hn : (b.getD 10 0).toNat ≤ 47) :
    layS (readS b) = b ↔ (∀ x ∈ (b.drop (11 + (b.getD 10 0).toNat)).take (49 - (b.getD 10 0).toNat), x = 0) ∧ ofFour (b.drop 60) = (crcS (b.take 60)).toNat := by
  have hd : (readS b).data.length = (b.getD 10 0).toNat := by show ((b.drop 11).take (b.getD 10 0).toNat).length = _; rw [List.length_take, List.length_drop]; omega
  have hh : headS (readS b) = b.take (11 + (b.getD 10 0).toNat) := by
    have e0 : four (ofFour b) = b.take 4 := four_ofFour b (by omega)
    have e1 : four (ofFour (b.drop 4)) = (b.drop 4).take 4 := four_ofFour _ (by simp; omega)
    have e2 : [UInt8.ofNat (b.getD 8 0).toNat, UInt8.ofNat (b.getD 9 0).toNat, UInt8.ofNat (b.getD 10 0).toNat] = (b.drop 8).take 3 := by
      apply List.ext_getElem?
      intro i
      rcases i with _ | _ | _ | i <;> simp [List.getD_eq_getElem?_getD, hb]
    unfold headS
    rw [hd]
    show four (ofFour b) ++ four (ofFour (b.drop 4)) ++ [UInt8.ofNat (b.getD 8 0).toNat, UInt8.ofNat (b.getD 9 0).toNat, UInt8.ofNat (b.getD 10 0).toNat] ++ (b.drop 11).take (b.getD 10 0).toNat = _
    rw [e0, e1, e2, List.take_add (i := 11), show (11 : Nat) = 8 + 3 from rfl, List.take_add (i := 8), show (8 : Nat) = 4 + 4 from rfl, List.take_add (i := 4)]
  have hp : padS (headS (readS b)) = b.take (11 + (b.getD 10 0).toNat) ++ List.replicate (49 - (b.getD 10 0).toNat) 0 := by
    unfold padS
    rw [hh]
    congr 2
    simp; omega
  have hs : b = b.take (11 + (b.getD 10 0).toNat) ++ ((b.drop (11 + (b.getD 10 0).toNat)).take (49 - (b.getD 10 0).toNat) ++ b.drop 60) := by
    have h1 : b.drop 60 = (b.drop (11 + (b.getD 10 0).toNat)).drop (49 - (b.getD 10 0).toNat) := by rw [List.drop_drop]; congr 1; omega
    rw [h1, List.take_append_drop, List.take_append_drop]
  have h60 : b.take 60 = b.take (11 + (b.getD 10 0).toNat) ++ (b.drop (11 + (b.getD 10 0).toNat)).take (49 - (b.getD 10 0).toNat) := by
    rw [show (60 : Nat) = 11 + (b.getD 10 0).toNat + (49 - (b.getD 10 0).toNat) by omega, List.take_add]
  generalize (b.getD 10 0).toNat = n at *
  have hz : ∀ l : List UInt8, (∀ x ∈ l, x = 0) ↔ List.replicate l.length 0 = l := by
    intro l
    constructor
    · intro h; exact (List.eq_replicate_of_mem h).symm
    · intro h x hx; rw [← h] at hx; exact List.eq_of_mem_replicate hx
  have hl : ((b.drop (11 + n)).take (49 - n)).length = 49 - n := by simp; omega
  have h4 : (b.drop 60).length = 4 := by simp; omega
  have key : layS (readS b) = b ↔ List.replicate (49 - n) 0 = (b.drop (11 + n)).take (49 - n) ∧ four (crcS (b.take (11 + n) ++ List.replicate (49 - n) 0)).toNat = b.drop 60 := by
    unfold layS
    rw [hp]
    constructor
    · intro h
      have h' := h.trans hs
      rw [List.append_assoc] at h'
      exact List.append_inj (List.append_cancel_left h') (by rw [hl, List.length_replicate])
    · rintro ⟨h1, h2⟩
      rw [h2, h1, List.append_assoc]
      exact hs.symm
  rw [key, h60]
  have hz' := hz ((b.drop (11 + n)).take (49 - n))
  rw [hl] at hz'
  rw [hz']
  constructor
  · rintro ⟨h1, h2⟩
    refine ⟨h1, ?_⟩
    rw [← h1, ← h2]
    have := ofFour_four (crcS (b.take (11 + n) ++ List.replicate (49 - n) 0)).toNat (crcS _).isLt []
    rwa [List.append_nil] at this
  · rintro ⟨h1, h2⟩
    refine ⟨h1, ?_⟩
    rw [h1, ← h2, four_ofFour _ (by omega), List.take_of_length_le (by omega)]

def zeroS (l : List UInt8) : Prop := l.all (· == 0) = true
instance (l : List UInt8) : Decidable (zeroS l) := by unfold zeroS; infer_instance
theorem zeroS_iff (l : List UInt8) : zeroS l ↔ ∀ x ∈ l, x = 0 := by simp [zeroS]
/-- the checks that the program makes, one behind the other -/
theorem lookS_eq (b : List UInt8) : lookS b = if b.length = 64 ∧ ofFour (b.drop 60) = (crcS (b.take 60)).toNat ∧ okPt (readS b) ∧ zeroS ((b.drop (11 + (b.getD 10 0).toNat)).take (49 - (b.getD 10 0).toNat)) then some (readS b) else none := by
  unfold lookS
  by_cases hb : b.length = 64
  · by_cases ho : okPt (readS b)
    · have hn : (b.getD 10 0).toNat ≤ 47 := by
        have h6 := ho.2.2.2.2.2.1
        have : (readS b).data.length = min (b.getD 10 0).toNat (b.length - 11) := by show ((b.drop 11).take (b.getD 10 0).toNat).length = _; rw [List.length_take, List.length_drop]
        omega
      have hi := lay_iff b hb hn
      rw [← zeroS_iff] at hi
      by_cases hl : layS (readS b) = b
      · obtain ⟨h1, h2⟩ := hi.1 hl
        rw [if_pos ⟨hb, ho, hl⟩, if_pos ⟨hb, h2, ho, h1⟩]
      · rw [if_neg (fun h => hl h.2.2), if_neg (fun h => hl (hi.2 ⟨h.2.2.2, h.2.1⟩))]
    · rw [if_neg (fun h => ho h.2.1), if_neg (fun h => ho h.2.2.1)]
  · rw [if_neg (fun h => hb h.1), if_neg (fun h => hb h.1)]

/-! records -/
def chunkN (l : List UInt8) : Nat := max 1 ((l.length + 46) / 47)
def pieceS (l : List UInt8) (i : Nat) : List UInt8 := (l.drop (47 * i)).take 47
def partsS (gen seq : Nat) (l : List UInt8) : List (List UInt8) := (List.range (chunkN l)).map fun i => layS ⟨gen, seq, i, chunkN l, pieceS l i⟩
def packS (gen seq : Int) (l : List UInt8) : List (List UInt8) × Int :=
  if gen < 1 ∨ 1073741824 < gen ∨ seq < 0 ∨ 1073741824 < seq then ([], 2) else if 188 < l.length then ([], 41) else (partsS gen.toNat seq.toNat l, 0)
/-- the part at a place -/
def partS (l : List (List UInt8)) (gen : Int) (at_ seq idx parts : Nat) : Option Pt :=
  match l[at_]? with
  | none => none
  | some b => match lookS b with
    | none => none
    | some p => if (p.gen : Int) = gen ∧ p.seq = seq ∧ p.idx = idx ∧ (0 < parts → p.parts = parts) then some p else none
/-- the data of the first k parts -/
def uptoS (l : List (List UInt8)) (gen : Int) (used seq parts : Nat) : Nat → Option (List UInt8)
  | 0 => some []
  | k + 1 => match uptoS l gen used seq parts k, partS l gen (used + k) seq k (if k = 0 then 0 else parts) with
    | some d, some p => some (d ++ p.data)
    | _, _ => none
def oneS (l : List (List UInt8)) (gen : Int) (used seq : Nat) : Option (List UInt8 × Nat) :=
  match partS l gen used seq 0 0 with
  | none => none
  | some p => match uptoS l gen used seq p.parts p.parts with
    | none => none
    | some d => some (d, p.parts)
def scanF (l : List (List UInt8)) (gen : Int) : Nat → Nat → List (List UInt8) → List (List UInt8) × Nat
  | 0, used, recs => (recs, used)
  | f + 1, used, recs => match oneS l gen used recs.length with
    | none => (recs, used)
    | some (d, n) => scanF l gen f (used + n) (recs ++ [d])
def scanS (l : List (List UInt8)) (gen : Int) : List (List UInt8) × Nat := scanF l gen (l.length + 1) 0 []

theorem okPt_piece {gen seq : Nat} (l : List UInt8) {i : Nat} (hg : 1 ≤ gen) (hg2 : gen ≤ 1073741824) (hs : seq ≤ 1073741824) (hl : l.length ≤ 188) (hi : i < chunkN l) : okPt ⟨gen, seq, i, chunkN l, pieceS l i⟩ := by
  have hp : (pieceS l i).length = min 47 (l.length - 47 * i) := by simp [pieceS]
  have hc : chunkN l = max 1 ((l.length + 46) / 47) := rfl
  refine ⟨hg, hg2, hs, ?_, hi, ?_, ?_, ?_⟩ <;> simp only [hp, hc] at hi ⊢ <;> omega
theorem pieces_join (l : List UInt8) : ∀ k, ((List.range k).map (pieceS l)).flatten = l.take (47 * k)
  | 0 => rfl
  | k + 1 => by
    rw [List.range_succ, List.map_append, List.flatten_append, pieces_join l k]
    simp only [List.map_cons, List.map_nil, List.flatten_cons, List.flatten_nil, List.append_nil]
    rw [show 47 * (k + 1) = 47 * k + 47 by omega, List.take_add]
    rfl
theorem pieces_all (l : List UInt8) : ((List.range (chunkN l)).map (pieceS l)).flatten = l := by
  rw [pieces_join, List.take_of_length_le]
  unfold chunkN; omega
theorem partsS_length (gen seq : Nat) (l : List UInt8) : (partsS gen seq l).length = chunkN l := by simp [partsS]
end Go.Proofs.Ytbnpdghfbiacaaa
