/- Scanning what was packed, in plain words. No condition beyond what each theorem states. -/
import Derived.Test.YthncnkkpfcbkfaaDoorSl
namespace Go.Proofs.YthncnkkpfcbkfaaDoor
open Go

theorem partS_hit {L : List (List UInt8)} {gen : Nat} {at_ seq idx parts : Nat} {p : Pt} (h : L[at_]? = some (layS p)) (ok : okPt p) (hg : p.gen = gen) (hs : p.seq = seq) (hi : p.idx = idx) (hp : 0 < parts → p.parts = parts) : partS L (gen : Int) at_ seq idx parts = some p := by
  unfold partS
  rw [h]
  simp only
  rw [lookS_layS p ok]
  simp only
  rw [if_pos ⟨by rw [hg], hs, hi, hp⟩]
/-- the record that stands packed behind a prefix -/
theorem oneS_hit (pre post : List (List UInt8)) (gen seq : Nat) (d : List UInt8) (hg : 1 ≤ gen) (hg2 : gen ≤ 1073741824) (hs : seq ≤ 1073741824) (hd : d.length ≤ 188) :
    oneS (pre ++ (partsS gen seq d ++ post)) (gen : Int) pre.length seq = some (d, chunkN d) := by
  have hN : 1 ≤ chunkN d := by unfold chunkN; omega
  have hat : ∀ i, i < chunkN d → (pre ++ (partsS gen seq d ++ post))[pre.length + i]? = some (layS ⟨gen, seq, i, chunkN d, pieceS d i⟩) := fun i hi => by
    rw [List.getElem?_append_right (by omega), show pre.length + i - pre.length = i by omega, List.getElem?_append_left (by rw [partsS_length]; exact hi)]
    simp [partsS, hi]
  have hp : ∀ i, i < chunkN d → ∀ parts, (parts = 0 ∨ parts = chunkN d) → partS (pre ++ (partsS gen seq d ++ post)) (gen : Int) (pre.length + i) seq i parts = some ⟨gen, seq, i, chunkN d, pieceS d i⟩ := fun i hi parts hpp =>
    partS_hit (hat i hi) (okPt_piece d hg hg2 hs hd hi) rfl rfl rfl (fun h => by rcases hpp with h0 | h0 <;> simp only <;> omega)
  have hu : ∀ k, k ≤ chunkN d → uptoS (pre ++ (partsS gen seq d ++ post)) (gen : Int) pre.length seq (chunkN d) k = some (d.take (47 * k)) := by
    intro k
    induction k with
    | zero => intro _; simp [uptoS]
    | succ k ih =>
      intro hk
      unfold uptoS
      rw [ih (by omega), hp k (by omega) _ (by by_cases h : k = 0 <;> simp [h])]
      simp only
      rw [show 47 * (k + 1) = 47 * k + 47 by omega, List.take_add]
      rfl
  unfold oneS
  have h0 := hp 0 (by omega) 0 (.inl rfl)
  rw [Nat.add_zero] at h0
  rw [h0]
  simp only
  rw [hu _ (Nat.le_refl _)]
  simp only
  rw [List.take_of_length_le]
  unfold chunkN
  omega
/-- records with the numbers s, s+1, .., packed -/
def packL (gen : Nat) : Nat → List (List UInt8) → List (List UInt8)
  | _, [] => []
  | s, d :: r => partsS gen s d ++ packL gen (s + 1) r
theorem packL_snoc (gen : Nat) (d : List UInt8) : ∀ (r : List (List UInt8)) (s : Nat), packL gen s (r ++ [d]) = packL gen s r ++ partsS gen (s + r.length) d
  | [], s => by simp [packL]
  | e :: r, s => by
    simp only [List.cons_append, packL, List.length_cons]
    rw [packL_snoc gen d r (s + 1), show s + 1 + r.length = s + (r.length + 1) by omega, List.append_assoc]
theorem packL_long (gen : Nat) : ∀ (r : List (List UInt8)) (s : Nat), r.length ≤ (packL gen s r).length
  | [], _ => Nat.le_refl _
  | d :: r, s => by
    have := packL_long gen r (s + 1)
    have h : 1 ≤ chunkN d := by unfold chunkN; omega
    simp only [packL, List.length_append, partsS_length, List.length_cons]
    omega
theorem scanF_packL (gen : Nat) (hg : 1 ≤ gen) (hg2 : gen ≤ 1073741824) (post : List (List UInt8)) : ∀ (r pre recs : List (List UInt8)) (f : Nat), (∀ d ∈ r, d.length ≤ 188) → recs.length + r.length ≤ 1073741825 → r.length < f →
    scanF (pre ++ (packL gen recs.length r ++ post)) (gen : Int) f pre.length recs = scanF (pre ++ (packL gen recs.length r ++ post)) (gen : Int) (f - r.length) (pre.length + (packL gen recs.length r).length) (recs ++ r)
  | [], pre, recs, f, _, _, _ => by simp [packL]
  | d :: r, pre, recs, f, hd, hl, hf => by
    obtain ⟨f, rfl⟩ : ∃ k, f = k + 1 := ⟨f - 1, by omega⟩
    simp only [List.length_cons] at hl hf
    have h1 := oneS_hit pre (packL gen (recs.length + 1) r ++ post) gen recs.length d hg hg2 (by omega) (hd d (List.mem_cons_self ..))
    have ih := scanF_packL gen hg hg2 post r (pre ++ partsS gen recs.length d) (recs ++ [d]) f (fun e he => hd e (List.mem_cons_of_mem _ he)) (by simp; omega) (by omega)
    simp only [List.length_append, List.length_cons, List.length_nil, partsS_length, List.append_assoc, List.singleton_append] at ih
    show scanF (pre ++ ((partsS gen recs.length d ++ packL gen (recs.length + 1) r) ++ post)) (gen : Int) (f + 1) pre.length recs = _
    rw [List.append_assoc] 
    show (match oneS (pre ++ (partsS gen recs.length d ++ (packL gen (recs.length + 1) r ++ post))) (gen : Int) pre.length recs.length with | none => (recs, pre.length) | some (d', n) => scanF (pre ++ (partsS gen recs.length d ++ (packL gen (recs.length + 1) r ++ post))) (gen : Int) f (pre.length + n) (recs ++ [d'])) = _
    rw [h1]
    simp only
    rw [ih]
    simp only [packL, List.length_append, partsS_length, List.length_cons, List.append_assoc]
    rw [show f + 1 - (r.length + 1) = f - r.length by omega, show pre.length + chunkN d + (packL gen (recs.length + 1) r).length = pre.length + (chunkN d + (packL gen (recs.length + 1) r).length) by omega]
/-- records packed one behind the other are scanned, and no more where none with the next number stands behind -/
theorem scanS_packL (gen : Nat) (hg : 1 ≤ gen) (hg2 : gen ≤ 1073741824) (r post : List (List UInt8)) (hd : ∀ d ∈ r, d.length ≤ 188) (hl : r.length ≤ 1073741825)
    (hp : oneS (packL gen 0 r ++ post) (gen : Int) (packL gen 0 r).length r.length = none) : scanS (packL gen 0 r ++ post) (gen : Int) = (r, (packL gen 0 r).length) := by
  have hlen := packL_long gen r 0
  have h := scanF_packL gen hg hg2 post r [] [] ((packL gen 0 r ++ post).length + 1) hd (by simpa using hl) (by simp; omega)
  simp only [List.nil_append, List.length_nil, Nat.zero_add] at h
  unfold scanS
  rw [h]
  obtain ⟨f, hf⟩ : ∃ f, (packL gen 0 r ++ post).length + 1 - r.length = f + 1 := ⟨(packL gen 0 r ++ post).length - r.length, by simp; omega⟩
  rw [hf]
  show (match oneS (packL gen 0 r ++ post) (gen : Int) (packL gen 0 r).length r.length with | none => (r, (packL gen 0 r).length) | some (d, n) => scanF (packL gen 0 r ++ post) (gen : Int) f ((packL gen 0 r).length + n) (r ++ [d])) = _
  rw [hp]
theorem oneS_out {L : List (List UInt8)} {gen : Int} {used seq : Nat} (h : L.length ≤ used) : oneS L gen used seq = none := by
  unfold oneS partS
  rw [List.getElem?_eq_none h]
theorem oneS_none {L : List (List UInt8)} {gen : Int} {used seq : Nat} (h : partS L gen used seq 0 0 = none) : oneS L gen used seq = none := by
  unfold oneS
  rw [h]
end Go.Proofs.YthncnkkpfcbkfaaDoor
