/- Several texts of this claim in one. No condition beyond what each theorem states. -/
import Derived.Test.YtlgbmkdeamgpkaaGreatDoorB01
import Derived.Test.YtlgbmkdeamgpkaaGreatDoorB06
import Derived.Test.YtlgbmkdeamgpkaaGreatDoorG02
/- A gate in plain words: its marks on a disk, what it reads there, what it writes. No condition beyond what each theorem states. -/
namespace Go.Proofs.YtlgbmkdeamgpkaaGreatDoor
open Go

/-- a stamp as the numbers that are written -/
def natsG (s : List Int) : List Nat := s.map Int.toNat
def bytesG (s : List Int) : List UInt8 := cntsS (natsG s)
/-- how many numbers there are, and these; they are all -/
def listedG (b : List UInt8) : Option (List Int) :=
  if (rdNum (b, 0)).1 < 1 ∨ 4 < (rdNum (b, 0)).1 then none
  else if (rdNums (rdNum (b, 0)).1 (rdNum (b, 0)).2).2 = ([], 0) then some ((rdNums (rdNum (b, 0)).1 (rdNum (b, 0)).2).1.map fun n : Nat => (n : Int)) else none
/-- a sector's mark; 0: it is none -/
def markG (b : List UInt8) (at_ : Nat) : List Int × Nat :=
  match lookS b with
  | none => ([], 0)
  | some p => if p.gen = 1 ∧ p.parts = 1 ∧ 1 ≤ p.seq ∧ p.seq % 2 = at_ then
      match listedG p.data with
      | none => ([], 0)
      | some s => if validS s = true then (s, p.seq) else ([], 0)
    else ([], 0)
/-- the later of two marks -/
def lateG (x y : List Int × Nat) : List Int × Nat := if x.2 < y.2 then y else x
/-- what a gate finds -/
def startG (L : List (List UInt8)) : List Int × Nat := lateG (lateG ([], 0) (markG (L.getD 0 []) 0)) (markG (L.getD 1 []) 1)
/-- the sector that is written -/
def sectG (q : Nat) (s : List Int) : List UInt8 := layS ⟨1, q, 0, 1, bytesG s⟩

theorem nats_map {s : List Int} (h : validS s = true) : (natsG s).map (fun n : Nat => (n : Int)) = s := by
  unfold validS at h
  rw [Bool.and_eq_true, List.all_eq_true] at h
  unfold natsG
  rw [List.map_map]
  conv => rhs; rw [← List.map_id s]
  refine List.map_congr_left fun x hx => ?_
  have := h.2 x hx
  unfold okN at this
  rw [decide_eq_true_iff] at this
  show ((x.toNat : Nat) : Int) = x
  omega
theorem nats_lt {s : List Int} (h : validS s = true) : ∀ n ∈ natsG s, n < 9223372036854775808 := by
  unfold validS at h
  rw [Bool.and_eq_true, List.all_eq_true] at h
  intro n hn
  unfold natsG at hn
  rw [List.mem_map] at hn
  obtain ⟨x, hx, rfl⟩ := hn
  have := h.2 x hx
  unfold okN at this
  rw [decide_eq_true_iff] at this
  omega
theorem valid_len {s : List Int} (h : validS s = true) : s.length ≤ 4 := by
  unfold validS at h
  rw [Bool.and_eq_true, decide_eq_true_iff] at h
  exact h.1
theorem listed_bytes {s : List Int} (h : validS s = true) (hne : s ≠ []) : listedG (bytesG s) = some s := by
  have hl := valid_len h
  have hp := List.length_pos_iff.2 hne
  have hn : (natsG s).length = s.length := by simp [natsG]
  have e : rdNum (bytesG s, 0) = (s.length, (numsS (natsG s), 0)) := by
    unfold bytesG cntsS
    rw [hn]
    exact rdNum_num s.length _ (by omega)
  have e2 : rdNums s.length (numsS (natsG s), 0) = (natsG s, ([], 0)) := by
    have := rdNums_nums (natsG s) [] (nats_lt h)
    rw [List.append_nil, hn] at this
    exact this
  unfold listedG
  rw [e]
  simp only
  rw [if_neg (by omega), e2]
  simp only [if_true]
  rw [nats_map h]
theorem bytes_len {s : List Int} (h : validS s = true) : (bytesG s).length ≤ 25 ∧ 1 ≤ (bytesG s).length := by
  have hl := valid_len h
  have hn : (natsG s).length = s.length := by simp [natsG]
  unfold bytesG cntsS
  rw [hn, List.length_append, numS_small (by omega)]
  have h6 : ∀ l : List Nat, (∀ n ∈ l, n < 128 ^ 6) → (numsS l).length ≤ 6 * l.length := by
    intro l
    induction l with
    | nil => intro _; simp [numsS]
    | cons n l ih =>
      intro hl
      have h1 := numS_len 5 n (hl n (List.mem_cons_self ..))
      have h2 := ih fun x hx => hl x (List.mem_cons_of_mem _ hx)
      have : (numsS (n :: l)).length = (numS n).length + (numsS l).length := by simp [numsS]
      simp only [List.length_cons]; omega
  have h7 := h6 (natsG s) (by
    intro n hn
    unfold natsG at hn
    rw [List.mem_map] at hn
    obtain ⟨x, hx, rfl⟩ := hn
    unfold validS at h
    rw [Bool.and_eq_true, List.all_eq_true] at h
    have := h.2 x hx
    unfold okN at this
    rw [decide_eq_true_iff] at this
    have e : (128 : Nat) ^ 6 = 4398046511104 := by decide
    omega)
  rw [hn] at h7
  simp only [List.length_cons, List.length_nil]
  omega
theorem ok_sect {q : Nat} {s : List Int} (h : validS s = true) (hq : q ≤ 1073741824) : okPt ⟨1, q, 0, 1, bytesG s⟩ := by
  have hb := bytes_len h
  refine ⟨Nat.le_refl 1, by show 1 ≤ 1073741824; omega, hq, by show 1 ≤ 4; omega, by show 0 < 1; omega, by show (bytesG s).length ≤ 47; omega, fun hh => absurd rfl hh, fun _ => .inl (by show 0 < (bytesG s).length; omega)⟩
/-- a mark that is written is read -/
theorem mark_sect {q : Nat} {s : List Int} (h : validS s = true) (hne : s ≠ []) (h1 : 1 ≤ q) (hq : q ≤ 1073741824) : markG (sectG q s) (q % 2) = (s, q) := by
  unfold markG sectG
  rw [lookS_layS _ (ok_sect h hq)]
  simp only
  rw [if_pos (by simp; exact h1), listed_bytes h hne]
  simp only
  rw [if_pos h]
/-- it is packed so -/
theorem pack_sect {q : Nat} {s : List Int} (h : validS s = true) (hq : q ≤ 1073741824) : packS 1 (q : Int) (bytesG s) = ([sectG q s], 0) := by
  have hb := bytes_len h
  have hc : chunkN (bytesG s) = 1 := by unfold chunkN; omega
  unfold packS
  rw [if_neg (by omega), if_neg (by omega)]
  unfold partsS sectG
  rw [hc]
  simp only [List.range_succ, List.range_zero, List.nil_append, List.map_cons, List.map_nil]
  have hp : pieceS (bytesG s) 0 = bytesG s := by unfold pieceS; rw [Nat.mul_zero, List.drop_zero, List.take_of_length_le (by omega)]
  rw [hp]
  rfl
/-- another parity is no mark here -/
theorem mark_seq (b : List UInt8) (at_ : Nat) : (markG b at_).2 = 0 ∧ (markG b at_).1 = [] ∨ (1 ≤ (markG b at_).2 ∧ (markG b at_).2 % 2 = at_ ∧ (markG b at_).2 ≤ 1073741824 ∧ validS (markG b at_).1 = true) := by
  unfold markG
  cases hl : lookS b with
  | none => exact .inl ⟨rfl, rfl⟩
  | some p =>
    simp only
    split
    · rename_i hp
      cases hd : listedG p.data with
      | none => exact .inl ⟨rfl, rfl⟩
      | some s =>
        simp only
        split
        · rename_i hv
          exact .inr ⟨hp.2.2.1, hp.2.2.2, (lookS_some hl).1.2.2.1, hv⟩
        · exact .inl ⟨rfl, rfl⟩
    · exact .inl ⟨rfl, rfl⟩
end Go.Proofs.YtlgbmkdeamgpkaaGreatDoor

/- A gate in plain words: what it finds rises with what it writes. No condition beyond what each theorem states. -/
namespace Go.Proofs.YtlgbmkdeamgpkaaGreatDoor
open Go

theorem late_ge (x y : List Int × Nat) : x.2 ≤ (lateG x y).2 ∧ y.2 ≤ (lateG x y).2 := by
  unfold lateG
  split <;> constructor <;> omega
theorem start_ge (L : List (List UInt8)) : (markG (L.getD 0 []) 0).2 ≤ (startG L).2 ∧ (markG (L.getD 1 []) 1).2 ≤ (startG L).2 :=
  ⟨Nat.le_trans (late_ge _ _).2 (late_ge _ _).1, (late_ge _ _).2⟩
/-- what is found may be found -/
theorem start_ok (L : List (List UInt8)) : (startG L).2 = 0 ∧ (startG L).1 = [] ∨ (1 ≤ (startG L).2 ∧ (startG L).2 ≤ 1073741824 ∧ validS (startG L).1 = true) := by
  have h0 := mark_seq (L.getD 0 []) 0
  have h1 := mark_seq (L.getD 1 []) 1
  unfold startG
  have key : ∀ x y : List Int × Nat, (x.2 = 0 ∧ x.1 = [] ∨ (1 ≤ x.2 ∧ x.2 ≤ 1073741824 ∧ validS x.1 = true)) → (y.2 = 0 ∧ y.1 = [] ∨ (1 ≤ y.2 ∧ y.2 ≤ 1073741824 ∧ validS y.1 = true)) → ((lateG x y).2 = 0 ∧ (lateG x y).1 = [] ∨ (1 ≤ (lateG x y).2 ∧ (lateG x y).2 ≤ 1073741824 ∧ validS (lateG x y).1 = true)) := by
    intro x y hx hy
    unfold lateG
    split
    · exact hy
    · exact hx
  refine key _ _ (key _ _ (.inl ⟨rfl, rfl⟩) ?_) ?_
  · rcases h0 with h | ⟨a, _, c, d⟩
    · exact .inl h
    · exact .inr ⟨a, c, d⟩
  · rcases h1 with h | ⟨a, _, c, d⟩
    · exact .inl h
    · exact .inr ⟨a, c, d⟩
theorem start_len (L : List (List UInt8)) : (startG L).1.length ≤ 4 ∧ (startG L).2 ≤ 1073741824 := by
  rcases start_ok L with ⟨h1, h2⟩ | ⟨_, h2, h3⟩
  · rw [h1, h2]; exact ⟨by show 0 ≤ 4; omega, by omega⟩
  · exact ⟨valid_len h3, h2⟩
/-- a later mark is found -/
theorem start_raise {L : List (List UInt8)} {s : List Int} {q : Nat} (hl : L.length = 2) (hq : (startG L).2 = q) (h1 : q + 1 ≤ 1073741824) (hv : validS s = true) (hne : s ≠ []) : startG (L.set ((q + 1) % 2) (sectG (q + 1) s)) = (s, q + 1) := by
  have hm := mark_sect (q := q + 1) hv hne (by omega) h1
  obtain ⟨g0, g1⟩ := start_ge L
  match L, hl with
  | [a, b], _ =>
    rcases Nat.mod_two_eq_zero_or_one (q + 1) with e | e
    · rw [e] at hm ⊢
      unfold startG
      simp only [List.set_cons_zero, List.getD_cons_zero, List.getD_cons_succ] at g0 g1 ⊢
      rw [hm]
      have e1 : lateG ([], 0) (s, q + 1) = (s, q + 1) := by
        unfold lateG
        simp only
        rw [if_pos (by omega)]
      rw [e1]
      unfold lateG
      simp only
      rw [if_neg (by omega)]
    · rw [e] at hm ⊢
      unfold startG
      simp only [List.set_cons_zero, List.set_cons_succ, List.getD_cons_zero, List.getD_cons_succ] at g0 g1 ⊢
      rw [hm]
      have h2 : (lateG ([], 0) (markG a 0)).2 < q + 1 := by
        have h3 : (lateG (lateG ([], 0) (markG a 0)) (markG b 1)).2 = q := hq
        have := (late_ge (lateG ([], 0) (markG a 0)) (markG b 1)).1
        omega
      unfold lateG at h2 ⊢
      simp only at h2 ⊢
      rw [if_pos h2]
theorem look_zero : lookS (List.replicate 64 0) = none := by
  unfold lookS
  rw [if_neg]
  rintro ⟨_, h, _⟩
  have h1 := h.1
  have e : (readS (List.replicate 64 0)).gen = 0 := by decide
  omega
theorem mark_zero (k : Nat) : markG (List.replicate 64 0) k = ([], 0) := by
  unfold markG; rw [look_zero]
theorem start_zero : startG [List.replicate 64 0, List.replicate 64 0] = ([], 0) := by
  unfold startG
  simp only [List.getD_cons_zero, List.getD_cons_succ, mark_zero]
  rfl

/-- a disk in plain words -/
structure Dsk where
  L : List (List UInt8)
  wr : Int := 0
  ar : Bool := false
  lf : Int := 0
  off : Bool := false
def dwriteG (d : Dsk) (i : Nat) (x : List UInt8) : Dsk × Int :=
  if d.off = true then (d, 40)
  else if d.ar = true then (if d.lf = 0 then ({ d with ar := false, off := true }, 40) else ({ d with lf := d.lf - 1, L := d.L.set i x, wr := d.wr + 1 }, 0))
  else ({ d with L := d.L.set i x, wr := d.wr + 1 }, 0)
/-- a gate in plain words -/
structure Gat where
  high : List Int := []
  seq : Nat := 0
  dead : Bool := false
def handleG (n : Int) (g : Gat) (d : Dsk) (m : Msg) : Gat × Dsk × Int :=
  if ¬ (m.kind = 5 ∧ m.dest = n ∧ mayS vpP m) then (g, d, 22)
  else if g.dead = true then (g, d, 40)
  else if cmpS m.stamp g.high < 0 then (g, d, 65)
  else if cmpS m.stamp g.high = 0 then (g, d, 0)
  else if 1073741824 ≤ g.seq then (g, d, 42)
  else if (dwriteG d ((g.seq + 1) % 2) (sectG (g.seq + 1) m.stamp)).2 = 0 then (⟨m.stamp, g.seq + 1, false⟩, (dwriteG d ((g.seq + 1) % 2) (sectG (g.seq + 1) m.stamp)).1, 0)
  else ({ g with dead := true }, (dwriteG d ((g.seq + 1) % 2) (sectG (g.seq + 1) m.stamp)).1, 40)
/-- the gate is as the disk says -/
structure GInv (g : Gat) (d : Dsk) : Prop where
  two : d.L.length = 2
  len : ∀ l ∈ d.L, l.length = 64
  at_ : startG d.L = (g.high, g.seq)
theorem dwrite_no {d : Dsk} {i : Nat} {x : List UInt8} (h : (dwriteG d i x).2 ≠ 0) : (dwriteG d i x).2 = 40 ∧ (dwriteG d i x).1.L = d.L ∧ (dwriteG d i x).1.off = true ∧ (dwriteG d i x).1.wr = d.wr := by
  unfold dwriteG at h ⊢
  split at h
  · rename_i h1; rw [if_pos h1]; exact ⟨rfl, rfl, h1, rfl⟩
  · rename_i h1
    rw [if_neg h1]
    split at h
    · rename_i h2
      rw [if_pos h2]
      split at h
      · rename_i h3; rw [if_pos h3]; exact ⟨rfl, rfl, rfl, rfl⟩
      · exact absurd rfl h
    · exact absurd rfl h
theorem dwrite_yes {d : Dsk} {i : Nat} {x : List UInt8} (h : (dwriteG d i x).2 = 0) : (dwriteG d i x).1.L = d.L.set i x ∧ (dwriteG d i x).1.off = d.off ∧ (dwriteG d i x).1.wr = d.wr + 1 := by
  unfold dwriteG at h ⊢
  split at h
  · cases h
  · rename_i h1
    rw [if_neg h1]
    split at h
    · rename_i h2
      rw [if_pos h2]
      split at h
      · cases h
      · rename_i h3; rw [if_neg h3]; exact ⟨rfl, rfl, rfl⟩
    · rename_i h2; rw [if_neg h2]; exact ⟨rfl, rfl, rfl⟩
theorem sect_len {q : Nat} {s : List Int} (h : validS s = true) : (sectG q s).length = 64 := layS_length _ (by have := (bytes_len h).1; show (bytesG s).length ≤ 49; omega)
theorem GInv.handle {n : Int} {g : Gat} {d : Dsk} {m : Msg} (h : GInv g d) (hv : mayS vpP m → m.kind = 5 → validS m.stamp = true) : GInv (handleG n g d m).1 (handleG n g d m).2.1 := by
  unfold handleG
  split
  · exact h
  · rename_i h1
    have h1 := Classical.not_not.1 h1
    have hv := hv h1.2.2 h1.1
    split
    · exact h
    · split
      · exact h
      · rename_i h3
        split
        · exact h
        · rename_i h4
          split
          · exact h
          · rename_i h5
            have hne : m.stamp ≠ [] := fun e => by
              rw [e] at h3 h4
              cases hh : g.high with
              | nil => rw [hh] at h4; exact h4 rfl
              | cons a l => rw [hh] at h3; exact h3 (by show (-1 : Int) < 0; decide)
            split
            · rename_i h6
              obtain ⟨e1, _, _⟩ := dwrite_yes h6
              refine ⟨by show (dwriteG _ _ _).1.L.length = 2; rw [e1, List.length_set]; exact h.two, ?_, ?_⟩
              · intro l hl
                have hl : l ∈ (dwriteG d ((g.seq + 1) % 2) (sectG (g.seq + 1) m.stamp)).1.L := hl
                rw [e1] at hl
                rcases List.mem_or_eq_of_mem_set hl with h7 | rfl
                · exact h.len l h7
                · exact sect_len hv
              · show startG (dwriteG _ _ _).1.L = _
                rw [e1]
                exact start_raise h.two (by rw [h.at_]) (by omega) hv hne
            · rename_i h6
              obtain ⟨_, e1, _, _⟩ := dwrite_no h6
              exact ⟨by show (dwriteG _ _ _).1.L.length = 2; rw [e1]; exact h.two, by show ∀ l ∈ (dwriteG _ _ _).1.L, _; rw [e1]; exact h.len, by show startG (dwriteG _ _ _).1.L = _; rw [e1]; exact h.at_⟩
end Go.Proofs.YtlgbmkdeamgpkaaGreatDoor

/- The gate's listed by contract: how many numbers there are, and these. No condition beyond what each theorem states. -/
namespace Go.Proofs.YtlgbmkdeamgpkaaGreatDoor
open Go Go.RowKit Go.PlainAid

set_option maxHeartbeats 400000 in
theorem rerr_any (b : Nat) (s : Rd) (w : World) (h : RdS w b s) : Calls Tryz.prog 91 #[.pointer (some ⟨b, 0, none⟩)] w fun e w' => e = .returned (.int .i64 s.2) ∧ w = w' := by
  obtain ⟨v, h, _⟩ := h
  have z1 : w.cell? ⟨b, 1, none⟩ = some (.int .i64 s.2) := h.1.cell 1
  clear h
  go_enter Tryz.func91, Tryz.ntmps91
  go_wp2
  go_ret
  exact ⟨rfl, rfl⟩
set_option maxHeartbeats 400000 in
theorem rleft_any (b : Nat) (s : Rd) (w : World) (h : RdS w b s) : Calls Tryz.prog 92 #[.pointer (some ⟨b, 0, none⟩)] w fun e w' => e = .returned (.int .i64 (s.1.length : Int)) ∧ w = w' := by
  obtain ⟨v, h, _⟩ := h
  obtain ⟨A, c, rfl, _⟩ := h.2.1.form
  have z0 : w.cell? ⟨b, 0, none⟩ = some (.slice A s.1.length c) := h.1.cell 0
  clear h
  go_enter Tryz.func92, Tryz.ntmps92
  go_wp2
  go_ret
  exact ⟨rfl, rfl⟩
def listO (s : Rd) : Option (List Int) :=
  if (rdNum s).1 < 1 ∨ 4 < (rdNum s).1 then none
  else if (rdNums (rdNum s).1 (rdNum s).2).2 = ([], 0) then some ((rdNums (rdNum s).1 (rdNum s).2).1.map fun n : Nat => (n : Int)) else none
theorem listO_eq (b : List UInt8) : listO (b, 0) = listedG b := rfl
def ListR (W : World) (b : Nat) (s : Rd) (e : Ending) (w' : World) : Prop :=
  ∃ sv, e = .returned (.tuple #[sv, .bool (listO s).isSome]) ∧ Kp (One b) W w' ∧ ∀ L, listO s = some L → w'.ownsRow W.heap.size 3 1 sv L.length (ints L)
def natI (l : List Nat) : List Int := l.map fun n : Nat => (n : Int)
set_option maxRecDepth 100000 in
set_option maxHeartbeats 2000000 in
theorem listed_any (W : World) (b : Nat) (s0 : Rd) (hr : RdS W b s0) (hl : s0.1.length ≤ 1000000) : Calls Tryz.prog 57 #[.pointer (some ⟨b, 0, none⟩), .int .i64 4] W (ListR W b s0) := by
  have pn := rd_num b s0 W hr (by unfold maxLen; omega)
  have hle := rdNum_le s0
  have hn63 := rdNum_lt s0
  have HO := Lib.hid (show listO s0 = if (rdNum s0).1 < 1 ∨ 4 < (rdNum s0).1 then none else if (rdNums (rdNum s0).1 (rdNum s0).2).2 = ([], 0) then some (natI (rdNums (rdNum s0).1 (rdNum s0).2).1) else none from rfl)
  clear hr
  generalize (rdNum s0).1 = n at *
  generalize (rdNum s0).2 = s1 at *
  go_enter Tryz.func57, Tryz.ntmps57
  go_wp2_with fail
  refine pn.mono ?_
  rintro e w1 ⟨rfl, h1, K1⟩
  have HR := Lib.hid h1; have HK := Lib.hid K1
  clear h1 K1 pn
  by_cases hb : n < 1 ∨ 4 < n
  · have HN := Lib.hid (show listO s0 = none from by rw [HO.out, if_pos hb])
    have HF := Lib.hid (show ListR W b s0 (.returned (.tuple #[.slice none 0 0, .bool false])) w1 from ⟨_, by rw [HN.out]; rfl, HK.out, fun L h => by rw [HN.out] at h; cases h⟩)
    rcases hb with h | h
    · have d1 : (n : Int) < 1 := by omega
      go_wp2
      go_ret2
      exact HF.out
    · have d1 : ¬ (n : Int) < 1 := by omega
      have d2 : (4 : Int) < (n : Int) := by omega
      go_wp2
      go_ret2
      exact HF.out
  · have d1 : ¬ (n : Int) < 1 := by omega
    have d2 : ¬ (4 : Int) < (n : Int) := by omega
    have HN := Lib.hid (show listO s0 = if (rdNums n s1).2 = ([], 0) then some (natI (rdNums n s1).1) else none from by rw [HO.out, if_neg hb])
    clear hb
    go_wp2
    go_loopw [7, 18] (fun v i wr => ∃ k : Nat, k ≤ n ∧ i = .int .i64 k ∧ wr.ownsRow W.heap.size 3 1 v k (ints (natI (rdNums k s1).1)) ∧ RdS wr b (rdNums k s1).2 ∧ Kp (One b) W wr) (fun _ i _ => n - (intOf i).toNat)
    case atStart => exact ⟨0, Nat.zero_le _, rfl, nil_own _ _ _ _, HR.out, HK.out⟩
    case round =>
    obtain ⟨k, hk, rfl, ho, hrs, hkp⟩ := hrel
    clear HR HK
    have HR := Lib.hid hrs; have HK := Lib.hid hkp; have HOW := Lib.hid ho
    obtain ⟨A, c, rfl, _⟩ := own_len ho
    have hsz : W.heap.size ≤ wr.heap.size := hkp.size
    clear hrs hkp ho
    by_cases hlt : k < n
    · have hk1 : (k : Int) < (n : Int) := by omega
      obtain ⟨hN1, hN2⟩ := rdNums_snoc k s1
      obtain ⟨hL1, hL2⟩ := rdNums_len k s1
      have HN1 := Lib.hid (show ints (natI (rdNums (k + 1) s1).1) = ints (natI (rdNums k s1).1) ++ [.int .i64 ((rdNum (rdNums k s1).2).1 : Int)] from by rw [hN1]; simp [natI, ints])
      have HN2 := Lib.hid hN2
      have pn := rd_num b (rdNums k s1).2 wr HR.out (by unfold maxLen; omega)
      have HOB := Lib.hid (show ∀ q, (Value.slice A k c).ownBlock = some q → ¬ One b q from fun q e m => by
        obtain ⟨cs', h1⟩ := own_bk HOW.out q e
        obtain ⟨cs, hb⟩ := HR.out.rdr
        exact h1.ne_ hb (by decide) m)
      clear hN1 hN2 hL1 hL2
      generalize (rdNum (rdNums k s1).2).1 = x at *
      generalize (rdNum (rdNums k s1).2).2 = s2 at *
      go_wp2_with fail
      refine pn.mono ?_
      rintro e w3 ⟨rfl, h3, k3⟩
      have H3 := Lib.hid h3; have K3 := Lib.hid k3
      have hs3 : wr.heap.size ≤ w3.heap.size := k3.size
      clear h3 k3 pn
      go_wp2_with (at_builtin; refine wpList_app1 _ rfl _ _ 31 rfl W.heap.size 3 _ 1 8 Tryz.underlying31 Tryz.infoI rfl (by omega) _ k (ints (natI (rdNums k s1).1)) rfl ((own_kp HOW.out K3.out HOB.out).alloc _) _ _ _ rfl (Bk.new' (by simp) rfl) rfl (by simp [Value.oneCell']) (by omega) (by omega) (by simp; omega) ?_; intro g1 cap1 w4 hown4 hk4 hat4)
      have HO4 := Lib.hid hown4
      have hk5 : Kp (fun q => (Value.slice A k c).ownBlock = some q) (w3.alloc (.cells #[.int .i64 (x : Int)] 3)) w4 := hk4
      have HB4 := Lib.hid (show ∀ q t cs, Bk w3 q t cs → t ≠ 3 → (Value.slice A k c).ownBlock ≠ some q from fun q t cs hq ht => own_ne (own_kp HOW.out K3.out HOB.out) hq (fun e => ht e.symm))
      have HR4 := Lib.hid (show RdS w4 b s2 from (H3.out.no ((Kp.refl No w3).alloc _)).kp hk5 (fun e => by
        obtain ⟨cs, hb⟩ := H3.out.rdr
        exact HB4.out _ _ _ hb (by decide) e) fun q ⟨cs, hq⟩ e => by
        obtain ⟨cs', h1⟩ := own_bk ((own_kp HOW.out K3.out HOB.out).alloc _) q e
        exact h1.ne_ hq (by decide) rfl)
      have HK4 := Lib.hid (show Kp (One b) W w4 from (((HK.out.trans K3.out).alloc _).then_ hk5 fun q hq e => by
        rcases HOW.out.2 with ⟨e2, _⟩ | ⟨g', cap, cur, e2, hg, _⟩
        · rw [e2] at e; simp [Value.ownBlock] at e
        · rw [e2] at e
          have : g' = q := by simpa [Value.ownBlock] using e
          omega))
      clear hown4 hk4 hk5 hat4
      go_wp2
      go_roundw
      case rel => exact ⟨k + 1, by omega, by go_num, by rw [HN1.out]; exact HO4.out, by rw [HN2.out]; exact HR4.out, HK4.out⟩
      case measure => simp [intOf]; omega
    · have hk1 : ¬ (k : Int) < (n : Int) := by omega
      obtain rfl : k = n := by omega
      obtain ⟨hL1, _⟩ := rdNums_len k s1
      have HLL := Lib.hid (show (natI (rdNums k s1).1).length = k from by unfold natI; rw [List.length_map, hL1])
      generalize natI (rdNums k s1).1 = L at *
      have pe := rerr_any b (rdNums k s1).2 wr HR.out
      have pl := rleft_any b (rdNums k s1).2 wr HR.out
      clear hL1
      generalize (rdNums k s1).2 = s2 at *
      have HF := Lib.hid (show ∀ ok : Bool, (s2 = ([], 0) ↔ ok = true) → ListR W b s0 (.returned (.tuple #[.slice A k c, .bool ok])) wr from fun ok h => by
        by_cases h2 : s2 = ([], 0)
        · have e : listO s0 = some L := by rw [HN.out, if_pos h2]
          refine ⟨_, by rw [e, h.1 h2]; rfl, HK.out, fun M hM => ?_⟩
          rw [e] at hM
          injection hM with hM
          rw [← hM, HLL.out]; exact HOW.out
        · have e : listO s0 = none := by rw [HN.out, if_neg h2]
          have : ok = false := by cases ok; rfl; exact absurd (h.2 rfl) h2
          refine ⟨_, by rw [e, this]; rfl, HK.out, fun M hM => ?_⟩
          rw [e] at hM; cases hM)
      obtain ⟨l2, e2⟩ := s2
      simp only at pe pl
      by_cases h0 : e2 = 0
      · subst h0
        by_cases h1 : l2 = []
        · subst h1
          go_wp2_with fail
          refine pe.mono ?_
          rintro e w' ⟨rfl, rfl⟩
          go_wp2_with fail
          refine pl.mono ?_
          rintro e w' ⟨rfl, rfl⟩
          go_wp2
          go_ret2
          exact HF.out true (by simp)
        · have hll : 0 < l2.length := List.length_pos_iff.2 h1
          have dl : ((l2.length : Int) == 0) = false := by rw [beq_eq_false_iff_ne]; omega
          have HX := Lib.hid (show (((l2, (0 : Int)) : Rd) = ([], 0) ↔ false = true) from by simp [h1])
          clear h1
          generalize (l2.length : Int) = ll at *
          go_wp2_with fail
          refine pe.mono ?_
          rintro e w' ⟨rfl, rfl⟩
          go_wp2_with fail
          refine pl.mono ?_
          rintro e w' ⟨rfl, rfl⟩
          go_wp2
          go_ret2
          exact HF.out false HX.out
      · have de : (e2 == 0) = false := by rw [beq_eq_false_iff_ne]; exact h0
        have HX := Lib.hid (show (((l2, e2) : Rd) = ([], 0) ↔ false = true) from by simp [h0])
        clear h0
        go_wp2_with fail
        refine pe.mono ?_
        rintro e w' ⟨rfl, rfl⟩
        go_wp2
        go_ret2
        exact HF.out false HX.out
end Go.Proofs.YtlgbmkdeamgpkaaGreatDoor

/- The gate's mark by contract: a sector's stamp and number. No condition beyond what each theorem states. -/
namespace Go.Proofs.YtlgbmkdeamgpkaaGreatDoor
open Go Go.RowKit Go.PlainAid

theorem own_low {w : World} {B B' : Nat} {t : TypeId} {size n : Nat} {v : Value} {xs : List Value} (h : w.ownsRow B t size v n xs) (hb : B' ≤ B) : w.ownsRow B' t size v n xs := by
  refine ⟨h.1, ?_⟩
  rcases h.2 with h2 | ⟨g, cap, cur, e, hg, h3⟩
  · exact .inl h2
  · exact .inr ⟨g, cap, cur, e, Nat.le_trans hb hg, h3⟩
def MarkR (W : World) (l : List UInt8) (at_ : Nat) (e : Ending) (w' : World) : Prop :=
  ∃ sv, e = .returned (.tuple #[sv, .int .i64 ((markG l at_).2 : Int)]) ∧ w'.ownsRow W.heap.size 3 1 sv (markG l at_).1.length (ints (markG l at_).1) ∧ Kp No W w'
theorem mark_none {W w' : World} {l : List UInt8} {at_ : Nat} (h : markG l at_ = ([], 0)) (hk : Kp No W w') : MarkR W l at_ (.returned (.tuple #[.slice none 0 0, .int .i64 0])) w' :=
  ⟨_, by rw [h]; rfl, by rw [h]; exact nil_own _ _ _ _, hk⟩
set_option maxRecDepth 100000 in
set_option maxHeartbeats 2000000 in
theorem mark_any (A : Option Addr) (n c : Nat) (l : List UInt8) (at_ : Nat) (W : World) (hv : ArgB W (.slice A n c) l) (hm : c ≤ maxLen) : Calls Tryz.prog 39 #[.slice A n c, .int .i64 (at_ : Int)] W (MarkR W l at_) := by
  have pl := look_any A n c l W hv hm
  have HG : Hid (markG l at_ = match lookS l with
    | none => ([], 0)
    | some p => if p.gen = 1 ∧ p.parts = 1 ∧ 1 ≤ p.seq ∧ p.seq % 2 = at_ then
        match listedG p.data with
        | none => ([], 0)
        | some s => if validS s = true then (s, p.seq) else ([], 0)
      else ([], 0)) := Lib.hid rfl
  clear hv hm
  go_enter Tryz.func39, Tryz.ntmps39
  go_wp2_with fail
  refine pl.mono ?_
  rintro e w1 ⟨k1, hl⟩
  have HK := Lib.hid k1
  clear k1 pl
  cases hlk : lookS l with
  | none =>
    rw [hlk] at hl HG
    simp only at hl
    subst hl
    have HF := Lib.hid (mark_none (show markG l at_ = ([], 0) from HG.out) (HK.out.alloc (.cells #[.int .i64 0, .int .i64 0, .int .i64 0, .int .i64 0, .slice none 0 0] 95)))
    clear hlk HG
    unfold noPt ptC
    go_wp2
    go_ret2
    exact HF.out
  | some p =>
    have hlk2 := hlk
    rw [hlk] at hl HG
    obtain ⟨dv, rfl, ho⟩ := hl
    have hok := (lookS_some hlk2).1
    have hdl : p.data.length ≤ 47 := hok.2.2.2.2.2.1
    have hsq : p.seq ≤ 1073741824 := hok.2.2.1
    obtain ⟨D, dc, rfl, hdc⟩ : ∃ D dc, dv = .slice D p.data.length dc ∧ p.data.length ≤ dc := own_len ho
    have HOW := Lib.hid ho
    simp only at HG
    clear ho hlk hlk2 hok
    unfold ptV ptC
    have hs0 : (0 : Int) ≤ (p.seq : Int) := by omega
    go_upto_region 2 with (fail)
    have HK2 := Lib.hid (HK.out.alloc (.cells #[.int .i64 (p.gen : Int), .int .i64 (p.seq : Int), .int .i64 (p.idx : Int), .int .i64 (p.parts : Int), .slice D p.data.length dc] 95))
    have HB2 := Lib.hid (show Bk (w1.alloc (.cells #[.int .i64 (p.gen : Int), .int .i64 (p.seq : Int), .int .i64 (p.idx : Int), .int .i64 (p.parts : Int), .slice D p.data.length dc] 95)) w1.heap.size 95 [.int .i64 (p.gen : Int), .int .i64 (p.seq : Int), .int .i64 (p.idx : Int), .int .i64 (p.parts : Int), .slice D p.data.length dc] from Bk.new' rfl rfl)
    have HD2 := Lib.hid (show ArgB (w1.alloc (.cells #[.int .i64 (p.gen : Int), .int .i64 (p.seq : Int), .int .i64 (p.idx : Int), .int .i64 (p.parts : Int), .slice D p.data.length dc] 95)) (.slice D p.data.length dc) p.data from (own_argB HOW.out).no ((Kp.refl No w1).alloc _))
    have hsz : W.heap.size ≤ w1.heap.size := HK.out.size
    clear HOW HK
    generalize (w1.alloc (.cells #[.int .i64 (p.gen : Int), .int .i64 (p.seq : Int), .int .i64 (p.idx : Int), .int .i64 (p.parts : Int), .slice D p.data.length dc] 95)) = w2 at *
    have z0 : w2.cell? ⟨w1.heap.size, 0, none⟩ = some (.int .i64 (p.gen : Int)) := HB2.out.cell 0
    have z1 : w2.cell? ⟨w1.heap.size, 1, none⟩ = some (.int .i64 (p.seq : Int)) := HB2.out.cell 1
    have z3 : w2.cell? ⟨w1.heap.size, 3, none⟩ = some (.int .i64 (p.parts : Int)) := HB2.out.cell 3
    generalize w1.heap.size = pb at *
    go_cut [38] (fun s wx => s = .bool (decide (¬ (p.gen = 1 ∧ p.parts = 1 ∧ 1 ≤ p.seq ∧ p.seq % 2 = at_))) ∧ w2 = wx)
    case first =>
      by_cases c1 : p.gen = 1
      · have d1 : ((p.gen : Int) != 1) = false := by rw [bne_eq_false_iff_eq]; omega
        by_cases c2 : p.parts = 1
        · have d2 : ((p.parts : Int) != 1) = false := by rw [bne_eq_false_iff_eq]; omega
          by_cases c3 : 1 ≤ p.seq
          · have d3 : ¬ (p.seq : Int) < 1 := by omega
            by_cases c4 : p.seq % 2 = at_
            · have d4 : ((p.seq : Int) % 2 != (at_ : Int)) = false := by rw [bne_eq_false_iff_eq]; omega
              have HXX := Lib.hid (show decide (¬ (p.gen = 1 ∧ p.parts = 1 ∧ 1 ≤ p.seq ∧ p.seq % 2 = at_)) = false from decide_eq_false (fun h => h ⟨c1, c2, c3, c4⟩))
              clear c1 c2 c3 c4
              go_wp2
              go_meet
              exact ⟨by rw [HXX.out], by first | trivial | rfl⟩
            · have d4 : ((p.seq : Int) % 2 != (at_ : Int)) = true := by rw [bne_iff_ne]; omega
              have HXX := Lib.hid (show decide (¬ (p.gen = 1 ∧ p.parts = 1 ∧ 1 ≤ p.seq ∧ p.seq % 2 = at_)) = true from decide_eq_true (fun h => c4 h.2.2.2))
              clear c1 c2 c3 c4
              go_wp2
              go_meet
              exact ⟨by rw [HXX.out], by first | trivial | rfl⟩
          · have d3 : (p.seq : Int) < 1 := by omega
            have HXX := Lib.hid (show decide (¬ (p.gen = 1 ∧ p.parts = 1 ∧ 1 ≤ p.seq ∧ p.seq % 2 = at_)) = true from decide_eq_true (fun h => c3 h.2.2.1))
            clear c1 c2 c3
            go_wp2
            go_meet
            exact ⟨by rw [HXX.out], by first | trivial | rfl⟩
        · have d2 : ((p.parts : Int) != 1) = true := by rw [bne_iff_ne]; omega
          have HXX := Lib.hid (show decide (¬ (p.gen = 1 ∧ p.parts = 1 ∧ 1 ≤ p.seq ∧ p.seq % 2 = at_)) = true from decide_eq_true (fun h => c2 h.2.1))
          clear c1 c2
          go_wp2
          go_meet
          exact ⟨by rw [HXX.out], by first | trivial | rfl⟩
      · have d1 : ((p.gen : Int) != 1) = true := by rw [bne_iff_ne]; omega
        have HXX := Lib.hid (show decide (¬ (p.gen = 1 ∧ p.parts = 1 ∧ 1 ≤ p.seq ∧ p.seq % 2 = at_)) = true from decide_eq_true (fun h => c1 h.1))
        clear c1
        go_wp2
        go_meet
        exact ⟨by rw [HXX.out], by first | trivial | rfl⟩
    case rest =>
      obtain ⟨rfl, rfl⟩ := hcut
      by_cases hc : p.gen = 1 ∧ p.parts = 1 ∧ 1 ≤ p.seq ∧ p.seq % 2 = at_
      · rw [decide_eq_false (fun h => h hc)]
        rw [if_pos hc] at HG
        clear hc z0 z3
        have z4 : w2.cell? ⟨pb, 4, none⟩ = some (.slice D p.data.length dc) := HB2.out.cell 4
        have pr := newr_any D dc p.data w2 HD2.out (by omega)
        go_wp2_with fail
        refine pr.mono ?_
        rintro e w3 ⟨rb, rv, rfl, hrb, _, hrd, k3, htb⟩
        have HR3 := Lib.hid (show RdS w3 rb (p.data, 0) from ⟨rv, hrd, htb⟩)
        have HK3 := Lib.hid k3
        have h33 : w2.heap.size ≤ w3.heap.size := k3.size
        clear pr hrd k3 htb z4 z1
        have pq := listed_any w3 rb (p.data, 0) HR3.out (by show p.data.length ≤ _; omega)
        go_wp2_with fail
        refine pq.mono ?_
        rintro e w4 ⟨sv, rfl, k4, ho4⟩
        rw [listO_eq] at *
        have HK4 := Lib.hid (show Kp No W w4 from (HK2.out.trans HK3.out).then_ k4 fun q hq e => by have e : q = rb := e; have := HK2.out.size; omega)
        have HB4 := Lib.hid (show Bk w4 pb 95 _ from (HB2.out.no HK3.out).kp k4 (fun e => by
          obtain ⟨cs, hb⟩ := HR3.out.rdr
          exact (HB2.out.no HK3.out).ne_ hb (by decide) e))
        clear pq k4 HR3
        cases hd : listedG p.data with
        | none =>
          rw [hd] at HG
          simp only [Option.isSome_none]
          have HF := Lib.hid (mark_none (show markG l at_ = ([], 0) from HG.out) HK4.out)
          clear hd ho4 HG
          go_wp2
          go_ret2
          exact HF.out
        | some s =>
          rw [hd] at HG
          have ho5 := ho4 s hd
          obtain ⟨S, sc, rfl, hsc⟩ := own_len ho5
          simp only at HG
          have HO5 := Lib.hid (own_low ho5 (by have := HK2.out.size; omega : W.heap.size ≤ w3.heap.size))
          have hs4 : s.length ≤ 4 := by
            have h : listedG p.data = some s := hd
            unfold listedG at h
            split at h
            · cases h
            · rename_i h1
              split at h
              · injection h with h
                rw [← h, List.length_map, (rdNums_len _ _).1]; omega
              · cases h
          have pv := validS_any (.slice S s.length sc) s w4 (own_argI HO5.out) (by unfold maxLen; omega)
          simp only [Option.isSome_some]
          clear hd ho4 ho5
          by_cases hvs : validS s = true
          · rw [hvs] at pv
            have HF := Lib.hid (show MarkR W l at_ (.returned (.tuple #[.slice S s.length sc, .int .i64 (p.seq : Int)])) w4 from by
              have e : markG l at_ = (s, p.seq) := by rw [HG.out, if_pos hvs]
              exact ⟨_, by rw [e], by rw [e]; exact HO5.out, HK4.out⟩)
            have y1 : w4.cell? ⟨pb, 1, none⟩ = some (.int .i64 (p.seq : Int)) := HB4.out.cell 1
            clear hvs HG
            go_wp2_with fail
            refine pv.mono ?_
            rintro e w5 ⟨rfl, rfl⟩
            go_wp2
            go_quiet (fail)
            go_wp2
            go_ret2
            obtain ⟨sv, h1, h2, h3⟩ := HF.out
            exact ⟨sv, h1, own_kp h2 ((Kp.refl No w4).drewN _) (fun _ _ m => m), h3.drewN _⟩
          · rw [Bool.not_eq_true] at hvs
            rw [hvs] at pv
            have HF := Lib.hid (mark_none (show markG l at_ = ([], 0) from by rw [HG.out, if_neg (by rw [hvs]; decide)]) HK4.out)
            clear hvs HG
            go_wp2_with fail
            refine pv.mono ?_
            rintro e w5 ⟨rfl, rfl⟩
            go_wp2
            go_ret2
            exact HF.out
      · rw [decide_eq_true hc]
        rw [if_neg hc] at HG
        have HF := Lib.hid (mark_none (show markG l at_ = ([], 0) from HG.out) HK2.out)
        clear hc HG
        go_wp2
        go_ret2
        exact HF.out
end Go.Proofs.YtlgbmkdeamgpkaaGreatDoor
