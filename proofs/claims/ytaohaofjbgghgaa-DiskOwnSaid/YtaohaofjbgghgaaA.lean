/- The contracts of the program's disk: fits, fault, Arm, On, Off, Writes, Len, New, Write, each for whatever disk in memory. No condition beyond what each theorem states. -/
import Derived.Test.YtaohaofjbgghgaaM
import Derived.StillTailTactics
import Derived.Deep.RegionHeld3
import Derived.Deep.QuietTactic
import Derived.BigQuiet
import Derived.Lib.Hide
namespace Go.Proofs.Ytaohaofjbgghgaa
open Go.RowKit

/-- the cells of a disk's struct -/
def dkCells (sec : Value) (writes : Int) (armed : Bool) (left : Int) (off : Bool) : List Value := [sec, .int .i64 writes, .bool armed, .int .i64 left, .bool off]

set_option maxHeartbeats 400000 in
theorem fits_any (n : Int) (w : World) :
    Calls Try.prog 27 #[.int .i64 n] w fun e w' => e = .returned (.bool (decide (1 ≤ n ∧ n ≤ 512))) ∧ w = w' := by
  go_enter Try.func27, Try.ntmps27
  by_cases h1 : 1 ≤ n <;> by_cases h2 : n ≤ 512 <;> go_wp2 <;> go_ret <;> simp [h1, h2]

set_option maxHeartbeats 400000 in
theorem fault_nil (i : Int) (w : World) :
    Calls Try.prog 28 #[.pointer none, .int .i64 i] w fun e w' => e = .returned (.int .i64 1) ∧ w = w' := by
  go_enter Try.func28, Try.ntmps28
  go_wp2
  go_ret
  exact ⟨rfl, rfl⟩

/-- what fault answers -/
def faultN (off : Bool) (i : Int) (n : Nat) : Int := if off then 40 else if 0 ≤ i ∧ i < n then 0 else 2

set_option maxHeartbeats 400000 in
theorem fault_any (b : Nat) (i : Int) (w : World) (A : Option Addr) (n c : Nat) (wr : Int) (ar : Bool) (lf : Int) (off : Bool) (h : Bk w b 58 (dkCells (.slice A n c) wr ar lf off))  :
    Calls Try.prog 28 #[.pointer (some ⟨b, 0, none⟩), .int .i64 i] w fun e w' => e = .returned (.int .i64 (faultN off i n)) ∧ w = w' := by
  have h0 : w.cell? ⟨b, 0, none⟩ = some (.slice A n c) := h.cell 0
  have h4 : w.cell? ⟨b, 4, none⟩ = some (.bool off) := h.cell 4
  go_enter Try.func28, Try.ntmps28
  cases off
  · by_cases h1 : 0 ≤ i
    · by_cases h2 : i < n
      · go_wp2
        go_ret
        simp [h1, h2, faultN]
      · go_wp2
        go_ret
        simp [h2, faultN]
    · go_wp2
      go_ret
      simp [faultN]
      omega
  · go_wp2
    go_ret
    exact ⟨rfl, rfl⟩

set_option maxHeartbeats 400000 in
theorem arm_nil (k : Int) (w : World) :
    Calls Try.prog 13 #[.pointer none, .int .i64 k] w fun e w' => e = .returned (.tuple #[]) ∧ w = w' := by
  go_enter Try.func13, Try.ntmps13
  go_wp2
  go_end0
  exact ⟨rfl, rfl⟩
set_option maxHeartbeats 400000 in
theorem arm_any (b : Nat) (k : Int) (w : World) (sec : Value) (wr : Int) (ar : Bool) (lf : Int) (off : Bool) (h : Bk w b 58 (dkCells sec wr ar lf off)) :
    Calls Try.prog 13 #[.pointer (some ⟨b, 0, none⟩), .int .i64 k] w fun e w' => e = .returned (.tuple #[]) ∧ Bk w' b 58 (dkCells sec wr (decide (0 ≤ k)) k off) ∧ Kp (One b) w w' := by
  have h2 : w.cell? ⟨b, 2, none⟩ = some (.bool ar) := h.cell 2
  have h3 : w.cell? ⟨b, 3, none⟩ = some (.int .i64 lf) := h.cell 3
  have f2 := h.frozen 2
  have f3 := h.frozen 3
  have hh := Lib.hid h; clear h
  go_enter Try.func13, Try.ntmps13
  go_wp2
  go_end0
  exact ⟨rfl, (hh.out.set_ 2 _).set_ 3 _, ((Kp.refl _ _).set (.inl (One.self _)) _ _).set (.inl (One.self _)) _ _⟩
set_option maxHeartbeats 400000 in
theorem on_nil (w : World) :
    Calls Try.prog 15 #[.pointer none] w fun e w' => e = .returned (.tuple #[]) ∧ w = w' := by
  go_enter Try.func15, Try.ntmps15
  go_wp2
  go_end0
  exact ⟨rfl, rfl⟩
set_option maxHeartbeats 400000 in
theorem on_any (b : Nat) (w : World) (sec : Value) (wr : Int) (ar : Bool) (lf : Int) (off : Bool) (h : Bk w b 58 (dkCells sec wr ar lf off)) :
    Calls Try.prog 15 #[.pointer (some ⟨b, 0, none⟩)] w fun e w' => e = .returned (.tuple #[]) ∧ Bk w' b 58 (dkCells sec wr ar lf false) ∧ Kp (One b) w w' := by
  have h2 : w.cell? ⟨b, 4, none⟩ = some (.bool off) := h.cell 4
  have f2 := h.frozen 4
  have hh := Lib.hid h; clear h
  go_enter Try.func15, Try.ntmps15
  go_wp2
  go_end0
  exact ⟨rfl, hh.out.set_ 4 _, (Kp.refl _ _).set (.inl (One.self _)) _ _⟩
set_option maxHeartbeats 400000 in
theorem off_nil (w : World) :
    Calls Try.prog 23 #[.pointer none] w fun e w' => e = .returned (.bool false) ∧ w = w' := by
  go_enter Try.func23, Try.ntmps23
  go_wp2
  go_ret
  exact ⟨rfl, rfl⟩
set_option maxHeartbeats 400000 in
theorem off_any (b : Nat) (w : World) (sec : Value) (wr : Int) (ar : Bool) (lf : Int) (off : Bool) (h : Bk w b 58 (dkCells sec wr ar lf off)) :
    Calls Try.prog 23 #[.pointer (some ⟨b, 0, none⟩)] w fun e w' => e = .returned (.bool off) ∧ w = w' := by
  have h2 : w.cell? ⟨b, 4, none⟩ = some (.bool off) := h.cell 4
  clear h
  go_enter Try.func23, Try.ntmps23
  go_wp2
  go_ret
  exact ⟨rfl, rfl⟩
set_option maxHeartbeats 400000 in
theorem writes_nil (w : World) :
    Calls Try.prog 22 #[.pointer none] w fun e w' => e = .returned (.int .i64 0) ∧ w = w' := by
  go_enter Try.func22, Try.ntmps22
  go_wp2
  go_ret
  exact ⟨rfl, rfl⟩
set_option maxHeartbeats 400000 in
theorem writes_any (b : Nat) (w : World) (sec : Value) (wr : Int) (ar : Bool) (lf : Int) (off : Bool) (h : Bk w b 58 (dkCells sec wr ar lf off)) :
    Calls Try.prog 22 #[.pointer (some ⟨b, 0, none⟩)] w fun e w' => e = .returned (.int .i64 wr) ∧ w = w' := by
  have h2 : w.cell? ⟨b, 1, none⟩ = some (.int .i64 wr) := h.cell 1
  clear h
  go_enter Try.func22, Try.ntmps22
  go_wp2
  go_ret
  exact ⟨rfl, rfl⟩
set_option maxHeartbeats 400000 in
theorem len_nil (w : World) :
    Calls Try.prog 24 #[.pointer none] w fun e w' => e = .returned (.int .i64 0) ∧ w = w' := by
  go_enter Try.func24, Try.ntmps24
  go_wp2
  go_ret
  exact ⟨rfl, rfl⟩
set_option maxHeartbeats 400000 in
theorem len_any (b : Nat) (w : World) (A : Option Addr) (n c : Nat) (wr : Int) (ar : Bool) (lf : Int) (off : Bool) (h : Bk w b 58 (dkCells (.slice A n c) wr ar lf off)) :
    Calls Try.prog 24 #[.pointer (some ⟨b, 0, none⟩)] w fun e w' => e = .returned (.int .i64 n) ∧ w = w' := by
  have h2 : w.cell? ⟨b, 0, none⟩ = some (.slice A n c) := h.cell 0
  clear h
  go_enter Try.func24, Try.ntmps24
  go_wp2
  go_ret
  exact ⟨rfl, rfl⟩

set_option maxHeartbeats 400000 in
theorem new_no (n : Int) (h : n < 1 ∨ 512 < n) (w : World) :
    Calls Try.prog 9 #[.int .i64 n] w fun e w' => e = .returned (.tuple #[.pointer none, .int .i64 2]) ∧ w = w' := by
  have hd : decide (1 ≤ n ∧ n ≤ 512) = false := by simp; omega
  have Hd := Lib.hid hd; clear hd
  go_enter Try.func9, Try.ntmps9
  go_wp2_with (go_at_call 27; refine (fits_any _ _).mono ?_; rw [Hd.out]; rintro e w' ⟨rfl, rfl⟩)
  go_ret2
  exact ⟨rfl, rfl⟩

theorem Try.info61 : (Try.prog.info? 61).map (fun i => (i.zero, i.size, i.bytes)) = some (some (.agg (Array.replicate 64 (.int .u8 0))), 64, 64) := by kernel_rfl
def zero61 : List Value := List.replicate 64 (.int .u8 0)
set_option maxHeartbeats 400000 in
theorem new_yes (n : Nat) (h1 : 1 ≤ n) (h2 : n ≤ 512) (w : World) :
    Calls Try.prog 9 #[.int .i64 n] w fun e w' => ∃ b sb, e = .returned (.tuple #[.pointer (some ⟨b, 0, none⟩), .int .i64 0]) ∧
       Bk w' b 58 (dkCells (.slice (some ⟨sb, 0, none⟩) n n) 0 false 0 false) ∧ Bk w' sb 61 (List.replicate (n * 64) (.int .u8 0)) ∧ w.heap.size ≤ b ∧ w.heap.size ≤ sb ∧ b ≠ sb ∧ Kp No w w' := by
  have hd : decide (1 ≤ (n : Int) ∧ (n : Int) ≤ 512) = true := by simp; omega
  have Hd := Lib.hid hd; clear hd
  obtain ⟨i0, hi, hz0, hz1, hz2⟩ := info_parts Try.info61
  have hmk := fun W => mk_run (P := Try.prog) 56 61 i0 _ Try.underlying56 hi hz0 64 (.int .u8 0) (by omega) (by rfl) n (by rw [hz2]; omega) (by omega) W
  rw [hz1] at hmk
  go_enter Try.func9, Try.ntmps9
  go_wp2_with (go_at_call 27; refine (fits_any _ _).mono ?_; rw [Hd.out]; rintro e w' ⟨rfl, rfl⟩)
  go_ret2
  refine ⟨w.heap.size + 1, w.heap.size, rfl, Bk.new' (by simp) rfl, Bk.alloc (Bk.new' rfl (by simp [hz1])) _, by omega, by omega, by omega, ((Kp.refl _ _).alloc _).alloc _⟩

/-- bytes as cells -/
def u8s (l : List UInt8) : List Value := l.map fun c => .int .u8 (c.toNat : Int)
@[simp] theorem u8s_length (l : List UInt8) : (u8s l).length = l.length := by simp [u8s]
theorem u8s_one (l : List UInt8) : ∀ v ∈ u8s l, v.oneCell' = true := by
  intro v hv; simp only [u8s, List.mem_map] at hv; obtain ⟨c, _, rfl⟩ := hv; rfl
def secC (L : List (List UInt8)) : List Value := u8s L.flatten

/-- a disk in memory: the struct in block b, the sectors in block sb -/
structure Dk (w : World) (b sb cap : Nat) (L : List (List UInt8)) (wr : Int) (ar : Bool) (lf : Int) (off : Bool) : Prop where
  st : Bk w b 58 (dkCells (.slice (some ⟨sb, 0, none⟩) L.length cap) wr ar lf off)
  se : ∃ sp, Bk w sb 61 (secC L ++ sp)
  le : ∀ l ∈ L, l.length = 64
  n1 : 1 ≤ L.length
  n2 : L.length ≤ 512

theorem flat_len (L : List (List UInt8)) (h : ∀ l ∈ L, l.length = 64) : L.flatten.length = 64 * L.length := by
  induction L with
  | nil => rfl
  | cons a r ih =>
    have h1 := h a (by simp)
    have h2 := ih (fun l hl => h l (by simp [hl]))
    simp [h1, h2]; omega
theorem flat_drop (L : List (List UInt8)) (h : ∀ l ∈ L, l.length = 64) : ∀ i, i ≤ L.length → L.flatten.drop (64 * i) = (L.drop i).flatten := by
  induction L with
  | nil => intro i hi; simp
  | cons a r ih =>
    intro i hi
    have h1 := h a (by simp)
    rcases i with _ | i
    · simp
    · have := ih (fun l hl => h l (by simp [hl])) i (by simpa using hi)
      rw [List.flatten_cons, List.drop_append, h1, List.drop_eq_nil_of_le (by omega)]
      simp only [List.nil_append, List.drop_succ_cons]
      rw [← this]; congr 1
theorem flat_take (L : List (List UInt8)) (h : ∀ l ∈ L, l.length = 64) : ∀ i, i ≤ L.length → L.flatten.take (64 * i) = (L.take i).flatten := by
  induction L with
  | nil => intro i hi; simp
  | cons a r ih =>
    intro i hi
    have h1 := h a (by simp)
    rcases i with _ | i
    · simp
    · have := ih (fun l hl => h l (by simp [hl])) i (by simpa using hi)
      rw [List.flatten_cons, List.take_append, h1, List.take_of_length_le (by omega)]
      simp only [List.take_succ_cons, List.flatten_cons]
      rw [← this]; congr 2
theorem secC_get (L : List (List UInt8)) (h : ∀ l ∈ L, l.length = 64) (i : Nat) (hi : i < L.length) (sp : List Value) : ((secC L ++ sp).drop (64 * i)).take 64 = u8s L[i] := by
  have hl := flat_len L h
  have hli := h L[i] (List.getElem_mem hi)
  have e : L.flatten.drop (64 * i) = L[i] ++ (L.drop (i + 1)).flatten := by
    rw [flat_drop L h i (by omega), List.drop_eq_getElem_cons hi, List.flatten_cons]
  have hs : (secC L).length = 64 * L.length := by rw [secC, u8s_length, hl]
  rw [List.drop_append_of_le_length (by omega)]
  unfold secC u8s
  rw [← List.map_drop, e, List.map_append, List.append_assoc, List.take_left' (by simp [hli])]
theorem secC_set (L : List (List UInt8)) (h : ∀ l ∈ L, l.length = 64) (i : Nat) (hi : i < L.length) (sp : List Value) (x : List UInt8) (hx : x.length = 64) :
    (secC L ++ sp).take (64 * i) ++ u8s x ++ (secC L ++ sp).drop (64 * i + 64) = secC (L.set i x) ++ sp := by
  have hl := flat_len L h
  have hs : (secC L).length = 64 * L.length := by rw [secC, u8s_length, hl]
  rw [List.take_append_of_le_length (by omega), List.drop_append_of_le_length (by omega)]
  unfold secC u8s
  rw [← List.map_drop, ← List.map_take, flat_take L h i (by omega), show 64 * i + 64 = 64 * (i + 1) by omega, flat_drop L h (i + 1) (by omega),
    List.set_eq_take_append_cons_drop, if_pos hi]
  simp

set_option maxHeartbeats 400000 in
theorem write_fault (b : Nat) (i : Int) (bs : Value) (w : World) (A : Option Addr) (n c : Nat) (wr : Int) (ar : Bool) (lf : Int) (off : Bool) (h : Bk w b 58 (dkCells (.slice A n c) wr ar lf off)) (hf : faultN off i n ≠ 0) :
    Calls Try.prog 19 #[.pointer (some ⟨b, 0, none⟩), .int .i64 i, bs] w fun e w' => e = .returned (.int .i64 (faultN off i n)) ∧ w = w' := by
  have hd : (faultN off i n == 0) = false := by simpa using hf
  clear hf
  go_enter Try.func19, Try.ntmps19
  go_wp2_with (go_at_call 28; refine (fault_any b i _ A n c wr ar lf off h).mono ?_; rintro e w' ⟨rfl, rfl⟩)
  go_ret
  exact ⟨rfl, rfl⟩
set_option maxHeartbeats 400000 in
theorem write_nil (i : Int) (bs : Value) (w : World) :
    Calls Try.prog 19 #[.pointer none, .int .i64 i, bs] w fun e w' => e = .returned (.int .i64 1) ∧ w = w' := by
  go_enter Try.func19, Try.ntmps19
  go_wp2_with (go_at_call 28; refine (fault_nil i _).mono ?_; rintro e w' ⟨rfl, rfl⟩)
  go_ret
  exact ⟨rfl, rfl⟩
set_option maxHeartbeats 400000 in
theorem write_short (b : Nat) (i : Int) (B : Option Addr) (m k : Nat) (w : World) (A : Option Addr) (n c : Nat) (wr : Int) (ar : Bool) (lf : Int) (off : Bool) (h : Bk w b 58 (dkCells (.slice A n c) wr ar lf off)) (hf : faultN off i n = 0) (hm : m ≠ 64) :
    Calls Try.prog 19 #[.pointer (some ⟨b, 0, none⟩), .int .i64 i, .slice B m k] w fun e w' => e = .returned (.int .i64 2) ∧ w = w' := by
  have Hf := Lib.hid hf; clear hf
  have hd : ((m : Int) == 64) = false := by simpa using (by omega : ¬ (m : Int) = 64)
  clear hm
  go_enter Try.func19, Try.ntmps19
  go_wp2_with (go_at_call 28; refine (fault_any b i _ A n c wr ar lf off h).mono ?_; rw [Hf.out]; rintro e w' ⟨rfl, rfl⟩)
  go_ret
  exact ⟨rfl, rfl⟩
set_option maxHeartbeats 400000 in
theorem write_cut (b : Nat) (i : Int) (B : Option Addr) (k : Nat) (w : World) (A : Option Addr) (n c : Nat) (wr : Int) (h : Bk w b 58 (dkCells (.slice A n c) wr true 0 false)) (hf : faultN false i n = 0) :
    Calls Try.prog 19 #[.pointer (some ⟨b, 0, none⟩), .int .i64 i, .slice B 64 k] w fun e w' => e = .returned (.int .i64 40) ∧ Bk w' b 58 (dkCells (.slice A n c) wr false 0 true) ∧ Kp (One b) w w' := by
  have Hf := Lib.hid hf; clear hf
  have h2 : w.cell? ⟨b, 2, none⟩ = some (.bool true) := h.cell 2
  have h3 : w.cell? ⟨b, 3, none⟩ = some (.int .i64 0) := h.cell 3
  have h4 : w.cell? ⟨b, 4, none⟩ = some (.bool false) := h.cell 4
  have f2 := h.frozen 2
  have f4 := h.frozen 4
  go_enter Try.func19, Try.ntmps19
  go_wp2_with (go_at_call 28; refine (fault_any b i _ A n c wr true 0 false h).mono ?_; rw [Hf.out]; rintro e w' ⟨rfl, rfl⟩)
  go_ret
  exact ⟨rfl, (h.set_ 2 _).set_ 4 _, ((Kp.refl _ _).set (.inl (One.self _)) _ _).set (.inl (One.self _)) _ _⟩
theorem u61 : (Try.prog.info? 61).map (·.size) = some 64 := by kernel_rfl
theorem arr61 (g o k : Nat) (W : World) : (Instr.arrayAt 61 (.slice (some ⟨g, o, none⟩) 64 k)).run Try.prog W = .ok (.pointer (some ⟨g, o, none⟩)) W := by
  simp [go_sem, Instr.arrayAt, run_underlying Try.underlying61]
theorem keep_w {w : World} {b sb g o j : Nat} {v : Value} {xs : List Value} (hbs : b ≠ sb) (hg : g ≠ sb) (ht : w.there sb j 64) (hr : w.rangeAt g o xs) (h0 : w.cell? ⟨b, 0, none⟩ = some v) (hl : xs.length = 64) :
    (w.drew.setCells sb j xs).cell? ⟨b, 0, none⟩ = some v ∧ (w.drew.setCells sb j xs).rangeAt g o xs ∧ (w.drew.setCells sb j xs).there sb j 64 := by
  refine ⟨?_, ?_, ?_⟩
  · rw [World.cell?_setCells_out _ _ _ _ _ (fun hb => absurd hb hbs)]; exact h0
  · exact World.rangeAt_setCells_apart ((World.rangeAt_drew _ _ _ _).2 hr) _ _ _ (.inl hg)
  · exact World.there_setCells ((World.there_drew _ _ _ _).2 ht) _ _ _
set_option maxHeartbeats 1000000 in
theorem write_free (b sb cap : Nat) (i : Nat) (g o k : Nat) (x : List UInt8) (w : World) (L : List (List UInt8)) (wr : Int) (lf : Int) (h : Dk w b sb cap L wr false lf false) (hi : i < L.length)
    (hx : x.length = 64) (hr : w.rangeAt g o (u8s x)) (hg : g ≠ sb) (w0 : 0 ≤ wr) (w1 : wr < 4611686018427387904) :
    Calls Try.prog 19 #[.pointer (some ⟨b, 0, none⟩), .int .i64 i, .slice (some ⟨g, o, none⟩) 64 k] w fun e w' => e = .returned (.int .i64 0) ∧ Dk w' b sb cap (L.set i x) (wr + 1) false lf false ∧ Kp (fun q => q = b ∨ q = sb) w w' := by
  have hf : faultN false i L.length = 0 := by simp [faultN]; omega
  have Hf := Lib.hid hf; clear hf
  have hst := h.st
  have h2 : w.cell? ⟨b, 2, none⟩ = some (.bool false) := hst.cell 2
  have h0 : w.cell? ⟨b, 0, none⟩ = some (.slice (some ⟨sb, 0, none⟩) L.length cap) := hst.cell 0
  obtain ⟨sp, hse⟩ := h.se
  have ht : w.there sb (i * 64) 64 := hse.there _ _ (by have := flat_len L h.le; simp [secC] at this ⊢; omega)
  have hn2 := h.n2
  generalize hxs : u8s x = xs at hr
  have hxl : xs.length = 64 := by rw [← hxs]; simpa using hx
  have hx1 : ∀ v ∈ xs, v.oneCell' = true := by rw [← hxs]; exact u8s_one x
  have HX := Lib.hid hxs; clear hxs
  have hsz : (Try.prog.info? 61).map (·.size) = some xs.length := by rw [hxl]; exact u61
  have hib : (i : Int) < (L.length : Int) := by omega
  have hia : ((0 : Int)) ≤ (i : Int) := by omega
  have hu61 := Try.underlying61
  have hbs : b ≠ sb := hst.ne_ hse (by decide)
  have harr : ∀ W : World, (Instr.arrayAt 61 (.slice (some ⟨g, o, none⟩) 64 k)).run Try.prog W = .ok (.pointer (some ⟨g, o, none⟩)) W := arr61 g o k
  go_enter Try.func19, Try.ntmps19
  go_wp2_with (go_at_call 28; refine (fault_any b i _ _ _ _ wr false lf false hst).mono ?_; rw [Hf.out]; rintro e w' ⟨rfl, rfl⟩)
  go_region_held3 (fun w' => w'.cell? ⟨b, 0, none⟩ = some (.slice (some ⟨sb, 0, none⟩) L.length cap) ∧ w'.rangeAt g o xs ∧ w'.there sb (i * 64) 64) ((first | (go_keep_ranges; done) | exact keep_w hbs hg ht hr h0 hxl)) (fail)
  have B1 := Bk.setsFar hbs xs (i * 64) hst.drew
  have S1 := Bk.sets xs (i * 64) hse.drew (by have := flat_len L h.le; simp [secC] at this ⊢; omega)
  have K1 : Kp (fun q => q = b ∨ q = sb) w (w.drew.setCells sb (i * 64) xs) := Kp.sets xs _ (Kp.refl _ _).drew (.inl (.inr rfl))
  clear h0 h2 ht
  generalize w.drew.setCells sb (i * 64) xs = w2 at *
  have c1 : w2.cell? ⟨b, 1, none⟩ = some (.int .i64 wr) := B1.cell 1
  have f1 := B1.frozen 1
  go_wp2
  go_ret
  refine ⟨rfl, ⟨?_, ⟨sp, ?_⟩, ?_, ?_, ?_⟩, ?_⟩
  · show Bk _ b 58 (dkCells (.slice (some ⟨sb, 0, none⟩) (L.set i x).length cap) _ _ _ _)
    rw [List.length_set]
    exact B1.set_ 1 _
  · have := S1.far (p := ⟨b, 1, none⟩) (Ne.symm hbs) (.int .i64 (wr + 1))
    rw [← HX.out, show i * 64 = 64 * i by omega, show 64 * i + (u8s x).length = 64 * i + 64 by rw [u8s_length, hx], secC_set L h.le i hi sp x hx] at this
    exact this
  · intro l hl
    rcases List.mem_or_eq_of_mem_set hl with hl | rfl
    · exact h.le l hl
    · exact hx
  · simpa using h.n1
  · simpa using h.n2
  · exact K1.set (.inl (.inl rfl)) _ _
set_option maxHeartbeats 1000000 in
theorem write_armed (b sb cap : Nat) (i : Nat) (g o k : Nat) (x : List UInt8) (w : World) (L : List (List UInt8)) (wr : Int) (lf : Int) (h : Dk w b sb cap L wr true lf false) (l0 : 0 < lf) (l1 : lf < 9223372036854775808) (hi : i < L.length)
    (hx : x.length = 64) (hr : w.rangeAt g o (u8s x)) (hg : g ≠ sb) (hgb : g ≠ b) (w0 : 0 ≤ wr) (w1 : wr < 4611686018427387904) :
    Calls Try.prog 19 #[.pointer (some ⟨b, 0, none⟩), .int .i64 i, .slice (some ⟨g, o, none⟩) 64 k] w fun e w' => e = .returned (.int .i64 0) ∧ Dk w' b sb cap (L.set i x) (wr + 1) true (lf - 1) false ∧ Kp (fun q => q = b ∨ q = sb) w w' := by
  have hf : faultN false i L.length = 0 := by simp [faultN]; omega
  have Hf := Lib.hid hf; clear hf
  have hst := h.st
  have h2 : w.cell? ⟨b, 2, none⟩ = some (.bool true) := hst.cell 2
  have h3 : w.cell? ⟨b, 3, none⟩ = some (.int .i64 lf) := hst.cell 3
  have f3 := hst.frozen 3
  have h0 : w.cell? ⟨b, 0, none⟩ = some (.slice (some ⟨sb, 0, none⟩) L.length cap) := hst.cell 0
  obtain ⟨sp, hse⟩ := h.se
  have ht : w.there sb (i * 64) 64 := hse.there _ _ (by have := flat_len L h.le; simp [secC] at this ⊢; omega)
  have hn2 := h.n2
  generalize hxs : u8s x = xs at hr
  have hxl : xs.length = 64 := by rw [← hxs]; simpa using hx
  have hx1 : ∀ v ∈ xs, v.oneCell' = true := by rw [← hxs]; exact u8s_one x
  have HX := Lib.hid hxs; clear hxs
  have hsz : (Try.prog.info? 61).map (·.size) = some xs.length := by rw [hxl]; exact u61
  have hib : (i : Int) < (L.length : Int) := by omega
  have hia : ((0 : Int)) ≤ (i : Int) := by omega
  have hu61 := Try.underlying61
  have hrr : ∀ u, (w.setCell ⟨b, 3, none⟩ u).rangeAt g o xs := fun u j v hv => by rw [World.cell?_setCell_other _ _ _ _ (by intro e; injection e with e; exact hgb e.symm)]; exact hr j v hv
  have hbs : b ≠ sb := hst.ne_ hse (by decide)
  have harr : ∀ W : World, (Instr.arrayAt 61 (.slice (some ⟨g, o, none⟩) 64 k)).run Try.prog W = .ok (.pointer (some ⟨g, o, none⟩)) W := arr61 g o k
  go_enter Try.func19, Try.ntmps19
  go_wp2_with (go_at_call 28; refine (fault_any b i _ _ _ _ wr true lf false hst).mono ?_; rw [Hf.out]; rintro e w' ⟨rfl, rfl⟩)
  have K0 : Kp (fun q => q = b ∨ q = sb) w (w.setCell ⟨b, 3, none⟩ (.int .i64 (lf - 1))) := (Kp.refl _ _).set (.inl (.inl rfl)) _ _
  have hst0 := hst.set_ 3 (.int .i64 (lf - 1))
  replace hse := hse.far (p := ⟨b, 3, none⟩) (Ne.symm hbs) (.int .i64 (lf - 1))
  have hr0 : (w.setCell ⟨b, 3, none⟩ (.int .i64 (lf - 1))).rangeAt g o xs := hrr _
  clear hr h0 h2 h3 f3 ht hst
  generalize w.setCell ⟨b, 3, none⟩ (.int .i64 (lf - 1)) = w1 at *
  have h0 : w1.cell? ⟨b, 0, none⟩ = some (.slice (some ⟨sb, 0, none⟩) L.length cap) := hst0.cell 0
  have ht : w1.there sb (i * 64) 64 := hse.there _ _ (by have := flat_len L h.le; simp [secC] at this ⊢; omega)
  go_region_held3 (fun w' => w'.cell? ⟨b, 0, none⟩ = some (.slice (some ⟨sb, 0, none⟩) L.length cap) ∧ w'.rangeAt g o xs ∧ w'.there sb (i * 64) 64) ((first | (go_keep_ranges; done) | exact keep_w hbs hg ht hr0 h0 hxl)) (fail)
  have B1 := Bk.setsFar hbs xs (i * 64) hst0.drew
  have S1 := Bk.sets xs (i * 64) hse.drew (by have := flat_len L h.le; simp [secC] at this ⊢; omega)
  have K1 : Kp (fun q => q = b ∨ q = sb) w (w1.drew.setCells sb (i * 64) xs) := Kp.sets xs _ K0.drew (.inl (.inr rfl))
  clear h0 ht
  generalize w1.drew.setCells sb (i * 64) xs = w2 at *
  have c1 : w2.cell? ⟨b, 1, none⟩ = some (.int .i64 wr) := B1.cell 1
  have f1 := B1.frozen 1
  go_wp2
  go_ret
  refine ⟨rfl, ⟨?_, ⟨sp, ?_⟩, ?_, ?_, ?_⟩, ?_⟩
  · show Bk _ b 58 (dkCells (.slice (some ⟨sb, 0, none⟩) (L.set i x).length cap) _ _ _ _)
    rw [List.length_set]
    exact B1.set_ 1 _
  · have := S1.far (p := ⟨b, 1, none⟩) (Ne.symm hbs) (.int .i64 (wr + 1))
    rw [← HX.out, show i * 64 = 64 * i by omega, show 64 * i + (u8s x).length = 64 * i + 64 by rw [u8s_length, hx], secC_set L h.le i hi sp x hx] at this
    exact this
  · intro l hl
    rcases List.mem_or_eq_of_mem_set hl with hl | rfl
    · exact h.le l hl
    · exact hx
  · simpa using h.n1
  · simpa using h.n2
  · exact K1.set (.inl (.inl rfl)) _ _
end Go.Proofs.Ytaohaofjbgghgaa
