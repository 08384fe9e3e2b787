/- Several texts of this claim in one. No condition beyond what each theorem states. -/
import Derived.Test.YtlgbmkdeamgpkaaGreatDoorB02
import Derived.StillTailTactics
import Derived.Deep.RegionHeld3
import Derived.Deep.QuietTactic
import Derived.BigQuiet
import Derived.Lib.Hide
import Derived.Test.YtlgbmkdeamgpkaaGreatDoorB06
import Derived.Test.YtlgbmkdeamgpkaaGreatDoorG05
import Derived.Test.YtlgbmkdeamgpkaaGreatDoorG04
/- The contracts of the program's disk: fits, fault, Arm, On, Off, Writes, Len, New, Write, each for whatever disk in memory. No condition beyond what each theorem states. -/
namespace Go.Proofs.YtlgbmkdeamgpkaaGreatDoor
open Go.RowKit

/-- the cells of a disk's struct -/
def dkCells (sec : Value) (writes : Int) (armed : Bool) (left : Int) (off : Bool) : List Value := [sec, .int .i64 writes, .bool armed, .int .i64 left, .bool off]

set_option maxHeartbeats 400000 in
theorem fits_any (n : Int) (w : World) :
    Calls Tryz.prog 36 #[.int .i64 n] w fun e w' => e = .returned (.bool (decide (1 ≤ n ∧ n ≤ 512))) ∧ w = w' := by
  go_enter Tryz.func36, Tryz.ntmps36
  by_cases h1 : 1 ≤ n <;> by_cases h2 : n ≤ 512 <;> go_wp2 <;> go_ret <;> simp [h1, h2]

set_option maxHeartbeats 400000 in
theorem fault_nil (i : Int) (w : World) :
    Calls Tryz.prog 55 #[.pointer none, .int .i64 i] w fun e w' => e = .returned (.int .i64 1) ∧ w = w' := by
  go_enter Tryz.func55, Tryz.ntmps55
  go_wp2
  go_ret
  exact ⟨rfl, rfl⟩

/-- what fault answers -/
def faultN (off : Bool) (i : Int) (n : Nat) : Int := if off then 40 else if 0 ≤ i ∧ i < n then 0 else 2

set_option maxHeartbeats 400000 in
theorem fault_any (b : Nat) (i : Int) (w : World) (A : Option Addr) (n c : Nat) (wr : Int) (ar : Bool) (lf : Int) (off : Bool) (h : Bk w b 76 (dkCells (.slice A n c) wr ar lf off))  :
    Calls Tryz.prog 55 #[.pointer (some ⟨b, 0, none⟩), .int .i64 i] w fun e w' => e = .returned (.int .i64 (faultN off i n)) ∧ w = w' := by
  have h0 : w.cell? ⟨b, 0, none⟩ = some (.slice A n c) := h.cell 0
  have h4 : w.cell? ⟨b, 4, none⟩ = some (.bool off) := h.cell 4
  go_enter Tryz.func55, Tryz.ntmps55
  cases off
  · by_cases h1 : 0 ≤ i
    · by_cases h2 : i < n
      · go_wp2
        go_ret
        simp [h1, h2, faultN]
      · go_wp2
        go_ret
        simp [h2, faultN]
    · go_wp2
      go_ret
      simp [faultN]
      omega
  · go_wp2
    go_ret
    exact ⟨rfl, rfl⟩

set_option maxHeartbeats 400000 in
theorem arm_nil (k : Int) (w : World) :
    Calls Tryz.prog 24 #[.pointer none, .int .i64 k] w fun e w' => e = .returned (.tuple #[]) ∧ w = w' := by
  go_enter Tryz.func24, Tryz.ntmps24
  go_wp2
  go_end0
  exact ⟨rfl, rfl⟩
set_option maxHeartbeats 400000 in
theorem arm_any (b : Nat) (k : Int) (w : World) (sec : Value) (wr : Int) (ar : Bool) (lf : Int) (off : Bool) (h : Bk w b 76 (dkCells sec wr ar lf off)) :
    Calls Tryz.prog 24 #[.pointer (some ⟨b, 0, none⟩), .int .i64 k] w fun e w' => e = .returned (.tuple #[]) ∧ Bk w' b 76 (dkCells sec wr (decide (0 ≤ k)) k off) ∧ Kp (One b) w w' := by
  have h2 : w.cell? ⟨b, 2, none⟩ = some (.bool ar) := h.cell 2
  have h3 : w.cell? ⟨b, 3, none⟩ = some (.int .i64 lf) := h.cell 3
  have f2 := h.frozen 2
  have f3 := h.frozen 3
  have hh := Lib.hid h; clear h
  go_enter Tryz.func24, Tryz.ntmps24
  go_wp2
  go_end0
  exact ⟨rfl, (hh.out.set_ 2 _).set_ 3 _, ((Kp.refl _ _).set (.inl (One.self _)) _ _).set (.inl (One.self _)) _ _⟩
set_option maxHeartbeats 400000 in
theorem on_nil (w : World) :
    Calls Tryz.prog 25 #[.pointer none] w fun e w' => e = .returned (.tuple #[]) ∧ w = w' := by
  go_enter Tryz.func25, Tryz.ntmps25
  go_wp2
  go_end0
  exact ⟨rfl, rfl⟩
set_option maxHeartbeats 400000 in
theorem on_any (b : Nat) (w : World) (sec : Value) (wr : Int) (ar : Bool) (lf : Int) (off : Bool) (h : Bk w b 76 (dkCells sec wr ar lf off)) :
    Calls Tryz.prog 25 #[.pointer (some ⟨b, 0, none⟩)] w fun e w' => e = .returned (.tuple #[]) ∧ Bk w' b 76 (dkCells sec wr ar lf false) ∧ Kp (One b) w w' := by
  have h2 : w.cell? ⟨b, 4, none⟩ = some (.bool off) := h.cell 4
  have f2 := h.frozen 4
  have hh := Lib.hid h; clear h
  go_enter Tryz.func25, Tryz.ntmps25
  go_wp2
  go_end0
  exact ⟨rfl, hh.out.set_ 4 _, (Kp.refl _ _).set (.inl (One.self _)) _ _⟩
set_option maxHeartbeats 400000 in
theorem off_nil (w : World) :
    Calls Tryz.prog 26 #[.pointer none] w fun e w' => e = .returned (.bool false) ∧ w = w' := by
  go_enter Tryz.func26, Tryz.ntmps26
  go_wp2
  go_ret
  exact ⟨rfl, rfl⟩
set_option maxHeartbeats 400000 in
theorem off_any (b : Nat) (w : World) (sec : Value) (wr : Int) (ar : Bool) (lf : Int) (off : Bool) (h : Bk w b 76 (dkCells sec wr ar lf off)) :
    Calls Tryz.prog 26 #[.pointer (some ⟨b, 0, none⟩)] w fun e w' => e = .returned (.bool off) ∧ w = w' := by
  have h2 : w.cell? ⟨b, 4, none⟩ = some (.bool off) := h.cell 4
  clear h
  go_enter Tryz.func26, Tryz.ntmps26
  go_wp2
  go_ret
  exact ⟨rfl, rfl⟩
set_option maxHeartbeats 400000 in
theorem writes_nil (w : World) :
    Calls Tryz.prog 19 #[.pointer none] w fun e w' => e = .returned (.int .i64 0) ∧ w = w' := by
  go_enter Tryz.func19, Tryz.ntmps19
  go_wp2
  go_ret
  exact ⟨rfl, rfl⟩
set_option maxHeartbeats 400000 in
theorem writes_any (b : Nat) (w : World) (sec : Value) (wr : Int) (ar : Bool) (lf : Int) (off : Bool) (h : Bk w b 76 (dkCells sec wr ar lf off)) :
    Calls Tryz.prog 19 #[.pointer (some ⟨b, 0, none⟩)] w fun e w' => e = .returned (.int .i64 wr) ∧ w = w' := by
  have h2 : w.cell? ⟨b, 1, none⟩ = some (.int .i64 wr) := h.cell 1
  clear h
  go_enter Tryz.func19, Tryz.ntmps19
  go_wp2
  go_ret
  exact ⟨rfl, rfl⟩
set_option maxHeartbeats 400000 in
theorem len_nil (w : World) :
    Calls Tryz.prog 37 #[.pointer none] w fun e w' => e = .returned (.int .i64 0) ∧ w = w' := by
  go_enter Tryz.func37, Tryz.ntmps37
  go_wp2
  go_ret
  exact ⟨rfl, rfl⟩
set_option maxHeartbeats 400000 in
theorem len_any (b : Nat) (w : World) (A : Option Addr) (n c : Nat) (wr : Int) (ar : Bool) (lf : Int) (off : Bool) (h : Bk w b 76 (dkCells (.slice A n c) wr ar lf off)) :
    Calls Tryz.prog 37 #[.pointer (some ⟨b, 0, none⟩)] w fun e w' => e = .returned (.int .i64 n) ∧ w = w' := by
  have h2 : w.cell? ⟨b, 0, none⟩ = some (.slice A n c) := h.cell 0
  clear h
  go_enter Tryz.func37, Tryz.ntmps37
  go_wp2
  go_ret
  exact ⟨rfl, rfl⟩

set_option maxHeartbeats 400000 in
theorem new_no (n : Int) (h : n < 1 ∨ 512 < n) (w : World) :
    Calls Tryz.prog 10 #[.int .i64 n] w fun e w' => e = .returned (.tuple #[.pointer none, .int .i64 2]) ∧ w = w' := by
  have hd : decide (1 ≤ n ∧ n ≤ 512) = false := by simp; omega
  have Hd := Lib.hid hd; clear hd
  go_enter Tryz.func10, Tryz.ntmps10
  go_wp2_with (go_at_call 36; refine (fits_any _ _).mono ?_; rw [Hd.out]; rintro e w' ⟨rfl, rfl⟩)
  go_ret2
  exact ⟨rfl, rfl⟩

theorem Tryz.infoSec : (Tryz.prog.info? 91).map (fun i => (i.zero, i.size, i.bytes)) = some (some (.agg (Array.replicate 64 (.int .u8 0))), 64, 64) := by kernel_rfl
def zero61 : List Value := List.replicate 64 (.int .u8 0)
set_option maxHeartbeats 400000 in
theorem new_yes (n : Nat) (h1 : 1 ≤ n) (h2 : n ≤ 512) (w : World) :
    Calls Tryz.prog 10 #[.int .i64 n] w fun e w' => ∃ b sb, e = .returned (.tuple #[.pointer (some ⟨b, 0, none⟩), .int .i64 0]) ∧
       Bk w' b 76 (dkCells (.slice (some ⟨sb, 0, none⟩) n n) 0 false 0 false) ∧ Bk w' sb 91 (List.replicate (n * 64) (.int .u8 0)) ∧ w.heap.size ≤ b ∧ w.heap.size ≤ sb ∧ b ≠ sb ∧ Kp No w w' := by
  have hd : decide (1 ≤ (n : Int) ∧ (n : Int) ≤ 512) = true := by simp; omega
  have Hd := Lib.hid hd; clear hd
  obtain ⟨i0, hi, hz0, hz1, hz2⟩ := info_parts Tryz.infoSec
  have hmk := fun W => mk_run (P := Tryz.prog) 74 91 i0 _ Tryz.underlying74 hi hz0 64 (.int .u8 0) (by omega) (by rfl) n (by rw [hz2]; omega) (by omega) W
  rw [hz1] at hmk
  go_enter Tryz.func10, Tryz.ntmps10
  go_wp2_with (go_at_call 36; refine (fits_any _ _).mono ?_; rw [Hd.out]; rintro e w' ⟨rfl, rfl⟩)
  go_ret2
  refine ⟨w.heap.size + 1, w.heap.size, rfl, Bk.new' (by simp) rfl, Bk.alloc (Bk.new' rfl (by simp)) _, by omega, by omega, by omega, ((Kp.refl _ _).alloc _).alloc _⟩

def secC (L : List (List UInt8)) : List Value := u8s L.flatten

/-- a disk in memory: the struct in block b, the sectors in block sb -/
structure Dk (w : World) (b sb cap : Nat) (L : List (List UInt8)) (wr : Int) (ar : Bool) (lf : Int) (off : Bool) : Prop where
  st : Bk w b 76 (dkCells (.slice (some ⟨sb, 0, none⟩) L.length cap) wr ar lf off)
  se : ∃ sp, Bk w sb 91 (secC L ++ sp)
  le : ∀ l ∈ L, l.length = 64
  n1 : 1 ≤ L.length
  n2 : L.length ≤ 512

theorem flat_len (L : List (List UInt8)) (h : ∀ l ∈ L, l.length = 64) : L.flatten.length = 64 * L.length := by
  induction L with
  | nil => rfl
  | cons a r ih =>
    have h1 := h a (by simp)
    have h2 := ih (fun l hl => h l (by simp [hl]))
    simp [h1, h2]; omega
theorem flat_drop (L : List (List UInt8)) (h : ∀ l ∈ L, l.length = 64) : ∀ i, i ≤ L.length → L.flatten.drop (64 * i) = (L.drop i).flatten := by
  induction L with
  | nil => intro i hi; simp
  | cons a r ih =>
    intro i hi
    have h1 := h a (by simp)
    rcases i with _ | i
    · simp
    · have := ih (fun l hl => h l (by simp [hl])) i (by simpa using hi)
      rw [List.flatten_cons, List.drop_append, h1, List.drop_eq_nil_of_le (by omega)]
      simp only [List.nil_append, List.drop_succ_cons]
      rw [← this]; congr 1
theorem flat_take (L : List (List UInt8)) (h : ∀ l ∈ L, l.length = 64) : ∀ i, i ≤ L.length → L.flatten.take (64 * i) = (L.take i).flatten := by
  induction L with
  | nil => intro i hi; simp
  | cons a r ih =>
    intro i hi
    have h1 := h a (by simp)
    rcases i with _ | i
    · simp
    · have := ih (fun l hl => h l (by simp [hl])) i (by simpa using hi)
      rw [List.flatten_cons, List.take_append, h1, List.take_of_length_le (by omega)]
      simp only [List.take_succ_cons, List.flatten_cons]
      rw [← this]; congr 2
theorem secC_get (L : List (List UInt8)) (h : ∀ l ∈ L, l.length = 64) (i : Nat) (hi : i < L.length) (sp : List Value) : ((secC L ++ sp).drop (64 * i)).take 64 = u8s L[i] := by
  have hl := flat_len L h
  have hli := h L[i] (List.getElem_mem hi)
  have e : L.flatten.drop (64 * i) = L[i] ++ (L.drop (i + 1)).flatten := by
    rw [flat_drop L h i (by omega), List.drop_eq_getElem_cons hi, List.flatten_cons]
  have hs : (secC L).length = 64 * L.length := by rw [secC, u8s_length, hl]
  rw [List.drop_append_of_le_length (by omega)]
  unfold secC u8s
  rw [← List.map_drop, e, List.map_append, List.append_assoc, List.take_left' (by simp [hli])]
theorem secC_set (L : List (List UInt8)) (h : ∀ l ∈ L, l.length = 64) (i : Nat) (hi : i < L.length) (sp : List Value) (x : List UInt8) (_hx : x.length = 64) :
    (secC L ++ sp).take (64 * i) ++ u8s x ++ (secC L ++ sp).drop (64 * i + 64) = secC (L.set i x) ++ sp := by
  have hl := flat_len L h
  have hs : (secC L).length = 64 * L.length := by rw [secC, u8s_length, hl]
  rw [List.take_append_of_le_length (by omega), List.drop_append_of_le_length (by omega)]
  unfold secC u8s
  rw [← List.map_drop, ← List.map_take, flat_take L h i (by omega), show 64 * i + 64 = 64 * (i + 1) by omega, flat_drop L h (i + 1) (by omega),
    List.set_eq_take_append_cons_drop, if_pos hi]
  simp

set_option maxHeartbeats 400000 in
theorem write_fault (b : Nat) (i : Int) (bs : Value) (w : World) (A : Option Addr) (n c : Nat) (wr : Int) (ar : Bool) (lf : Int) (off : Bool) (h : Bk w b 76 (dkCells (.slice A n c) wr ar lf off)) (hf : faultN off i n ≠ 0) :
    Calls Tryz.prog 69 #[.pointer (some ⟨b, 0, none⟩), .int .i64 i, bs] w fun e w' => e = .returned (.int .i64 (faultN off i n)) ∧ w = w' := by
  have hd : (faultN off i n == 0) = false := by simpa using hf
  clear hf
  go_enter Tryz.func69, Tryz.ntmps69
  go_wp2_with (go_at_call 55; refine (fault_any b i _ A n c wr ar lf off h).mono ?_; rintro e w' ⟨rfl, rfl⟩)
  go_ret
  exact ⟨rfl, rfl⟩
set_option maxHeartbeats 400000 in
theorem write_nil (i : Int) (bs : Value) (w : World) :
    Calls Tryz.prog 69 #[.pointer none, .int .i64 i, bs] w fun e w' => e = .returned (.int .i64 1) ∧ w = w' := by
  go_enter Tryz.func69, Tryz.ntmps69
  go_wp2_with (go_at_call 55; refine (fault_nil i _).mono ?_; rintro e w' ⟨rfl, rfl⟩)
  go_ret
  exact ⟨rfl, rfl⟩
set_option maxHeartbeats 400000 in
theorem write_short (b : Nat) (i : Int) (B : Option Addr) (m k : Nat) (w : World) (A : Option Addr) (n c : Nat) (wr : Int) (ar : Bool) (lf : Int) (off : Bool) (h : Bk w b 76 (dkCells (.slice A n c) wr ar lf off)) (hf : faultN off i n = 0) (hm : m ≠ 64) :
    Calls Tryz.prog 69 #[.pointer (some ⟨b, 0, none⟩), .int .i64 i, .slice B m k] w fun e w' => e = .returned (.int .i64 2) ∧ w = w' := by
  have Hf := Lib.hid hf; clear hf
  have hd : ((m : Int) == 64) = false := by simpa using (by omega : ¬ (m : Int) = 64)
  clear hm
  go_enter Tryz.func69, Tryz.ntmps69
  go_wp2_with (go_at_call 55; refine (fault_any b i _ A n c wr ar lf off h).mono ?_; rw [Hf.out]; rintro e w' ⟨rfl, rfl⟩)
  go_ret
  exact ⟨rfl, rfl⟩
set_option maxHeartbeats 400000 in
theorem write_cut (b : Nat) (i : Int) (B : Option Addr) (k : Nat) (w : World) (A : Option Addr) (n c : Nat) (wr : Int) (h : Bk w b 76 (dkCells (.slice A n c) wr true 0 false)) (hf : faultN false i n = 0) :
    Calls Tryz.prog 69 #[.pointer (some ⟨b, 0, none⟩), .int .i64 i, .slice B 64 k] w fun e w' => e = .returned (.int .i64 40) ∧ Bk w' b 76 (dkCells (.slice A n c) wr false 0 true) ∧ Kp (One b) w w' := by
  have Hf := Lib.hid hf; clear hf
  have h2 : w.cell? ⟨b, 2, none⟩ = some (.bool true) := h.cell 2
  have h3 : w.cell? ⟨b, 3, none⟩ = some (.int .i64 0) := h.cell 3
  have h4 : w.cell? ⟨b, 4, none⟩ = some (.bool false) := h.cell 4
  have f2 := h.frozen 2
  have f4 := h.frozen 4
  go_enter Tryz.func69, Tryz.ntmps69
  go_wp2_with (go_at_call 55; refine (fault_any b i _ A n c wr true 0 false h).mono ?_; rw [Hf.out]; rintro e w' ⟨rfl, rfl⟩)
  go_ret
  exact ⟨rfl, (h.set_ 2 _).set_ 4 _, ((Kp.refl _ _).set (.inl (One.self _)) _ _).set (.inl (One.self _)) _ _⟩
theorem u61 : (Tryz.prog.info? 91).map (·.size) = some 64 := by kernel_rfl
theorem arr61 (g o k : Nat) (W : World) : (Instr.arrayAt 91 (.slice (some ⟨g, o, none⟩) 64 k)).run Tryz.prog W = .ok (.pointer (some ⟨g, o, none⟩)) W := by
  simp [go_sem, Instr.arrayAt, run_underlying Tryz.underlying91]
theorem keep_w {w : World} {b sb g o j : Nat} {v : Value} {xs : List Value} (hbs : b ≠ sb) (hg : g ≠ sb) (ht : w.there sb j 64) (hr : w.rangeAt g o xs) (h0 : w.cell? ⟨b, 0, none⟩ = some v) (_hl : xs.length = 64) :
    (w.drew.setCells sb j xs).cell? ⟨b, 0, none⟩ = some v ∧ (w.drew.setCells sb j xs).rangeAt g o xs ∧ (w.drew.setCells sb j xs).there sb j 64 := by
  refine ⟨?_, ?_, ?_⟩
  · rw [World.cell?_setCells_out _ _ _ _ _ (fun hb => absurd hb hbs)]; exact h0
  · exact World.rangeAt_setCells_apart ((World.rangeAt_drew _ _ _ _).2 hr) _ _ _ (.inl hg)
  · exact World.there_setCells ((World.there_drew _ _ _ _).2 ht) _ _ _
set_option maxRecDepth 100000 in
set_option maxHeartbeats 1000000 in
theorem write_free (b sb cap : Nat) (i : Nat) (g o k : Nat) (x : List UInt8) (w : World) (L : List (List UInt8)) (wr : Int) (lf : Int) (h : Dk w b sb cap L wr false lf false) (hi : i < L.length)
    (hx : x.length = 64) (hr : w.rangeAt g o (u8s x)) (hg : g ≠ sb) (w0 : 0 ≤ wr) (w1 : wr < 4611686018427387904) :
    Calls Tryz.prog 69 #[.pointer (some ⟨b, 0, none⟩), .int .i64 i, .slice (some ⟨g, o, none⟩) 64 k] w fun e w' => e = .returned (.int .i64 0) ∧ Dk w' b sb cap (L.set i x) (wr + 1) false lf false ∧ Kp (fun q => q = b ∨ q = sb) w w' := by
  have hf : faultN false i L.length = 0 := by simp [faultN]; omega
  have Hf := Lib.hid hf; clear hf
  have hst := h.st
  have h2 : w.cell? ⟨b, 2, none⟩ = some (.bool false) := hst.cell 2
  have h0 : w.cell? ⟨b, 0, none⟩ = some (.slice (some ⟨sb, 0, none⟩) L.length cap) := hst.cell 0
  obtain ⟨sp, hse⟩ := h.se
  have ht : w.there sb (i * 64) 64 := hse.there _ _ (by have := flat_len L h.le; simp [secC] at this ⊢; omega)
  have hn2 := h.n2
  generalize hxs : u8s x = xs at hr
  have hxl : xs.length = 64 := by rw [← hxs]; simpa using hx
  have hx1 : ∀ v ∈ xs, v.oneCell' = true := by rw [← hxs]; exact u8s_one x
  have HX := Lib.hid hxs; clear hxs
  have hsz : (Tryz.prog.info? 91).map (·.size) = some xs.length := by rw [hxl]; exact u61
  have hib : (i : Int) < (L.length : Int) := by omega
  have hia : ((0 : Int)) ≤ (i : Int) := by omega
  have hu61 := Tryz.underlying91
  have hbs : b ≠ sb := hst.ne_ hse (by decide)
  have harr : ∀ W : World, (Instr.arrayAt 91 (.slice (some ⟨g, o, none⟩) 64 k)).run Tryz.prog W = .ok (.pointer (some ⟨g, o, none⟩)) W := arr61 g o k
  go_enter Tryz.func69, Tryz.ntmps69
  go_wp2_with (go_at_call 55; refine (fault_any b i _ _ _ _ wr false lf false hst).mono ?_; rw [Hf.out]; rintro e w' ⟨rfl, rfl⟩)
  go_region_held3 (fun w' => w'.cell? ⟨b, 0, none⟩ = some (.slice (some ⟨sb, 0, none⟩) L.length cap) ∧ w'.rangeAt g o xs ∧ w'.there sb (i * 64) 64) ((first | (go_keep_ranges; done) | exact keep_w hbs hg ht hr h0 hxl)) (fail)
  have B1 := Bk.setsFar hbs xs (i * 64) hst.drew
  have S1 := Bk.sets xs (i * 64) hse.drew (by have := flat_len L h.le; simp [secC] at this ⊢; omega)
  have K1 : Kp (fun q => q = b ∨ q = sb) w (w.drew.setCells sb (i * 64) xs) := Kp.sets xs _ (Kp.refl _ _).drew (.inl (.inr rfl))
  clear h0 h2 ht
  generalize w.drew.setCells sb (i * 64) xs = w2 at *
  have c1 : w2.cell? ⟨b, 1, none⟩ = some (.int .i64 wr) := B1.cell 1
  have f1 := B1.frozen 1
  go_wp2
  go_ret
  refine ⟨rfl, ⟨?_, ⟨sp, ?_⟩, ?_, ?_, ?_⟩, ?_⟩
  · show Bk _ b 76 (dkCells (.slice (some ⟨sb, 0, none⟩) (L.set i x).length cap) _ _ _ _)
    rw [List.length_set]
    exact B1.set_ 1 _
  · have := S1.far (p := ⟨b, 1, none⟩) (Ne.symm hbs) (.int .i64 (wr + 1))
    rw [← HX.out, show i * 64 = 64 * i by omega, show 64 * i + (u8s x).length = 64 * i + 64 by rw [u8s_length, hx], secC_set L h.le i hi sp x hx] at this
    exact this
  · intro l hl
    rcases List.mem_or_eq_of_mem_set hl with hl | rfl
    · exact h.le l hl
    · exact hx
  · simpa using h.n1
  · simpa using h.n2
  · exact K1.set (.inl (.inl rfl)) _ _
set_option maxRecDepth 100000 in
set_option maxHeartbeats 1000000 in
theorem write_armed (b sb cap : Nat) (i : Nat) (g o k : Nat) (x : List UInt8) (w : World) (L : List (List UInt8)) (wr : Int) (lf : Int) (h : Dk w b sb cap L wr true lf false) (l0 : 0 < lf) (l1 : lf < 9223372036854775808) (hi : i < L.length)
    (hx : x.length = 64) (hr : w.rangeAt g o (u8s x)) (hg : g ≠ sb) (hgb : g ≠ b) (w0 : 0 ≤ wr) (w1 : wr < 4611686018427387904) :
    Calls Tryz.prog 69 #[.pointer (some ⟨b, 0, none⟩), .int .i64 i, .slice (some ⟨g, o, none⟩) 64 k] w fun e w' => e = .returned (.int .i64 0) ∧ Dk w' b sb cap (L.set i x) (wr + 1) true (lf - 1) false ∧ Kp (fun q => q = b ∨ q = sb) w w' := by
  have hf : faultN false i L.length = 0 := by simp [faultN]; omega
  have Hf := Lib.hid hf; clear hf
  have hst := h.st
  have h2 : w.cell? ⟨b, 2, none⟩ = some (.bool true) := hst.cell 2
  have h3 : w.cell? ⟨b, 3, none⟩ = some (.int .i64 lf) := hst.cell 3
  have f3 := hst.frozen 3
  have h0 : w.cell? ⟨b, 0, none⟩ = some (.slice (some ⟨sb, 0, none⟩) L.length cap) := hst.cell 0
  obtain ⟨sp, hse⟩ := h.se
  have ht : w.there sb (i * 64) 64 := hse.there _ _ (by have := flat_len L h.le; simp [secC] at this ⊢; omega)
  have hn2 := h.n2
  generalize hxs : u8s x = xs at hr
  have hxl : xs.length = 64 := by rw [← hxs]; simpa using hx
  have hx1 : ∀ v ∈ xs, v.oneCell' = true := by rw [← hxs]; exact u8s_one x
  have HX := Lib.hid hxs; clear hxs
  have hsz : (Tryz.prog.info? 91).map (·.size) = some xs.length := by rw [hxl]; exact u61
  have hib : (i : Int) < (L.length : Int) := by omega
  have hia : ((0 : Int)) ≤ (i : Int) := by omega
  have hu61 := Tryz.underlying91
  have hrr : ∀ u, (w.setCell ⟨b, 3, none⟩ u).rangeAt g o xs := fun u j v hv => by rw [World.cell?_setCell_other _ _ _ _ (by intro e; injection e with e; exact hgb e.symm)]; exact hr j v hv
  have hbs : b ≠ sb := hst.ne_ hse (by decide)
  have harr : ∀ W : World, (Instr.arrayAt 91 (.slice (some ⟨g, o, none⟩) 64 k)).run Tryz.prog W = .ok (.pointer (some ⟨g, o, none⟩)) W := arr61 g o k
  go_enter Tryz.func69, Tryz.ntmps69
  go_wp2_with (go_at_call 55; refine (fault_any b i _ _ _ _ wr true lf false hst).mono ?_; rw [Hf.out]; rintro e w' ⟨rfl, rfl⟩)
  have K0 : Kp (fun q => q = b ∨ q = sb) w (w.setCell ⟨b, 3, none⟩ (.int .i64 (lf - 1))) := (Kp.refl _ _).set (.inl (.inl rfl)) _ _
  have hst0 := hst.set_ 3 (.int .i64 (lf - 1))
  replace hse := hse.far (p := ⟨b, 3, none⟩) (Ne.symm hbs) (.int .i64 (lf - 1))
  have hr0 : (w.setCell ⟨b, 3, none⟩ (.int .i64 (lf - 1))).rangeAt g o xs := hrr _
  clear hr h0 h2 h3 f3 ht hst
  generalize w.setCell ⟨b, 3, none⟩ (.int .i64 (lf - 1)) = w1 at *
  have h0 : w1.cell? ⟨b, 0, none⟩ = some (.slice (some ⟨sb, 0, none⟩) L.length cap) := hst0.cell 0
  have ht : w1.there sb (i * 64) 64 := hse.there _ _ (by have := flat_len L h.le; simp [secC] at this ⊢; omega)
  go_region_held3 (fun w' => w'.cell? ⟨b, 0, none⟩ = some (.slice (some ⟨sb, 0, none⟩) L.length cap) ∧ w'.rangeAt g o xs ∧ w'.there sb (i * 64) 64) ((first | (go_keep_ranges; done) | exact keep_w hbs hg ht hr0 h0 hxl)) (fail)
  have B1 := Bk.setsFar hbs xs (i * 64) hst0.drew
  have S1 := Bk.sets xs (i * 64) hse.drew (by have := flat_len L h.le; simp [secC] at this ⊢; omega)
  have K1 : Kp (fun q => q = b ∨ q = sb) w (w1.drew.setCells sb (i * 64) xs) := Kp.sets xs _ K0.drew (.inl (.inr rfl))
  clear h0 ht
  generalize w1.drew.setCells sb (i * 64) xs = w2 at *
  have c1 : w2.cell? ⟨b, 1, none⟩ = some (.int .i64 wr) := B1.cell 1
  have f1 := B1.frozen 1
  go_wp2
  go_ret
  refine ⟨rfl, ⟨?_, ⟨sp, ?_⟩, ?_, ?_, ?_⟩, ?_⟩
  · show Bk _ b 76 (dkCells (.slice (some ⟨sb, 0, none⟩) (L.set i x).length cap) _ _ _ _)
    rw [List.length_set]
    exact B1.set_ 1 _
  · have := S1.far (p := ⟨b, 1, none⟩) (Ne.symm hbs) (.int .i64 (wr + 1))
    rw [← HX.out, show i * 64 = 64 * i by omega, show 64 * i + (u8s x).length = 64 * i + 64 by rw [u8s_length, hx], secC_set L h.le i hi sp x hx] at this
    exact this
  · intro l hl
    rcases List.mem_or_eq_of_mem_set hl with hl | rfl
    · exact h.le l hl
    · exact hx
  · simpa using h.n1
  · simpa using h.n2
  · exact K1.set (.inl (.inl rfl)) _ _
end Go.Proofs.YtlgbmkdeamgpkaaGreatDoor

/- The disk's Read and Image by contract. No condition beyond what each theorem states. -/
namespace Go.Proofs.YtlgbmkdeamgpkaaGreatDoor
open Go.RowKit

theorem store_new61 (w : World) (xs : List Value) (hl : xs.length = 64) (h1 : ∀ v ∈ xs, v.oneCell' = true) :
    Sem.run Tryz.prog (storeCells ⟨w.heap.size, 0, none⟩ xs) (w.alloc (.cells #[(.int .u8 0), (.int .u8 0), (.int .u8 0), (.int .u8 0), (.int .u8 0), (.int .u8 0), (.int .u8 0), (.int .u8 0), (.int .u8 0), (.int .u8 0), (.int .u8 0), (.int .u8 0), (.int .u8 0), (.int .u8 0), (.int .u8 0), (.int .u8 0), (.int .u8 0), (.int .u8 0), (.int .u8 0), (.int .u8 0), (.int .u8 0), (.int .u8 0), (.int .u8 0), (.int .u8 0), (.int .u8 0), (.int .u8 0), (.int .u8 0), (.int .u8 0), (.int .u8 0), (.int .u8 0), (.int .u8 0), (.int .u8 0), (.int .u8 0), (.int .u8 0), (.int .u8 0), (.int .u8 0), (.int .u8 0), (.int .u8 0), (.int .u8 0), (.int .u8 0), (.int .u8 0), (.int .u8 0), (.int .u8 0), (.int .u8 0), (.int .u8 0), (.int .u8 0), (.int .u8 0), (.int .u8 0), (.int .u8 0), (.int .u8 0), (.int .u8 0), (.int .u8 0), (.int .u8 0), (.int .u8 0), (.int .u8 0), (.int .u8 0), (.int .u8 0), (.int .u8 0), (.int .u8 0), (.int .u8 0), (.int .u8 0), (.int .u8 0), (.int .u8 0), (.int .u8 0)] 91)) = .ok () (w.alloc (.cells xs.toArray 91)) := by
  have h := run_storeCells_at Tryz.prog w.heap.size 0 91 xs 0 (List.replicate 64 (.int .u8 0)).toArray (w.alloc (.cells (List.replicate 64 (.int .u8 0)).toArray 91)) (heap_alloc_new w _) (by simp; omega) h1
  rw [setRow_alloc] at h
  simp only [Nat.zero_add, List.take_zero, List.nil_append, hl, List.drop_replicate, Nat.sub_self, List.replicate_zero, List.append_nil] at h
  exact h
set_option maxHeartbeats 1000000 in
theorem read_fault (b : Nat) (i : Int) (w : World) (A : Option Addr) (n c : Nat) (wr : Int) (ar : Bool) (lf : Int) (off : Bool) (h : Bk w b 76 (dkCells (.slice A n c) wr ar lf off)) (hf : faultN off i n ≠ 0) :
    Calls Tryz.prog 38 #[.pointer (some ⟨b, 0, none⟩), .int .i64 i] w fun e w' => e = .returned (.tuple #[.slice none 0 0, .int .i64 (faultN off i n)]) ∧ w = w' := by
  have hd : (faultN off i n == 0) = false := by simpa using hf
  clear hf
  go_enter Tryz.func38, Tryz.ntmps38
  go_wp2_with (go_at_call 55; refine (fault_any b i _ A n c wr ar lf off h).mono ?_; rintro e w' ⟨rfl, rfl⟩)
  go_ret2
  exact ⟨rfl, rfl⟩
set_option maxHeartbeats 1000000 in
theorem read_nil (i : Int) (w : World) :
    Calls Tryz.prog 38 #[.pointer none, .int .i64 i] w fun e w' => e = .returned (.tuple #[.slice none 0 0, .int .i64 1]) ∧ w = w' := by
  go_enter Tryz.func38, Tryz.ntmps38
  go_wp2_with (go_at_call 55; refine (fault_nil i _).mono ?_; rintro e w' ⟨rfl, rfl⟩)
  go_ret2
  exact ⟨rfl, rfl⟩
set_option maxHeartbeats 1000000 in
theorem dread_any (b sb cap : Nat) (i : Nat) (w : World) (L : List (List UInt8)) (wr : Int) (ar : Bool) (lf : Int) (h : Dk w b sb cap L wr ar lf false) (hi : i < L.length) :
    Calls Tryz.prog 38 #[.pointer (some ⟨b, 0, none⟩), .int .i64 i] w fun e w' => ∃ g, e = .returned (.tuple #[.slice (some ⟨g, 0, none⟩) 64 64, .int .i64 0]) ∧ Bk w' g 91 (u8s L[i]) ∧ w.heap.size ≤ g ∧ Kp No w w' := by
  have hf : faultN false i L.length = 0 := by simp [faultN]; omega
  have Hf := Lib.hid hf; clear hf
  have hst := h.st
  have h0 : w.cell? ⟨b, 0, none⟩ = some (.slice (some ⟨sb, 0, none⟩) L.length cap) := hst.cell 0
  obtain ⟨sp, hse⟩ := h.se
  have hra := hse.range (64 * i) 64
  rw [secC_get L h.le i hi sp, show 64 * i = i * 64 by omega] at hra
  have hxl : (u8s L[i]).length = 64 := by rw [u8s_length, h.le _ (List.getElem_mem hi)]
  have hx1 := u8s_one L[i]
  generalize u8s L[i] = xs at *
  have hsz : (Tryz.prog.info? 91).map (·.size) = some xs.length := by rw [hxl]; exact u61
  have hib : (i : Int) < (L.length : Int) := by omega
  have hia : ((0 : Int)) ≤ (i : Int) := by omega
  have hu61 := Tryz.underlying91
  have hsn := store_new61 w xs hxl hx1
  go_enter Tryz.func38, Tryz.ntmps38
  go_wp2_with (first | (go_at_call 55; refine (fault_any b i _ _ _ _ wr ar lf false hst).mono ?_; rw [Hf.out]; rintro e w' ⟨rfl, rfl⟩) | (refine wpList_load_mid rfl 91 _ rfl sb (i * 64) rfl xs _ hra Tryz.underlying91 rfl hsz ?_))
  go_ret2
  exact ⟨w.heap.size, rfl, Bk.new' rfl rfl, by omega, (Kp.refl _ _).alloc _⟩

/-- one fresh list of bytes: a slice value over the head of a block from B on -/
def ByteRow (w : World) (B : Nat) (av : Option Nat) (t : TypeId) (x : Value) (l : List UInt8) : Prop :=
  ∃ g c sp, x = .slice (some ⟨g, 0, none⟩) l.length c ∧ l.length ≤ c ∧ B ≤ g ∧ av ≠ some g ∧ Bk w g t (u8s l ++ sp)
theorem ByteRow.keep {w w' : World} {B : Nat} {av av' : Option Nat} {t : TypeId} {x : Value} {l : List UInt8} {M : Nat → Prop} (h : ByteRow w B av t x l) (hk : Kp M w w')
    (hm : ∀ g, g < w.heap.size → B ≤ g → av ≠ some g → ¬ M g ∧ av' ≠ some g) : ByteRow w' B av' t x l := by
  obtain ⟨g, c, sp, e, hc, hb, ha, hbk⟩ := h
  obtain ⟨h1, h2⟩ := hm g hbk.lt hb ha
  exact ⟨g, c, sp, e, hc, hb, h2, hbk.kp hk h1⟩
/-- a list of fresh lists of bytes: an own row of slices, the lists of bytes apart from it -/
structure RowsOf (w : World) (B : Nat) (v : Value) (L : List (List UInt8)) (t : TypeId) : Prop where
  ex : ∃ xs : List Value, w.ownsRow B 69 1 v L.length xs ∧ ∀ i (h : i < L.length), ∃ x, xs[i]? = some x ∧ ByteRow w B v.ownBlock t x L[i]
theorem RowsOf.nil (w : World) (B : Nat) (t : TypeId) : RowsOf w B (.slice none 0 0) [] t := ⟨[], World.ownsRow_nil _ _ _ _, by intro i hi; simp at hi⟩
theorem RowsOf.push {wr w2 w1 : World} {B : Nat} {v : Value} {L : List (List UInt8)} {l : List UInt8} {x : Value} {t : TypeId} {xs : List Value}
    (hown : wr.ownsRow B 69 1 v L.length xs) (hrows : ∀ i (h : i < L.length), ∃ x, xs[i]? = some x ∧ ByteRow wr B v.ownBlock t x L[i])
    (h2 : Kp No wr w2) (hx : ByteRow w2 wr.heap.size none t x l) (hB : B ≤ wr.heap.size) {g1 cap1 : Nat} (hown1 : w1.ownsRow B 69 1 (.slice (some ⟨g1, 0, none⟩) (L.length + 1) cap1) (L.length + 1) (xs ++ [x])) (hk1 : Kp (fun k => v.ownBlock = some k) w2 w1)
    (hat : v.ownBlock = some g1 ∨ g1 = w2.heap.size) : RowsOf w1 B (.slice (some ⟨g1, 0, none⟩) (L.length + 1) cap1) (L ++ [l]) t := by
  have hxs : xs.length = L.length := by have := hown.1; omega
  have hav : ∀ g, g < w2.heap.size → v.ownBlock ≠ some g → (Value.slice (some ⟨g1, 0, none⟩) (L.length + 1) cap1).ownBlock ≠ some g := by
    intro g hg hn e'
    have e2 : g1 = g := by simpa [Value.ownBlock] using e'
    rcases hat with e | e
    · rw [e, e2] at hn; exact hn rfl
    · omega
  refine ⟨xs ++ [x], by simpa using hown1, fun i hi => ?_⟩
  by_cases hlt : i < L.length
  · obtain ⟨y, hy, hr⟩ := hrows i hlt
    refine ⟨y, by rw [List.getElem?_append_left (by omega)]; exact hy, ?_⟩
    rw [List.getElem_append_left hlt]
    have hr2 := hr.keep (av' := v.ownBlock) h2 (fun g _ _ h => ⟨fun m => m, h⟩)
    exact hr2.keep hk1 (fun g hg _ h => ⟨h, hav g hg h⟩)
  · have hi' : i = L.length := by simp at hi; omega
    subst hi'
    refine ⟨x, by rw [List.getElem?_append_right (by omega), hxs]; simp, ?_⟩
    simp only [List.getElem_concat_length]
    obtain ⟨g, c, sp, e, hc, hb, ha, hbk⟩ := hx
    have hne : v.ownBlock ≠ some g := by
      intro e; have := hown.lt g e; omega
    exact ⟨g, c, sp, e, hc, by omega, hav g hbk.lt hne, hbk.kp hk1 hne⟩

theorem own_bkD {w : World} {base : Nat} {e : TypeId} {size n : Nat} {v : Value} {xs : List Value} {g : Nat} (h : w.ownsRow base e size v n xs) (hg : v.ownBlock = some g) : base ≤ g ∧ ∃ cs, Bk w g e cs := by
  rcases h.2 with ⟨rfl, _⟩ | ⟨g', cap, cur, rfl, hb, hh, _⟩
  · simp [Value.ownBlock] at hg
  · have : g' = g := by simpa [Value.ownBlock] using hg
    subst this
    exact ⟨hb, cur.toList, by unfold Bk; simpa using hh⟩
theorem RowsOf.kp {w w' : World} {B : Nat} {v : Value} {L : List (List UInt8)} {t : TypeId} {M : Nat → Prop} (h : RowsOf w B v L t) (hk : Kp M w w')
    (hM : ∀ g cs, B ≤ g → (Bk w g 69 cs ∨ Bk w g t cs) → ¬ M g) : RowsOf w' B v L t := by
  obtain ⟨xs, hown, hrows⟩ := h
  refine ⟨xs, own_kp hown hk fun g hg => ?_, fun i hi => ?_⟩
  · obtain ⟨hB, cs, hcs⟩ := own_bkD hown hg
    exact hM g cs hB (.inl hcs)
  · obtain ⟨x, hx, g, c, sp, e, hc, hb, ha, hbk⟩ := hrows i hi
    exact ⟨x, hx, g, c, sp, e, hc, hb, ha, hbk.kp hk (hM g _ hb (.inr hbk))⟩
theorem RowsOf.no {w w' : World} {B : Nat} {v : Value} {L : List (List UInt8)} {t : TypeId} (h : RowsOf w B v L t) (hk : Kp No w w') : RowsOf w' B v L t := h.kp hk fun _ _ _ _ m => m
/-- a store into a block of another kind -/
theorem RowsOf.far {w : World} {B : Nat} {v : Value} {L : List (List UInt8)} {t : TypeId} {b : Nat} {tb : TypeId} {cs : List Value} (h : RowsOf w B v L t) (hb : Bk w b tb cs) (h1 : tb ≠ 69) (h2 : tb ≠ t) (i : Nat) (u : Value) :
    RowsOf (w.setCell ⟨b, i, none⟩ u) B v L t :=
  h.kp (M := One b) ((Kp.refl _ _).set (.inl (One.self _)) _ _) fun g cs' _ hg m => by
    rcases hg with hg | hg
    · exact (hb.ne_ hg h1) m.symm
    · exact (hb.ne_ hg h2) m.symm

theorem Tryz.infoBs : (Tryz.prog.info? 69).map (fun i => (i.zero, i.size, i.bytes)) = some (some (.slice none 0 0), 1, 24) := by kernel_rfl
set_option maxHeartbeats 1000000 in
theorem image_any (b sb cap : Nat) (w : World) (L : List (List UInt8)) (wr : Int) (ar : Bool) (lf : Int) (off : Bool) (h : Dk w b sb cap L wr ar lf off) :
    Calls Tryz.prog 33 #[.pointer (some ⟨b, 0, none⟩)] w fun e w' => ∃ v, e = .returned v ∧ RowsOf w' w.heap.size v L 91 ∧ Kp No w w' := by
  have hst := h.st
  obtain ⟨sp, hse⟩ := h.se
  have hn2 := h.n2
  have hle := h.le
  have hu61 := Tryz.underlying91
  have hsn := fun (W : World) (xs : List Value) (h1 : xs.length = 64) (h2 : ∀ v ∈ xs, v.oneCell' = true) => store_new61 W xs h1 h2
  go_enter Tryz.func33, Tryz.ntmps33
  go_wp2_with (go_at_call 37; refine (len_any b _ _ _ _ wr ar lf off hst).mono ?_; rintro e w' ⟨rfl, rfl⟩)
  go_loopw [8, 4, 5, 3] (fun i _ _ v wr => ∃ k : Nat, k ≤ L.length ∧ i = .int .i64 k ∧ RowsOf wr w.heap.size v (L.take k) 91 ∧ Kp No w wr) (fun i _ _ _ _ => L.length - (intOf i).toNat)
  case atStart => exact ⟨0, Nat.zero_le _, rfl, RowsOf.nil _ _ _, Kp.refl _ _⟩
  case round =>
    obtain ⟨k, hk, rfl, ⟨vs, hown, hrows⟩, hkp⟩ := hrel
    by_cases hlt : k < L.length
    · have hstr := hst.no hkp
      have hser := hse.no hkp
      have h0 : wr.cell? ⟨b, 0, none⟩ = some (.slice (some ⟨sb, 0, none⟩) L.length cap) := hstr.cell 0
      have hra := hser.range (64 * k) 64
      rw [secC_get L hle k hlt sp, show 64 * k = k * 64 by omega] at hra
      have hxl : (u8s L[k]).length = 64 := by rw [u8s_length, hle _ (List.getElem_mem hlt)]
      have hx1 := u8s_one L[k]
      generalize hxs : u8s L[k] = xs at *
      have HX := Lib.hid hxs; clear hxs
      have hsz : (Tryz.prog.info? 91).map (·.size) = some xs.length := by rw [hxl]; exact u61
      have hsn1 := hsn wr xs hxl hx1
      clear hsn
      have hlen : (L.take k).length = k := by simp; omega
      have hown0 := hown
      rw [hlen] at hown
      have HR := Lib.hid hrows; clear hrows
      have HO := Lib.hid hown0; clear hown0
      have HN := Lib.hid hlen; clear hlen
      go_wp2_with (first | (refine wpList_load_mid rfl 91 _ rfl sb (k * 64) rfl xs _ hra Tryz.underlying91 rfl hsz ?_) | (at_builtin; refine wpList_app1 _ rfl _ _ _ rfl w.heap.size 69 _ 1 24 Tryz.underlying63 Tryz.infoBs rfl (by omega) _ k vs rfl ((hown.alloc _).alloc _) _ _ _ rfl (Bk.new' (by simp) rfl) rfl (by simp [Value.oneCell']) (by omega) (by omega) (by simp; have := hkp.size; omega) ?_; intro g1 cap1 w1 hown1 hk1 hat1))
      go_roundw
      case rel =>
        refine ⟨k + 1, by omega, by go_num, ?_, ?_⟩
        · rw [List.take_add_one, List.getElem?_eq_getElem hlt]
          have hpush := RowsOf.push (l := L[k]) (t := 91) (x := .slice (some ⟨wr.heap.size, 0, none⟩) 64 64) HO.out HR.out (((Kp.refl _ _).alloc _).alloc _) ?_ hkp.size (by rw [HN.out]; exact hown1) hk1 hat1
          · rw [HN.out] at hpush
            exact hpush
          refine ⟨wr.heap.size, 64, [], by rw [hle _ (List.getElem_mem hlt)], by rw [hle _ (List.getElem_mem hlt)]; omega, by omega, by simp, ?_⟩
          rw [HX.out, List.append_nil]
          exact Bk.alloc (Bk.new' rfl rfl) _
        · refine ((hkp.alloc _).alloc _).then_ hk1 fun i hi e => ?_
          have := HO.out.lt i e
          omega
      case measure => simp [intOf]; omega
    · have hk' : k = L.length := by omega
      subst hk'
      rw [List.take_length] at hown hrows
      go_wp2
      go_ret
      exact ⟨_, rfl, ⟨vs, hown, hrows⟩, hkp⟩
end Go.Proofs.YtlgbmkdeamgpkaaGreatDoor

/- The program's stamps: inOrder, Compare, by contracts. No condition beyond what each theorem states. -/
namespace Go.Proofs.YtlgbmkdeamgpkaaGreatDoor
open Go Go.RowKit Go.PlainAid
theorem isNaN_any (n : Int) (w : World) : Calls Tryz.prog 125 #[.int .i64 n] w fun e w' => e = .returned (.bool false) ∧ w = w' := by
  go_enter Tryz.func125, Tryz.ntmps125
  go_wp2
  go_ret
  exact ⟨ret_bool rfl (by simp), rfl⟩
theorem cmpI_any (a b : Int) (w : World) : Calls Tryz.prog 74 #[.int .i64 a, .int .i64 b] w fun e w' => e = .returned (.int .i64 (cmpI a b)) ∧ w = w' := by
  go_enter Tryz.func74, Tryz.ntmps74
  go_wp2_with fail
  refine (isNaN_any _ _).mono ?_
  rintro e w' ⟨rfl, rfl⟩
  go_wp2_with fail
  refine (isNaN_any _ _).mono ?_
  rintro e w' ⟨rfl, rfl⟩
  have HS := Lib.hid (show cmpI a b = if a < b then -1 else if b < a then 1 else 0 from rfl)
  by_cases h1 : a < b
  · go_wp2
    go_ret
    exact ⟨ret_int rfl (by rw [HS.out, if_pos h1]), rfl⟩
  · by_cases h2 : b < a
    · go_wp2
      go_ret
      exact ⟨ret_int rfl (by rw [HS.out, if_neg (by omega), if_pos h2]), rfl⟩
    · go_wp2
      go_ret
      exact ⟨ret_int rfl (by rw [HS.out, if_neg (by omega), if_neg (by omega)]), rfl⟩
theorem cmpI_cases (a b : Int) : (cmpI a b = -1 ∧ a < b) ∨ (cmpI a b = 1 ∧ b < a) ∨ (cmpI a b = 0 ∧ a = b) := by
  unfold cmpI
  by_cases h1 : a < b
  · rw [if_pos h1]; exact .inl ⟨rfl, h1⟩
  · by_cases h2 : b < a
    · rw [if_neg h1, if_pos h2]; exact .inr (.inl ⟨rfl, h2⟩)
    · rw [if_neg h1, if_neg h2]; exact .inr (.inr ⟨rfl, by omega⟩)
set_option maxHeartbeats 1000000 in
set_option maxRecDepth 100000 in
theorem inOrder_any (v u : Value) (L M : List Int) (w : World) (hv : ArgInts w v L) (hu : ArgInts w u M) (hl : L.length ≤ maxLen) (hm : M.length ≤ maxLen) :
    Calls Tryz.prog 47 #[v, u] w fun e w' => e = .returned (.int .i64 (cmpS L M)) ∧ Kp No w w' := by
  unfold maxLen at hl hm
  have HV := Lib.hid hv; have HU := Lib.hid hu
  obtain ⟨A, c, rfl, hc, _⟩ := hv
  obtain ⟨B, d, rfl, hd, _⟩ := hu
  go_enter Tryz.func47, Tryz.ntmps47
  rcases (by omega : L.length < M.length ∨ M.length < L.length ∨ (L.length ≤ M.length ∧ M.length ≤ L.length)) with hlm | hlm | ⟨hlm, hlm2⟩
  all_goals
    go_wp2
    go_loopw [12] (fun i wr => ∃ k : Nat, k ≤ L.length ∧ k ≤ M.length ∧ i = .int .i64 k ∧ Kp No w wr ∧ cmpS (L.drop k) (M.drop k) = cmpS L M) (fun i _ => L.length - (intOf i).toNat)
    case atStart => exact ⟨0, Nat.zero_le _, Nat.zero_le _, rfl, Kp.refl _ _, rfl⟩
    case round =>
      obtain ⟨k, hk, hk', rfl, hkp, hF⟩ := hrel
      by_cases hlt : k < L.length ∧ k < M.length
      · obtain ⟨h1, h2⟩ := hlt
        have hk0 : (0 : Int) ≤ (k : Int) := by omega
        have hk1 : (k : Int) < (L.length : Int) := by omega
        have hk2 : (k : Int) < (M.length : Int) := by omega
        obtain ⟨g, o, c', e1, hxx⟩ := (HV.out.no hkp).at_ h1
        have hx := hxx k _ (List.getElem?_eq_getElem h1)
        obtain ⟨g2, o2, d', e2, hyy⟩ := (HU.out.no hkp).at_ h2
        have hy := hyy k _ (List.getElem?_eq_getElem h2)
        clear hxx hyy
        injection e1 with e1 _ e1c; injection e2 with e2 _ e2c
        subst e1 e2 e1c e2c
        rw [cmpS_step h1 h2] at hF
        generalize L[k] = x at *
        generalize M[k] = y at *
        rcases cmpI_cases x y with ⟨e, hc⟩ | ⟨e, hc⟩ | ⟨e, hc⟩
        · rw [if_pos hc] at hF
          have HF := Lib.hid hF; have HE := Lib.hid e; clear hF e hc
          go_wp2
          go_quiet ((go_at_call 74; exact Calls.quiet_of_same ((cmpI_any x y _).mono fun _ _ ⟨h1, h2⟩ => ⟨by rw [HE.out] at h1; exact h1, h2.symm⟩)))
          go_wp2
          go_ret
          exact ⟨ret_int rfl HF.out, hkp.drewN _⟩
        · rw [if_neg (by omega), if_pos hc] at hF
          have HF := Lib.hid hF; have HE := Lib.hid e; clear hF e hc
          go_wp2
          go_quiet ((go_at_call 74; exact Calls.quiet_of_same ((cmpI_any x y _).mono fun _ _ ⟨h1, h2⟩ => ⟨by rw [HE.out] at h1; exact h1, h2.symm⟩)))
          go_wp2
          go_ret
          exact ⟨ret_int rfl HF.out, hkp.drewN _⟩
        · subst hc
          rw [if_neg (by omega), if_neg (by omega)] at hF
          have HF := Lib.hid hF; have HE := Lib.hid e; clear hF e
          go_wp2
          go_quiet ((go_at_call 74; exact Calls.quiet_of_same ((cmpI_any x x _).mono fun _ _ ⟨h1, h2⟩ => ⟨by rw [HE.out] at h1; exact h1, h2.symm⟩)))
          go_wp2
          go_roundw
          case rel => exact ⟨k + 1, by omega, by omega, by go_num, hkp.drewN _, HF.out⟩
          case measure => simp [intOf]; omega
      · first
        | (have hk1 : ¬ (k : Int) < (L.length : Int) := by omega
           have hE : cmpI L.length M.length = cmpS L M := by
             rw [← hF]; unfold cmpI
             rw [if_pos (by omega), cmpS_end1 (by omega) (by omega)]
           have HE := Lib.hid hE
           clear hF hE hlt
           go_wp2_with fail
           refine (cmpI_any _ _ _).mono ?_
           rintro e w' ⟨rfl, rfl⟩
           rw [HE.out]
           go_wp2
           go_ret
           exact ⟨rfl, hkp⟩)
        | (have hk1 : ¬ (k : Int) < (M.length : Int) := by omega
           have hE : cmpI L.length M.length = cmpS L M := by
             rw [← hF]; unfold cmpI
             by_cases he : M.length < L.length
             · rw [if_neg (by omega), if_pos (by omega), cmpS_end2 (by omega) (by omega)]
             · rw [if_neg (by omega), if_neg (by omega), cmpS_end0 (by omega) (by omega)]
           have HE := Lib.hid hE
           clear hF hE hlt
           go_wp2_with fail
           refine (cmpI_any _ _ _).mono ?_
           rintro e w' ⟨rfl, rfl⟩
           rw [HE.out]
           go_wp2
           go_ret
           exact ⟨rfl, hkp⟩)
end Go.Proofs.YtlgbmkdeamgpkaaGreatDoor

/- The program's stamps: Compare by contract. No condition beyond what each theorem states. -/
namespace Go.Proofs.YtlgbmkdeamgpkaaGreatDoor
open Go Go.RowKit Go.PlainAid
theorem compareS_any (v u : Value) (L M : List Int) (w : World) (hv : ArgInts w v L) (hu : ArgInts w u M) (hl : L.length ≤ maxLen) (hm : M.length ≤ maxLen) :
    Calls Tryz.prog 20 #[v, u] w fun e w' => e = .returned (.int .i64 (cmpS L M)) ∧ Kp No w w' := by
  have HV := Lib.hid hv; have HU := Lib.hid hu
  clear hv hu
  go_enter Tryz.func20, Tryz.ntmps20
  go_wp2_with fail
  refine (inOrder_any _ _ _ _ _ HV.out HU.out hl hm).mono ?_
  rintro e w' ⟨rfl, hk⟩
  go_wp2
  go_ret
  exact ⟨rfl, hk⟩
end Go.Proofs.YtlgbmkdeamgpkaaGreatDoor

/- A gate in memory; its Count and High by contract. No condition beyond what each theorem states. -/
namespace Go.Proofs.YtlgbmkdeamgpkaaGreatDoor
open Go Go.RowKit Go.PlainAid

/-- the cells of a gate's struct -/
def gtC (n : Int) (db : Nat) (hv : Value) (g : Gat) : List Value := [.int .i64 n, .pointer (some ⟨db, 0, none⟩), hv, .int .i64 (g.seq : Int), .bool g.dead]
/-- a gate in memory: its list lies in blocks of P -/
def GtB (w : World) (P : Nat → Prop) (gb db : Nat) (n : Int) (g : Gat) : Prop := ∃ hv, Bk w gb 78 (gtC n db hv g) ∧ SlI w hv g.high ∧ ∀ q, hv.ownBlock = some q → P q
theorem GtB.kp {w w' : World} {P : Nat → Prop} {gb db : Nat} {n : Int} {g : Gat} {M : Nat → Prop} (h : GtB w P gb db n g) (hk : Kp M w w') (h1 : ¬ M gb) (h2 : ∀ q cs, Bk w q 3 cs → P q → ¬ M q) : GtB w' P gb db n g := by
  obtain ⟨hv, hb, hs, hp⟩ := h
  refine ⟨hv, hb.kp hk h1, ?_, hp⟩
  obtain ⟨A, c, e, hc, hs⟩ := hs
  refine ⟨A, c, e, hc, fun hx => ?_⟩
  obtain ⟨q, o, cs, e2, hq, hr⟩ := hs hx
  have hm : ¬ M q := h2 q cs hq (hp q (by rw [e, e2]; rfl))
  exact ⟨q, o, cs, e2, hq.kp hk hm, range_kp hr hk hm⟩
theorem GtB.no {w w' : World} {P : Nat → Prop} {gb db : Nat} {n : Int} {g : Gat} (h : GtB w P gb db n g) (hk : Kp No w w') : GtB w' P gb db n g := h.kp hk (fun m => m) fun _ _ _ _ m => m
theorem GtB.mono {w : World} {P Q : Nat → Prop} {gb db : Nat} {n : Int} {g : Gat} (h : GtB w P gb db n g) (hp : ∀ q, P q → Q q) : GtB w Q gb db n g := by
  obtain ⟨hv, hb, hs, hq⟩ := h
  exact ⟨hv, hb, hs, fun q e => hp q (hq q e)⟩
theorem GtB.lt {w : World} {P : Nat → Prop} {gb db : Nat} {n : Int} {g : Gat} (h : GtB w P gb db n g) : gb < w.heap.size := by
  obtain ⟨hv, hb, _⟩ := h; exact hb.lt
theorem GtB.bk {w : World} {P : Nat → Prop} {gb db : Nat} {n : Int} {g : Gat} (h : GtB w P gb db n g) : ∃ cs, Bk w gb 78 cs := by
  obtain ⟨hv, hb, _⟩ := h; exact ⟨_, hb⟩
theorem Dk.kp {w w' : World} {b sb cap : Nat} {L : List (List UInt8)} {wr : Int} {ar : Bool} {lf : Int} {off : Bool} {M : Nat → Prop} (h : Dk w b sb cap L wr ar lf off) (hk : Kp M w w') (h1 : ¬ M b) (h2 : ¬ M sb) : Dk w' b sb cap L wr ar lf off :=
  ⟨h.st.kp hk h1, by obtain ⟨sp, hs⟩ := h.se; exact ⟨sp, hs.kp hk h2⟩, h.le, h.n1, h.n2⟩
theorem Dk.no {w w' : World} {b sb cap : Nat} {L : List (List UInt8)} {wr : Int} {ar : Bool} {lf : Int} {off : Bool} (h : Dk w b sb cap L wr ar lf off) (hk : Kp No w w') : Dk w' b sb cap L wr ar lf off := h.kp hk (fun m => m) fun m => m
set_option maxHeartbeats 400000 in
theorem count_any (gb db : Nat) (n : Int) (g : Gat) (P : Nat → Prop) (w : World) (h : GtB w P gb db n g) : Calls Tryz.prog 23 #[.pointer (some ⟨gb, 0, none⟩)] w fun e w' => e = .returned (.int .i64 (g.seq : Int)) ∧ w = w' := by
  obtain ⟨hv, hb, _⟩ := h
  have z3 : w.cell? ⟨gb, 3, none⟩ = some (.int .i64 (g.seq : Int)) := hb.cell 3
  clear hb
  go_enter Tryz.func23, Tryz.ntmps23
  go_wp2
  go_ret
  exact ⟨rfl, rfl⟩
set_option maxHeartbeats 400000 in
theorem count_nil (w : World) : Calls Tryz.prog 23 #[.pointer none] w fun e w' => e = .returned (.int .i64 0) ∧ w = w' := by
  go_enter Tryz.func23, Tryz.ntmps23
  go_wp2
  go_ret
  exact ⟨rfl, rfl⟩
def HighR (W : World) (L : List Int) (e : Ending) (w' : World) : Prop := ∃ sv, e = .returned sv ∧ w'.ownsRow W.heap.size 3 1 sv L.length (ints L) ∧ Kp No W w'
set_option maxHeartbeats 1000000 in
theorem high_any (gb db : Nat) (n : Int) (g : Gat) (P : Nat → Prop) (W : World) (h : GtB W P gb db n g) (hl : g.high.length ≤ 4) : Calls Tryz.prog 18 #[.pointer (some ⟨gb, 0, none⟩)] W (HighR W g.high) := by
  obtain ⟨hv, hb, hs, _⟩ := h
  have HS := Lib.hid hs.arg
  obtain ⟨A, c, rfl, _⟩ := hs
  have z2 : W.cell? ⟨gb, 2, none⟩ = some (.slice A g.high.length c) := hb.cell 2
  clear hb
  go_enter Tryz.func18, Tryz.ntmps18
  go_wp2_with (at_builtin; refine (wpList_appV _ rfl _ _ 31 rfl W.heap.size 3 _ 8 Tryz.underlying31 Tryz.infoI rfl _ 0 [] rfl (nil_own _ _ _ _) A g.high.length c (ints g.high) rfl (by simp) HS.out.cs.1 (ints_one _) (by omega) (by omega) (Nat.le_refl _) ?_); intro v1 w1 o1 k1 n1; rw [Nat.zero_add, List.nil_append] at o1; have HO := Lib.hid o1; have HK := Lib.hid (show Kp No W w1 from k1.mono (fun _ _ h => by cases h)); clear o1 k1 n1)
  obtain ⟨A1, c1, rfl, _⟩ := own_len HO.out
  go_wp2
  go_ret
  exact ⟨_, rfl, HO.out, HK.out⟩
set_option maxHeartbeats 400000 in
theorem high_nil (w : World) : Calls Tryz.prog 18 #[.pointer none] w fun e w' => e = .returned (.slice none 0 0) ∧ w = w' := by
  go_enter Tryz.func18, Tryz.ntmps18
  go_wp2
  go_ret
  exact ⟨rfl, rfl⟩
end Go.Proofs.YtlgbmkdeamgpkaaGreatDoor

/- A gate begins on its disk: Start by contract. No condition beyond what each theorem states. -/
namespace Go.Proofs.YtlgbmkdeamgpkaaGreatDoor
open Go Go.RowKit Go.PlainAid

def upG (L : List (List UInt8)) : Nat → List Int × Nat
  | 0 => ([], 0)
  | k + 1 => lateG (upG L k) (markG (L.getD k []) k)
theorem upG_two (L : List (List UInt8)) : upG L 2 = startG L := rfl
theorem sect_arg {w : World} {g : Nat} {l : List UInt8} (h : Bk w g 91 (u8s l)) (hl : l.length = 64) : ArgB w (.slice (some ⟨g, 0, none⟩) 64 64) l :=
  ⟨some ⟨g, 0, none⟩, 64, by rw [hl], by omega, fun _ => ⟨g, 0, rfl, range_all h⟩⟩
set_option maxHeartbeats 400000 in
theorem start_range (n : Int) (dv : Option Addr) (w : World) (h : n < 8 ∨ 12 ≤ n) : Calls Tryz.prog 11 #[.int .i64 n, .pointer dv] w fun e w' => e = .returned (.tuple #[.pointer none, .int .i64 2]) ∧ w = w' := by
  go_enter Tryz.func11, Tryz.ntmps11
  rcases h with h | h
  · go_wp2
    go_ret2
    exact ⟨rfl, rfl⟩
  · have h1 : ¬ n < 8 := by omega
    go_wp2
    go_ret2
    exact ⟨rfl, rfl⟩
set_option maxHeartbeats 400000 in
theorem start_nil (n : Int) (w : World) (h1 : 8 ≤ n) (h2 : n < 12) : Calls Tryz.prog 11 #[.int .i64 n, .pointer none] w fun e w' => e = .returned (.tuple #[.pointer none, .int .i64 1]) ∧ w = w' := by
  have d1 : ¬ n < 8 := by omega
  have d2 : ¬ 12 ≤ n := by omega
  go_enter Tryz.func11, Tryz.ntmps11
  go_wp2
  go_ret2
  exact ⟨rfl, rfl⟩
set_option maxHeartbeats 400000 in
theorem start_small (n : Int) (db sb cap : Nat) (L : List (List UInt8)) (wr : Int) (ar : Bool) (lf : Int) (off : Bool) (w : World) (h : Dk w db sb cap L wr ar lf off) (h1 : 8 ≤ n) (h2 : n < 12) (hL : L.length < 2) :
    Calls Tryz.prog 11 #[.int .i64 n, .pointer (some ⟨db, 0, none⟩)] w fun e w' => e = .returned (.tuple #[.pointer none, .int .i64 41]) ∧ w = w' := by
  have d1 : ¬ n < 8 := by omega
  have d2 : ¬ 12 ≤ n := by omega
  have d3 : (L.length : Int) < 2 := by omega
  have hst := h.st
  go_enter Tryz.func11, Tryz.ntmps11
  go_wp2_with (go_at_call 37; refine (len_any db _ _ _ _ wr ar lf off hst).mono ?_; rintro e w' ⟨rfl, rfl⟩)
  go_ret2
  exact ⟨rfl, rfl⟩
def StartR (W : World) (db : Nat) (n : Int) (L : List (List UInt8)) (e : Ending) (w' : World) : Prop :=
  ∃ gb, e = .returned (.tuple #[.pointer (some ⟨gb, 0, none⟩), .int .i64 0]) ∧ W.heap.size ≤ gb ∧ GtB w' (fun q => W.heap.size ≤ q ∧ q < w'.heap.size) gb db n ⟨(startG L).1, (startG L).2, false⟩ ∧ Kp No W w'
set_option maxRecDepth 100000 in
set_option maxHeartbeats 2000000 in
theorem start_any (n : Int) (db sb cap : Nat) (L : List (List UInt8)) (wt : Int) (ar : Bool) (lf : Int) (W : World) (h : Dk W db sb cap L wt ar lf false) (h1 : 8 ≤ n) (h2 : n < 12) (hL : 2 ≤ L.length) :
    Calls Tryz.prog 11 #[.int .i64 n, .pointer (some ⟨db, 0, none⟩)] W (StartR W db n L) := by
  have d1 : ¬ n < 8 := by omega
  have d2 : ¬ 12 ≤ n := by omega
  have d3 : ¬ (L.length : Int) < 2 := by omega
  have hst := h.st
  have HD := Lib.hid h
  clear h h1 h2
  go_enter Tryz.func11, Tryz.ntmps11
  go_wp2_with fail
  refine (len_any db _ _ _ _ wt ar lf false hst).mono ?_
  rintro e w' ⟨rfl, rfl⟩
  clear hst
  have HB := Lib.hid (show Bk (W.alloc (.cells (gtC n db (.slice none 0 0) ⟨[], 0, false⟩).toArray 78)) W.heap.size 78 (gtC n db (.slice none 0 0) ⟨[], 0, false⟩) from Bk.new' rfl rfl)
  have HK := Lib.hid ((Kp.refl No W).alloc (.cells (gtC n db (.slice none 0 0) ⟨[], 0, false⟩).toArray 78))
  unfold gtC at HB HK
  go_wp2
  go_loopw [30] (fun i wr => ∃ (k : Nat) (hv : Value), k ≤ 2 ∧ i = .int .i64 k ∧ Bk wr W.heap.size 78 (gtC n db hv ⟨(upG L k).1, (upG L k).2, false⟩) ∧ wr.ownsRow W.heap.size 3 1 hv (upG L k).1.length (ints (upG L k).1) ∧ Kp No W wr) (fun i _ => 2 - (intOf i).toNat)
  case atStart => exact ⟨0, _, Nat.zero_le _, rfl, HB.out, nil_own _ _ _ _, HK.out⟩
  case round =>
  obtain ⟨k, hv, hk, rfl, hb, ho, hkp⟩ := hrel
  clear HB HK
  have HB := Lib.hid hb; have HO := Lib.hid ho; have HK := Lib.hid hkp
  obtain ⟨A, c, rfl, _⟩ := own_len ho
  have hsz : W.heap.size < wr.heap.size := hb.lt
  clear hb ho hkp
  by_cases hlt : k < 2
  · have hk1 : (k : Int) < 2 := by omega
    have hkL : k < L.length := by omega
    have HU := Lib.hid (show upG L (k + 1) = lateG (upG L k) (markG L[k] k) from by
      show lateG (upG L k) (markG (L.getD k []) k) = _
      rw [List.getD_eq_getElem?_getD, List.getElem?_eq_getElem hkL, Option.getD_some])
    have h64 : L[k].length = 64 := HD.out.le _ (List.getElem_mem hkL)
    have pr := dread_any db sb cap k wr L wt ar lf (HD.out.no HK.out) hkL
    go_wp2_with fail
    refine pr.mono ?_
    rintro e w3 ⟨g, rfl, hbg, hg, k3⟩
    have pm := mark_any (some ⟨g, 0, none⟩) 64 64 L[k] k w3 (sect_arg hbg h64) (by unfold maxLen; omega)
    have HK3 := Lib.hid k3
    have h33 : wr.heap.size ≤ w3.heap.size := k3.size
    clear pr hbg k3 hg
    go_wp2_with fail
    refine pm.mono ?_
    rintro e w4 ⟨sv, rfl, ho4, k4⟩
    obtain ⟨S, sc, rfl, _⟩ := own_len ho4
    have HK4 := Lib.hid ((HK.out.trans HK3.out).trans k4)
    have hb4 := (HB.out.no HK3.out).no k4
    have HO4 := Lib.hid (own_low ho4 (show W.heap.size ≤ w3.heap.size from by omega))
    have HOA := Lib.hid (own_kp (own_kp HO.out HK3.out fun _ _ m => m) k4 fun _ _ m => m)
    have z3 : w4.cell? ⟨W.heap.size, 3, none⟩ = some (.int .i64 ((upG L k).2 : Int)) := hb4.cell 3
    have z2 : w4.cell? ⟨W.heap.size, 2, none⟩ = some (.slice A (upG L k).1.length c) := hb4.cell 2
    have f2 := hb4.frozen 2
    have f3 := hb4.frozen 3
    have HB4 := Lib.hid hb4
    clear pm ho4 k4 hb4 HB HO HK HK3
    generalize hm : markG L[k] k = mk at *
    clear hm
    by_cases hq : (upG L k).2 < mk.2
    · have d4 : ((upG L k).2 : Int) < (mk.2 : Int) := by omega
      have HN := Lib.hid (show upG L (k + 1) = mk from by rw [HU.out]; unfold lateG; rw [if_pos hq])
      have HB5 := Lib.hid ((HB4.out.set_ 2 (.slice S mk.1.length sc)).set_ 3 (.int .i64 (mk.2 : Int)))
      have hk5 : Kp (One W.heap.size) w4 ((w4.setCell ⟨W.heap.size, 2, none⟩ (.slice S mk.1.length sc)).setCell ⟨W.heap.size, 3, none⟩ (.int .i64 (mk.2 : Int))) := ((Kp.refl (One W.heap.size) w4).set (.inl rfl) 2 _).set (.inl rfl) 3 _
      have HO5 := Lib.hid (own_kp HO4.out hk5 fun q e m => by
        have m : q = W.heap.size := m
        exact own_ne HO4.out HB4.out (by decide) (by rw [e, m]))
      have HK5 := Lib.hid ((HK4.out.set (.inr (Nat.le_refl _)) 2 (.slice S mk.1.length sc)).set (.inr (Nat.le_refl _)) 3 (.int .i64 (mk.2 : Int)))
      clear hk5 hq
      go_wp2
      go_roundw
      case rel => exact ⟨k + 1, _, by omega, by go_num, by rw [HN.out]; exact HB5.out, by rw [HN.out]; exact HO5.out, HK5.out⟩
      case measure => simp [intOf]; omega
    · have d4 : ¬ ((upG L k).2 : Int) < (mk.2 : Int) := by omega
      have HN := Lib.hid (show upG L (k + 1) = upG L k from by rw [HU.out]; unfold lateG; rw [if_neg hq])
      clear hq
      go_wp2
      go_roundw
      case rel => exact ⟨k + 1, _, by omega, by go_num, by rw [HN.out]; exact HB4.out, by rw [HN.out]; exact HOA.out, HK4.out⟩
      case measure => simp [intOf]; omega
  · have hk1 : ¬ (k : Int) < 2 := by omega
    obtain rfl : k = 2 := by omega
    have HF := Lib.hid (show StartR W db n L (.returned (.tuple #[.pointer (some ⟨W.heap.size, 0, none⟩), .int .i64 0])) wr from
      ⟨_, rfl, Nat.le_refl _, ⟨_, HB.out, own_slI HO.out, fun q e => by
        rcases HO.out.2 with ⟨e2, _⟩ | ⟨g', cap, cur, e2, hg, _⟩
        · rw [e2] at e; simp [Value.ownBlock] at e
        · rw [e2] at e
          have : g' = q := by simpa [Value.ownBlock] using e
          subst this
          obtain ⟨cs, hcs⟩ := own_bkD HO.out (show (Value.slice A (upG L 2).1.length c).ownBlock = some g' from by rw [e2]; rfl) |>.2
          exact ⟨hg, hcs.lt⟩⟩, HK.out⟩)
    go_wp2
    go_ret2
    exact HF.out
end Go.Proofs.YtlgbmkdeamgpkaaGreatDoor

/- The disk's Write by one contract. No condition beyond what each theorem states. -/
namespace Go.Proofs.YtlgbmkdeamgpkaaGreatDoor
open Go Go.RowKit Go.PlainAid

/-- a disk in memory, in plain words -/
def DkB (w : World) (db sb cap : Nat) (d : Dsk) : Prop := Dk w db sb cap d.L d.wr d.ar d.lf d.off ∧ (d.ar = true → 0 ≤ d.lf ∧ d.lf < 9223372036854775808) ∧ 0 ≤ d.wr
theorem DkB.kp {w w' : World} {b sb cap : Nat} {d : Dsk} {M : Nat → Prop} (h : DkB w b sb cap d) (hk : Kp M w w') (h1 : ¬ M b) (h2 : ¬ M sb) : DkB w' b sb cap d := ⟨h.1.kp hk h1 h2, h.2⟩
theorem DkB.no {w w' : World} {b sb cap : Nat} {d : Dsk} (h : DkB w b sb cap d) (hk : Kp No w w') : DkB w' b sb cap d := ⟨h.1.no hk, h.2⟩
theorem dwrite_any (db sb cap i g o k : Nat) (x : List UInt8) (w : World) (d : Dsk) (h : DkB w db sb cap d) (hi : i < d.L.length) (hx : x.length = 64) (hr : w.rangeAt g o (u8s x)) (hg : g ≠ sb) (hgb : g ≠ db) (w1 : d.wr < 4611686018427387904) :
    Calls Tryz.prog 69 #[.pointer (some ⟨db, 0, none⟩), .int .i64 (i : Int), .slice (some ⟨g, o, none⟩) 64 k] w fun e w' => e = .returned (.int .i64 (dwriteG d i x).2) ∧ DkB w' db sb cap (dwriteG d i x).1 ∧ Kp (fun q => q = db ∨ q = sb) w w' := by
  obtain ⟨h, al, w0⟩ := h
  obtain ⟨L, wr, ar, lf, off⟩ := d
  simp only at h al w0 hi w1
  have hi2 : (0 : Int) ≤ (i : Int) ∧ (i : Int) < (L.length : Int) := by omega
  cases off with
  | true =>
    have hf : faultN true (i : Int) L.length = 40 := rfl
    refine (write_fault db (i : Int) _ w _ _ _ wr ar lf true h.st (by rw [hf]; decide)).mono ?_
    rintro e w' ⟨rfl, rfl⟩
    rw [hf]
    exact ⟨rfl, ⟨h, al, w0⟩, Kp.refl _ _⟩
  | false =>
    have hf : faultN false (i : Int) L.length = 0 := by unfold faultN; simp [hi2.1, hi]
    cases ar with
    | true =>
      obtain ⟨l0, l1⟩ := al rfl
      by_cases hz : lf = 0
      · subst hz
        refine (write_cut db (i : Int) _ k w _ _ _ wr h.st hf).mono ?_
        rintro e w' ⟨rfl, hb, hk⟩
        have hne : db ≠ sb := by obtain ⟨sp, hs⟩ := h.se; exact h.st.ne_ hs (by decide)
        refine ⟨rfl, ⟨⟨hb, ?_, h.le, h.n1, h.n2⟩, (fun e => by cases e), w0⟩, hk.mono fun q _ e => .inl e⟩
        obtain ⟨sp, hs⟩ := h.se
        exact ⟨sp, hs.kp hk fun e => hne (Eq.symm e)⟩
      · have e1 : dwriteG ⟨L, wr, true, lf, false⟩ i x = (⟨L.set i x, wr + 1, true, lf - 1, false⟩, 0) := by unfold dwriteG; simp [hz]
        rw [e1]
        refine (write_armed db sb cap i g o k x w L wr lf h (by omega) l1 hi hx hr hg hgb w0 w1).mono ?_
        rintro e w' ⟨rfl, hd, hk⟩
        exact ⟨rfl, ⟨hd, fun _ => by show 0 ≤ lf - 1 ∧ lf - 1 < _; omega, by show 0 ≤ wr + 1; omega⟩, hk⟩
    | false =>
      have e1 : dwriteG ⟨L, wr, false, lf, false⟩ i x = (⟨L.set i x, wr + 1, false, lf, false⟩, 0) := by unfold dwriteG; simp
      rw [e1]
      refine (write_free db sb cap i g o k x w L wr lf h hi hx hr hg w0 w1).mono ?_
      rintro e w' ⟨rfl, hd, hk⟩
      exact ⟨rfl, ⟨hd, (fun e => by cases e), by show 0 ≤ wr + 1; omega⟩, hk⟩
end Go.Proofs.YtlgbmkdeamgpkaaGreatDoor

/- The disk's From by contract; lists of bytes that are only read. No condition beyond what each theorem states. -/
namespace Go.Proofs.YtlgbmkdeamgpkaaGreatDoor
open Go.RowKit

/-- a list of bytes, nil or not, read only -/
def ArgBytes (w : World) (x : Value) (l : List UInt8) : Prop := ∃ A c, x = .slice A l.length c ∧ Cs w A (u8s l)
/-- a list of lists of bytes, read only -/
def ArgRows (w : World) (v : Value) (L : List (List UInt8)) : Prop := ∃ A c xs, v = .slice A L.length c ∧ xs.length = L.length ∧ Cs w A xs ∧ ∀ i (h : i < L.length), ∃ x, xs[i]? = some x ∧ ArgBytes w x L[i]

theorem range_no {w w' : World} {g o : Nat} {xs : List Value} (h : w.rangeAt g o xs) (hk : Kp No w w') : w'.rangeAt g o xs := fun j v hv => by
  have := h j v hv
  have hlt := World.block_lt_of_cell? w _ this
  rw [World.cell?_of_block (w := w) (hk.block g hlt (fun m => m))]; exact this
theorem Cs.no {w w' : World} {A : Option Addr} {xs : List Value} (h : Cs w A xs) (hk : Kp No w w') : Cs w' A xs := fun hx => by
  obtain ⟨g, o, e, hr⟩ := h hx
  exact ⟨g, o, e, range_no hr hk⟩
theorem ArgBytes.no {w w' : World} {x : Value} {l : List UInt8} (h : ArgBytes w x l) (hk : Kp No w w') : ArgBytes w' x l := by
  obtain ⟨A, c, e, hr⟩ := h
  exact ⟨A, c, e, hr.no hk⟩
theorem ArgRows.no {w w' : World} {v : Value} {L : List (List UInt8)} (h : ArgRows w v L) (hk : Kp No w w') : ArgRows w' v L := by
  obtain ⟨A, c, xs, e, hl, hr, hx⟩ := h
  refine ⟨A, c, xs, e, hl, hr.no hk, fun i hi => ?_⟩
  obtain ⟨x, h1, h2⟩ := hx i hi
  exact ⟨x, h1, h2.no hk⟩
theorem ByteRow.arg {w : World} {B : Nat} {av : Option Nat} {t : TypeId} {x : Value} {l : List UInt8} (h : ByteRow w B av t x l) : ArgBytes w x l := by
  obtain ⟨g, c, sp, e, hc, hb, ha, hbk⟩ := h
  refine ⟨_, c, e, fun _ => ⟨g, 0, rfl, ?_⟩⟩
  have := hbk.range 0 l.length
  rw [List.drop_zero, List.take_left' (by simp)] at this
  exact this
theorem RowsOf.arg {w : World} {B : Nat} {v : Value} {L : List (List UInt8)} {t : TypeId} (h : RowsOf w B v L t) : ArgRows w v L := by
  obtain ⟨xs, hown, hrows⟩ := h
  have hl : xs.length = L.length := by have := hown.1; omega
  rcases hown.2 with ⟨rfl, h0⟩ | ⟨g, cap, cur, rfl, hb, hh, h1, h2, h3, h4⟩
  · refine ⟨Option.none, 0, xs, by rw [h0], hl, fun hx => absurd (List.eq_nil_of_length_eq_zero (by omega)) hx, fun i hi => ?_⟩
    obtain ⟨x, hx, hr⟩ := hrows i hi
    exact ⟨x, hx, hr.arg⟩
  · refine ⟨_, cap, xs, rfl, hl, fun hx => ⟨g, 0, rfl, fun j v hv => ?_⟩, fun i hi => ?_⟩
    · have := hown.cells (g := g) rfl j v hv
      rwa [Addr.add_mid] at this
    · obtain ⟨x, hx, hr⟩ := hrows i hi
      exact ⟨x, hx, hr.arg⟩

theorem Cs.get {w : World} {A : Option Addr} {xs : List Value} (h : Cs w A xs) {i : Nat} {x : Value} (hx : xs[i]? = some x) : ∃ g o, A = some ⟨g, o, none⟩ ∧ w.cell? ⟨g, o + i, none⟩ = some x := by
  obtain ⟨g, o, e, hr⟩ := h (by intro e; subst e; simp at hx)
  exact ⟨g, o, e, hr i x hx⟩

set_option maxHeartbeats 1000000 in
theorem from_no (A : Option Addr) (n c : Nat) (h : n < 1 ∨ 512 < n) (w : World) :
    Calls Tryz.prog 34 #[.slice A n c] w fun e w' => e = .returned (.tuple #[.pointer Option.none, .int .i64 2]) ∧ w = w' := by
  have hd : decide (1 ≤ (n : Int) ∧ (n : Int) ≤ 512) = false := by simp; omega
  have Hd := Lib.hid hd; clear hd
  go_enter Tryz.func34, Tryz.ntmps34
  go_wp2_with fail
  refine (fits_any _ _).mono ?_
  rw [Hd.out]
  rintro e w' ⟨rfl, rfl⟩
  go_wp2
  go_ret2
  exact ⟨rfl, rfl⟩
/-- the first sectors of a list, all of the right length -/
def Good (L : List (List UInt8)) : Prop := ∀ l ∈ L, l.length = 64
instance (L : List (List UInt8)) : Decidable (Good L) := by unfold Good; infer_instance

theorem ArgRows.at_ {w : World} {v : Value} {L : List (List UInt8)} (h : ArgRows w v L) : ∃ A c, v = .slice A L.length c ∧ ∀ k (hk : k < L.length), ∃ g o B d, A = some ⟨g, o, none⟩ ∧ w.cell? ⟨g, o + k, none⟩ = some (.slice B L[k].length d) ∧ Cs w B (u8s L[k]) := by
  obtain ⟨A, c, xs, rfl, hl, hr, hx⟩ := h
  refine ⟨A, c, rfl, fun k hk => ?_⟩
  obtain ⟨x, h1, B, d, rfl, h2⟩ := hx k hk
  obtain ⟨g, o, e, hc⟩ := hr.get h1
  exact ⟨g, o, B, d, e, hc, h2⟩

/-- the own row of sectors that From fills -/
structure Secs (w : World) (B : Nat) (v : Value) (L : List (List UInt8)) : Prop where
  own : w.ownsRow B 91 64 v L.length (secC L)
  le : Good L
theorem agg_cells (xs : List Value) : (Value.agg xs.toArray).cells = xs.toArray := rfl


set_option maxRecDepth 100000 in
set_option maxHeartbeats 4000000 in
theorem from_any (v : Value) (L : List (List UInt8)) (w : World) (hv : ArgRows w v L) (h1 : 1 ≤ L.length) (h2 : L.length ≤ 512) :
    Calls Tryz.prog 34 #[v] w fun e w' => Kp No w w' ∧ (¬ Good L → e = .returned (.tuple #[.pointer Option.none, .int .i64 2])) ∧
      (Good L → ∃ b sb cap, e = .returned (.tuple #[.pointer (some ⟨b, 0, none⟩), .int .i64 0]) ∧ w.heap.size ≤ b ∧ w.heap.size ≤ sb ∧ DkB w' b sb cap { L := L }) := by
  have hd : decide (1 ≤ (L.length : Int) ∧ (L.length : Int) ≤ 512) = true := by simp; omega
  have Hd := Lib.hid hd; clear hd
  obtain ⟨A, c, rfl, hx⟩ := hv.at_
  have HX := Lib.hid hx; clear hx hv
  go_enter Tryz.func34, Tryz.ntmps34
  go_wp2_with fail
  refine (fits_any _ _).mono ?_
  rw [Hd.out]
  rintro e w' ⟨rfl, rfl⟩
  go_wp2
  go_loopw [15] (fun i wr => ∃ k : Nat, k ≤ L.length ∧ i = .int .i64 k ∧ Kp No w wr ∧ ∃ v, Bk wr w.heap.size 76 (dkCells v 0 false 0 false) ∧ Secs wr w.heap.size v (L.take k)) (fun i _ => L.length - (intOf i).toNat)
  case atStart => exact ⟨0, Nat.zero_le _, rfl, (Kp.refl _ _).alloc _, _, Bk.new' rfl rfl, World.ownsRow_nil _ _ _ _, by intro l hl; simp at hl⟩
  case round =>
    obtain ⟨k, hk, rfl, hkp, v, hb, ⟨hown, hle⟩⟩ := hrel
    by_cases hlt : k < L.length
    · obtain ⟨g, o, B, d, rfl, hcx, hcs⟩ := HX.out k hlt
      have hc1 : wr.cell? ⟨g, o + k, none⟩ = some (.slice B L[k].length d) := by
        rw [World.cell?_of_block (w := w) (hkp.block g (World.block_lt_of_cell? w _ hcx) (fun m => m))]; exact hcx
      have hcs1 := hcs.no hkp
      have hglt : L[k] ≠ [] → ∀ g2 o2, B = some ⟨g2, o2, none⟩ → g2 < w.heap.size := fun hne g2 o2 hB => by
        obtain ⟨g3, o3, e3, hr3⟩ := hcs (by simpa [u8s] using hne)
        rw [hB] at e3; injection e3 with e3; injection e3 with e3
        subst e3; exact range_lt hr3 (by rw [u8s_length]; exact List.length_pos_iff.2 hne)
      clear hcs hcx
      have hk0 : (0 : Int) ≤ (k : Int) := by omega
      have hk1 : (k : Int) < (L.length : Int) := by omega
      have hlen : (L.take k).length = k := by simp; omega
      generalize hl : L[k] = l at *
      have HLk := Lib.hid hl; clear hl
      by_cases h64 : l.length = 64
      · have hne64 : ((l.length : Int) != 64) = false := by simp; omega
        obtain ⟨g2, o2, rfl, hra⟩ := hcs1 (by intro e; have := u8s_length l; rw [e] at this; simp at this; omega)
        have hg2 := hglt (by intro e; rw [e] at h64; simp at h64) g2 o2 rfl
        clear hglt
        have hxl : (u8s l).length = 64 := by rw [u8s_length, h64]
        have hx1 := u8s_one l
        generalize hxs : u8s l = xs at *
        have HX2 := Lib.hid hxs; clear hxs
        have hsz : (Tryz.prog.info? 91).map (·.size) = some xs.length := by rw [hxl]; exact u61
        rw [h64] at hc1 hne64
        have harr : ∀ W : World, (Instr.arrayAt 91 (.slice (some ⟨g2, o2, none⟩) 64 d)).run Tryz.prog W = .ok (.pointer (some ⟨g2, o2, none⟩)) W := arr61 g2 o2 d
        have hne := own_ne hown hb (by decide)
        have hbase : w.heap.size ≤ wr.heap.size := hkp.size
        rw [hlen] at hown
        have h0 : wr.cell? ⟨w.heap.size, 0, none⟩ = some v := hb.cell 0
        have hf := hb.frozen 0
        have ha1 : ∀ o, (wr.alloc o).cell? ⟨w.heap.size, 0, none⟩ = some v := fun o => (hb.alloc o).cell 0
        have HL := Lib.hid hlen; clear hlen
        have hbs := fun W => run_buildOne (P := Tryz.prog) 74 91 _ 64 64 Tryz.underlying74 Tryz.infoSec (by omega) (by omega) (.agg xs.toArray) xs rfl hxl W
        go_wp2
        have hF : (fun W : World => W.cell? ⟨w.heap.size, 0, none⟩ = some v ∧ W.rangeAt g2 o2 xs) wr.drew := ⟨h0, hra⟩
        refine rg_begin (fun W => W.cell? ⟨w.heap.size, 0, none⟩ = some v ∧ W.rangeAt g2 o2 xs) 12 (by kernel_rfl) ?_
        refine rg_take (i := 0) (v := ?vx0) (by simp only [List.getElem?_toArray, List.getElem?_cons_zero]; rfl) (by kernel_rfl) (by exact fun _ _ _ h => h) (by rfl) ?rx0 hF ?sx0
        case rx0 => (intro W hW; clear hW; go_simp; try with_reducible rfl)
        try simp only [Act.put, List.setIfInBounds_toArray, List.set_cons_zero, List.set_cons_succ]
        refine rg_take (i := 1) (v := ?vx1) (by simp only [List.getElem?_toArray, List.getElem?_cons_succ, List.getElem?_cons_zero]; rfl) (by kernel_rfl) (by exact fun _ _ _ h => h) (by rfl) ?rx1 hF ?sx1
        case rx1 => (intro W hW; clear hW; go_simp; try with_reducible rfl)
        try simp only [Act.put, List.setIfInBounds_toArray, List.set_cons_zero, List.set_cons_succ]
        refine rg_take (i := 2) (v := ?vx2) (by simp only [List.getElem?_toArray, List.getElem?_cons_succ, List.getElem?_cons_zero]; rfl) (by kernel_rfl) (by exact fun _ _ _ h => h) (by rfl) ?rx2 hF ?sx2
        case rx2 => (intro W hW; clear hW; go_simp; try with_reducible rfl)
        try simp only [Act.put, List.setIfInBounds_toArray, List.set_cons_zero, List.set_cons_succ]
        refine rg_take (i := 3) (v := ?vx3) (by simp only [List.getElem?_toArray, List.getElem?_cons_succ, List.getElem?_cons_zero]; rfl) (by kernel_rfl) (by exact fun _ _ _ h => h) (by rfl) ?rx3 hF ?sx3
        case rx3 => (intro W hW; clear hW; go_simp; try with_reducible rfl)
        try simp only [Act.put, List.setIfInBounds_toArray, List.set_cons_zero, List.set_cons_succ]
        refine rg_take (i := 4) (v := ?vx4) (by simp only [List.getElem?_toArray, List.getElem?_cons_succ, List.getElem?_cons_zero]; rfl) (by kernel_rfl) (by exact fun _ _ _ h => h) (by rfl) ?rx4 hF ?sx4
        case rx4 => (intro W hW; obtain ⟨f1, f2⟩ := hW; go_simp; try with_reducible rfl)
        try simp only [Act.put, List.setIfInBounds_toArray, List.set_cons_zero, List.set_cons_succ]
        refine rg_take (i := 5) (v := ?vx5) (by simp only [List.getElem?_toArray, List.getElem?_cons_succ, List.getElem?_cons_zero]; rfl) (by kernel_rfl) (by exact fun _ _ _ h => h) (by rfl) ?rx5 hF ?sx5
        case rx5 => (intro W hW; clear hW; go_simp; try with_reducible rfl)
        try simp only [Act.put, List.setIfInBounds_toArray, List.set_cons_zero, List.set_cons_succ]
        refine rg_take (i := 6) (v := ?vx6) (by simp only [List.getElem?_toArray, List.getElem?_cons_succ, List.getElem?_cons_zero]; rfl) (by kernel_rfl) (by exact fun _ _ _ h => h) (by rfl) ?rx6 hF ?sx6
        case rx6 => (intro W hW; clear hW; go_simp; try with_reducible rfl)
        try simp only [Act.put, List.setIfInBounds_toArray, List.set_cons_zero, List.set_cons_succ]
        refine rg_take (i := 7) (v := .agg xs.toArray) (by simp only [List.getElem?_toArray, List.getElem?_cons_succ, List.getElem?_cons_zero]; rfl) (by kernel_rfl) (by exact fun _ _ _ h => h) (by rfl) ?rx7 hF ?sx7
        case rx7 => (intro W hW; exact exec_load_mid W 91 _ rfl g2 o2 rfl xs _ hW.2 Tryz.underlying91 rfl hsz)
        try simp only [Act.put, List.setIfInBounds_toArray, List.set_cons_zero, List.set_cons_succ]
        refine rg_one (i := 8) (by simp only [List.getElem?_toArray, List.getElem?_cons_succ, List.getElem?_cons_zero]; rfl) (by kernel_rfl) (by rfl) (fun K hK => ?_)
        refine wp_build1 74 _ rfl 91 _ 64 64 Tryz.underlying74 Tryz.infoSec (by omega) (by omega) _ rfl xs rfl hxl ?_
        refine rg_use hK ⟨(hb.drew.alloc _).cell 0, World.rangeAt_alloc hF.2 _⟩ (fun hF => ?_)
        clear hK K
        try simp only [Act.put, List.setIfInBounds_toArray, List.set_cons_zero, List.set_cons_succ]
        refine rg_one (i := 9) (by simp only [List.getElem?_toArray, List.getElem?_cons_succ, List.getElem?_cons_zero]; rfl) (by kernel_rfl) (by rfl) (fun K hK => ?_)
        refine wp_app1 _ _ _ _ rfl w.heap.size 91 _ 64 64 Tryz.underlying74 Tryz.infoSec rfl (by omega) v k (secC (L.take k)) rfl (hown.alloc _) _ _ xs rfl (Bk.new' rfl rfl) hxl hx1 (by omega) (by omega) (by simp; omega) (fun g1 cap1 w1 hown1 hk1 hat1 => ?_)
        have hb1 : Bk w1 w.heap.size 76 (dkCells v 0 false 0 false) := (hb.drew.alloc _).kp hk1 hne
        have hc1 : w1.cell? ⟨w.heap.size, 0, none⟩ = some v := hb1.cell 0
        have hf1 := hb1.frozen 0
        refine rg_use hK ⟨hc1, range_kp hF.2 hk1 (fun e => by have := hown.lt g2 e; omega)⟩ (fun hF => ?_)
        clear hK K
        try simp only [Act.put, List.setIfInBounds_toArray, List.set_cons_zero, List.set_cons_succ]
        refine rg_one (i := 10) (by simp only [List.getElem?_toArray, List.getElem?_cons_succ, List.getElem?_cons_zero]; rfl) (by kernel_rfl) (by rfl) (fun K hK => ?_)
        go_simp
        refine rg_use hK hF (fun hF => ?_)
        clear hK K
        try simp only [Act.put, List.setIfInBounds_toArray, List.set_cons_zero, List.set_cons_succ]
        refine rg_one (i := 11) (by simp only [List.getElem?_toArray, List.getElem?_cons_succ, List.getElem?_cons_zero]; rfl) (by kernel_rfl) (by rfl) (fun K hK => ?_)
        go_simp
        refine rg_use hK hF (fun hF => ?_)
        clear hK K
        try simp only [Act.put, List.setIfInBounds_toArray, List.set_cons_zero, List.set_cons_succ]
        refine rg_one (i := 12) (by simp only [List.getElem?_toArray, List.getElem?_cons_succ, List.getElem?_cons_zero]; rfl) (by kernel_rfl) (by rfl) (fun K hK => ?_)
        go_simp
        refine hK _ _ (fun h => absurd rfl h) ?_
        clear hK K
        try simp only [Act.put, List.setIfInBounds_toArray, List.set_cons_zero, List.set_cons_succ]
        refine rg_done (by kernel_rfl) ?_
        have hkp1 : Kp No w w1 := (hkp.drew.alloc _).then_ hk1 fun i hi e => by have := hown.lt i e; omega
        have hbne : (Value.slice (some ⟨g1, 0, none⟩) (k + 1) cap1).ownBlock ≠ some w.heap.size := own_ne hown1 hb1 (by decide)
        have hown2 := own_kp hown1 ((Kp.refl (One w.heap.size) _).set (.inl (One.self _)) 0 (.slice (some ⟨g1, 0, none⟩) (k + 1) cap1)) (fun g hg m => hbne (by rw [hg, m]))
        have hkp2 := hkp1.set (g := w.heap.size) (.inr (Nat.le_refl _)) 0 (.slice (some ⟨g1, 0, none⟩) (k + 1) cap1)
        have hb2 := hb1.set_ 0 (.slice (some ⟨g1, 0, none⟩) (k + 1) cap1)
        clear ha1 hown1 hk1 hat1 hc1 hf1 hb1 hkp1
        generalize w1.setCell ⟨w.heap.size, 0, none⟩ (.slice (some ⟨g1, 0, none⟩) (k + 1) cap1) = w3 at *
        go_wp2
        go_roundw
        case rel =>
          refine ⟨k + 1, by omega, by go_num, hkp2, _, hb2, ?_, ?_⟩
          · have e1 : (L.take (k + 1)).length = k + 1 := by simp; omega
            have e2 : secC (L.take (k + 1)) = secC (L.take k) ++ xs := by
              rw [List.take_add_one, List.getElem?_eq_getElem hlt, HLk.out, ← HX2.out]
              simp [secC, u8s]
            rw [e1, e2]
            exact hown2
          · intro y hy
            rw [List.take_add_one, List.getElem?_eq_getElem hlt, HLk.out] at hy
            simp only [Option.toList_some, List.mem_append, List.mem_singleton] at hy
            rcases hy with hy | rfl
            · exact hle y hy
            · exact h64
        case measure => simp [intOf]; omega
      · have hne64 : ((l.length : Int) != 64) = true := by simp; omega
        clear hlen
        go_wp2
        go_ret2
        have hng : ¬ Good L := fun hg => h64 (by rw [← HLk.out]; exact hg _ (List.getElem_mem hlt))
        exact ⟨hkp, fun _ => rfl, fun hg => absurd hg hng⟩
    · have hk' : k = L.length := by omega
      subst hk'
      rw [List.take_length] at hown hle
      go_wp2
      go_ret2
      refine ⟨hkp, fun h => absurd hle h, fun _ => ?_⟩
      rcases hown.2 with ⟨_, hbad⟩ | ⟨gv, cap, cur, rfl, hgB, hh, hnc, hcm, hcs, htk⟩
      · omega
      · refine ⟨w.heap.size, gv, cap, rfl, Nat.le_refl _, hgB, ⟨⟨hb, ⟨cur.toList.drop (L.length * 64), ?_⟩, hle, h1, h2⟩, (fun e => by cases e), Int.le_refl 0⟩⟩
        rw [← htk, List.take_append_drop]
        unfold Bk; simpa using hh

end Go.Proofs.YtlgbmkdeamgpkaaGreatDoor
