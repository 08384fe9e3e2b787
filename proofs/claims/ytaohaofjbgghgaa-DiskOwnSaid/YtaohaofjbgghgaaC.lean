/- The contract of the reference's New. No condition beyond what each theorem states. -/
import Derived.Test.YtaohaofjbgghgaaB
import Derived.Deep.RegionLaw
namespace Go.Proofs.Ytaohaofjbgghgaa
open Go.RowKit

def rdCells (sec : Value) (writes ar : Int) (off : Bool) : List Value := [sec, .int .i64 writes, .int .i64 ar, .bool off]
def zeroB : List UInt8 := List.replicate 64 0

set_option maxHeartbeats 400000 in
theorem rnew_no (n : Int) (h : n < 1 ∨ 512 < n) (w : World) :
    Calls Try.prog 10 #[.int .i64 n] w fun e w' => e = .returned (.tuple #[.pointer none, .int .i64 2]) ∧ w = w' := by
  go_enter Try.func10, Try.ntmps10
  by_cases h1 : n < 1
  · go_wp2
    go_ret2
    exact ⟨rfl, rfl⟩
  · have h2 : 512 < n := by omega
    clear h
    go_wp2
    go_ret2
    exact ⟨rfl, rfl⟩

theorem u8s_zero : u8s zeroB = List.replicate 64 (.int .u8 0) := by simp [u8s, zeroB]
/-- sixty-four zeros -/
def zero64 : List Value := List.replicate 64 (.int .u8 0)
theorem mk64 (W : World) : (Instr.makeSlice 33 (.int .i64 64) (.int .i64 64)).run Try.prog W = .ok (.slice (some ⟨W.heap.size, 0, none⟩) 64 64) (W.alloc (.cells zero64.toArray 5)) := mk_bytes 64 (by omega) W
set_option maxHeartbeats 1000000 in
theorem rnew_yes (n : Nat) (h1 : 1 ≤ n) (h2 : n ≤ 512) (w : World) :
    Calls Try.prog 10 #[.int .i64 n] w fun e w' => ∃ b v, e = .returned (.tuple #[.pointer (some ⟨b, 0, none⟩), .int .i64 0]) ∧
       Bk w' b 43 (rdCells v 0 (-1) false) ∧ RowsOf w' w.heap.size v (List.replicate n zeroB) 5 ∧ w.heap.size ≤ b ∧ Kp No w w' := by
  have hmk := mk64
  go_enter Try.func10, Try.ntmps10
  go_wp2
  go_loopw [5] (fun i wr => ∃ k : Nat, k ≤ n ∧ i = .int .i64 k ∧ Kp No w wr ∧ ∃ v, Bk wr w.heap.size 43 (rdCells v 0 (-1) false) ∧ RowsOf wr w.heap.size v (List.replicate k zeroB) 5) (fun i _ => n - (intOf i).toNat)
  case atStart => exact ⟨0, Nat.zero_le _, rfl, (Kp.refl _ _).alloc _, _, Bk.new' rfl rfl, RowsOf.nil _ _ _⟩
  case round =>
    obtain ⟨k, hk, rfl, hkp, v, hb, ⟨vs, hown, hrows⟩⟩ := hrel
    by_cases hlt : k < n
    · have hlen : (List.replicate k zeroB).length = k := by simp
      have hown0 := hown
      rw [hlen] at hown
      have h0 : wr.cell? ⟨w.heap.size, 0, none⟩ = some v := hb.cell 0
      have hf := hb.frozen 0
      have HR := Lib.hid hrows; clear hrows
      have HO := Lib.hid hown0; clear hown0
      have HN := Lib.hid hlen; clear hlen
      have hne := own_ne hown hb (by decide)
      have hbase : w.heap.size ≤ wr.heap.size := hkp.size
      have ha1 : ∀ o, (wr.alloc o).cell? ⟨w.heap.size, 0, none⟩ = some v := fun o => (hb.alloc o).cell 0
      have ha2 : ∀ o o', ((wr.alloc o).alloc o').cell? ⟨w.heap.size, 0, none⟩ = some v := fun o o' => ((hb.alloc o).alloc o').cell 0
      go_wp2
      go_region_law ((first | (refine step_app1 _ rfl _ _ _ rfl w.heap.size 33 _ 1 24 Try.underlying40 Try.info33 rfl (by omega) v k vs rfl ((hown.alloc _).alloc _) _ _ _ rfl (Bk.new' (by simp) rfl) rfl (by simp [Value.oneCell']) (by omega) (by omega) (by simp; omega) ?_; intro g1 cap1 w1 hown1 hk1 hat1; have hb1 : Bk w1 w.heap.size 43 (rdCells v 0 (-1) false) := ((hb.drew.alloc _).alloc _).kp hk1 hne; have hc1 := hb1.cell 0; have hf1 := hb1.frozen 0; simp only [rdCells, List.getElem?_cons_zero] at hc1)))
      all_goals
        have hpush := RowsOf.push (l := zeroB) (t := 5) (x := .slice (some ⟨wr.heap.size, 0, none⟩) 64 64) HO.out HR.out (((Kp.refl _ _).alloc (.cells zero64.toArray 5)).alloc (.cells #[.slice (some ⟨wr.heap.size, 0, none⟩) 64 64] 33)).drew
          ⟨wr.heap.size, 64, [], rfl, by decide, by omega, by simp, by rw [List.append_nil, u8s_zero]; exact Bk.alloc (Bk.new' rfl rfl) _⟩ hbase (by rw [HN.out]; exact hown1) hk1 hat1
        have hkp1 : Kp No w w1 := ((hkp.alloc _).alloc _).drew.then_ hk1 fun i hi e => by have := hown.lt i e; omega
        rw [HN.out] at hpush
        have hpush2 := hpush.far hb1 (by decide) (by decide) 0 (.slice (some ⟨g1, 0, none⟩) (k + 1) cap1)
        have hkp2 := hkp1.set (g := w.heap.size) (.inr (Nat.le_refl _)) 0 (.slice (some ⟨g1, 0, none⟩) (k + 1) cap1)
        have hb2 := hb1.set_ 0 (.slice (some ⟨g1, 0, none⟩) (k + 1) cap1)
        clear ha1 ha2 hown1 hk1 hat1 hc1 hf1 hb1 hpush hkp1
        generalize w1.setCell ⟨w.heap.size, 0, none⟩ (.slice (some ⟨g1, 0, none⟩) (k + 1) cap1) = w3 at *
        go_wp2
        go_roundw
        case rel => exact ⟨k + 1, by omega, by go_num, hkp2, _, hb2, by rw [List.replicate_succ']; exact hpush2⟩
        case measure => simp [intOf]; omega
    · have hk' : k = n := by omega
      subst hk'
      go_wp2
      go_ret2
      exact ⟨_, v, rfl, hb, ⟨vs, hown, hrows⟩, by omega, hkp⟩
end Go.Proofs.Ytaohaofjbgghgaa
