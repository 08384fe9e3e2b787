/- slices.Chunk and slices.Collect over bytes, by contract: the pieces of at most 47 bytes, in order, over the same memory. No condition beyond what each theorem states. -/
import Derived.Test.YthncnkkpfcbkfaaDoorBy
import Derived.RangeFuncBox
import Derived.RangeFuncLeaves
import Derived.Shelf.Abstract
import Derived.OwnWalkIn
import Derived.TacticsInMore
import Derived.LoopNIn
import Derived.LoopIn
import Derived.Maps.AppendAt
import Derived.Outline
namespace Go.Proofs.YthncnkkpfcbkfaaDoor
open Go Go.RowKit Go.Shelf

attribute [local go_sem] Oper.semAt_some

/-- the piece from m on -/
def pcV (g o len m : Nat) : Value := .slice (some ⟨g, o + m, none⟩) (min 47 (len - m)) (min 47 (len - m))
def offs (k : Nat) : List Nat := (List.range k).map (47 * ·)
theorem offs_succ (k : Nat) : offs (k + 1) = offs k ++ [47 * k] := by simp [offs, List.range_succ]
theorem offs_length (k : Nat) : (offs k).length = k := by simp [offs]
theorem grown_drew (W : World) : W.grownBy W.drew none := ⟨rfl, rfl, rfl, Nat.le_refl _, fun _ _ _ => rfl⟩
theorem below_drew' (n : Nat) (W : World) : Below n W W.drew := ⟨rfl, rfl, rfl, Nat.le_refl _, fun _ _ => rfl⟩

set_option maxRecDepth 100000 in
set_option maxHeartbeats 2000000 in
theorem chunk1_in (F : Fence) (n : Nat) (hf : F.fn 34) (hro : F.round = none) (hn : 1 ≤ n) (l Bs Bn n₀ g o len cap : Nat) (hcap : len ≤ cap) (hmax : cap ≤ 9223372036854775807) (hlm : len ≤ 1048576) (hBs : Bs < n₀) (hBn : Bn < n₀)
    (J Jx : List Nat → World → Prop) (W : World)
    (hY : ∀ pre x W, J pre W → pre.length < (len + 46) / 47 → YieldAt F (n - 1) Tryd.prog l #[pcV g o len x] W fun e W' =>
      (e = .returned (.bool true) ∧ J (pre ++ [x]) W' ∧ Below n₀ W W') ∨ (e = .returned (.bool false) ∧ Jx (pre ++ [x]) W'))
    (hJ : AbidesFrom W.heap.size J)
    (hcs : W.cell? ⟨Bs, 0, none⟩ = some (.slice (some ⟨g, o, none⟩) len cap)) (hcn : W.cell? ⟨Bn, 0, none⟩ = some (.int .i64 47)) (h0 : J [] W) :
    CallsIn F n Tryd.prog 34 #[.func (.yield l) #[] #[], .pointer (some ⟨Bs, 0, none⟩), .pointer (some ⟨Bn, 0, none⟩)] W fun e W' => (∃ v, e = .returned v) ∧
      ((∃ ys, ys = offs ((len + 46) / 47) ∧ J ys W') ∨ (∃ pre, (∃ k, pre = offs k) ∧ Jx pre W')) := by
  refine callsIn_of_wp Tryd.func34 rfl hf ?_ hro
  simp only [Tryd.ntmps34, List.size_toArray, List.length_cons, List.length_nil, Nat.reduceAdd, Nat.reduceSub, Array.replicate_succ, Array.replicate_zero, List.push_toArray, List.append_toArray, List.nil_append, List.cons_append]
  gi_wp2
  gi_loopw [4] (fun i wr => ∃ k : Nat, k ≤ (len + 46) / 47 ∧ i = .int .i64 ((47 * k : Nat) : Int) ∧ J (offs k) wr ∧ Below n₀ W wr) (fun i _ => len + 47 - (intOf i).toNat)
  case atStart => exact ⟨0, Nat.zero_le _, rfl, h0, Below.refl _ _⟩
  case round =>
    obtain ⟨k, hk, rfl, hJs, hb⟩ := hrel
    have hcs1 : wr.cell? ⟨Bs, 0, none⟩ = some (.slice (some ⟨g, o, none⟩) len cap) := (hb.cell (p := ⟨Bs, 0, none⟩) hBs).trans hcs
    have hcn1 : wr.cell? ⟨Bn, 0, none⟩ = some (.int .i64 47) := (hb.cell (p := ⟨Bn, 0, none⟩) hBn).trans hcn
    have HK := Lib.hid (offs_succ k)
    by_cases hlt : 47 * k < len
    · have hJd : J (offs k) wr.drew := hJ _ _ _ none hJs (grown_drew wr) (fun r e => by cases e)
      obtain ⟨fn, tmps, assign, body, hy, hR⟩ := hY _ (47 * k) wr.drew hJd (by rw [offs_length]; omega)
      have hm : ∃ m, m = 47 * k := ⟨_, rfl⟩
      obtain ⟨m, hm⟩ := hm
      rw [← hm] at hlt HK
      have HM := Lib.hid hm
      have hm2 : ((47 * k : Nat) : Int) = (m : Int) := by rw [hm]
      rw [hm2]
      unfold pcV at hy
      rw [← hm] at hy
      have hq : ∃ q, q = min 47 (len - m) := ⟨_, rfl⟩
      obtain ⟨q, hq⟩ := hq
      rw [← hq] at hy
      have hmn : ∀ W, (Builtin.min_ #[3, 3] 3 #[.int .i64 47, .int .i64 ((len - m : Nat) : Int)]).run Tryd.prog W = .ok (.int .i64 (q : Int)) W := by
        intro W
        have : (q : Int) = if ((len - m : Nat) : Int) < 47 then ((len - m : Nat) : Int) else 47 := by rw [hq]; split <;> omega
        rw [this]; rfl
      have hb1 : (m : Int) < (len : Int) := by omega
      have hb2 : m + q ≤ cap := by omega
      have hq0 : 0 < q := by omega
      have hcm : ¬ cap = m := by omega
      have hle : m ≤ len := by omega
      have hle2 : m ≤ m + q := by omega
      clear hq hm2 hm
      gi_wp2
      gi_region
      all_goals
        gi_wp2
        refine hR.mono ?_
        rintro e W3 (⟨rfl, hJ3, hk3⟩ | ⟨rfl, hJx3⟩)
        · have hcn3 : W3.cell? ⟨Bn, 0, none⟩ = some (.int .i64 47) := (hk3.cell (p := ⟨Bn, 0, none⟩) hBn).trans (by simpa using hcn1)
          gi_wp2
          go_roundw
          case rel => exact ⟨k + 1, by have := HM.out; omega, by rw [show ((47 * (k + 1) : Nat) : Int) = ((47 * k : Nat) : Int) + 47 by omega, ← HM.out], by rw [HK.out, HM.out]; exact hJ3, hb.trans ((below_drew' _ _).trans hk3)⟩
          case measure => (have hm := HM.out; simp [intOf]; omega)
        · gi_wp2
          refine bodyPost_ret (results_none rfl _ _ _) rfl ?_
          exact ⟨⟨_, rfl⟩, .inr ⟨_, ⟨k + 1, by rw [HK.out, HM.out]⟩, hJx3⟩⟩
    · have hk' : k = (len + 46) / 47 := by omega
      have hb1 : ¬ (((47 * k : Nat) : Int) < (len : Int)) := by omega
      have hk2 := Lib.hid hk'; clear hk'
      gi_wp2
      go_end0
      exact ⟨⟨_, rfl⟩, .inl (by rw [← hk2.out]; exact hJs)⟩
end Go.Proofs.YthncnkkpfcbkfaaDoor
