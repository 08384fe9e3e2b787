/- slices.Collect over slices.Chunk of bytes, by contract. No condition beyond what each theorem states. -/
import Derived.Test.YthncnkkpfcbkfaaDoorCh
namespace Go.Proofs.YthncnkkpfcbkfaaDoor
open Go Go.RowKit Go.Shelf

attribute [local go_sem] Oper.semAt_some

theorem chunk_stops (F : Fence) (n : Nat) (hf : F.fn 34) (hro : F.round = none) (hn : 1 ≤ n) (Bs Bn n₀ g o len cap : Nat) (hcap : len ≤ cap) (hmax : cap ≤ 9223372036854775807) (hlm : len ≤ 1048576) (w : World) (hn₀ : n₀ ≤ w.heap.size) (hBs : Bs < n₀) (hBn : Bn < n₀)
    (hcs : w.cell? ⟨Bs, 0, none⟩ = some (.slice (some ⟨g, o, none⟩) len cap)) (hcn : w.cell? ⟨Bn, 0, none⟩ = some (.int .i64 47)) :
    SeqStopsK F n Tryd.prog 34 #[.pointer (some ⟨Bs, 0, none⟩), .pointer (some ⟨Bn, 0, none⟩)] (fun x : Nat => #[pcV g o len x]) (Below n₀) (fun ys => ys = offs ((len + 46) / 47)) (fun pre => ∃ k, pre = offs k) ((len + 46) / 47) w := fun l J Jx W hW hJ _ hY h0 =>
  chunk1_in F n hf hro hn l Bs Bn n₀ g o len cap hcap hmax hlm hBs hBn J Jx W hY hJ ((hW.cell (p := ⟨Bs, 0, none⟩) (Nat.lt_of_lt_of_le hBs hn₀)).trans hcs) ((hW.cell (p := ⟨Bn, 0, none⟩) (Nat.lt_of_lt_of_le hBn hn₀)).trans hcn) h0

theorem Tryd.infoBytes : (Tryd.prog.info? 26).map (fun i => (i.zero, i.size, i.bytes)) = some (some (.slice none 0 0), 1, 24) := by kernel_rfl

set_option maxHeartbeats 1000000 in
theorem chunk0_stops (F : Fence) (n : Nat) (hf : F.fn 34) (hro : F.round = none) (Bs Bn n₀ : Nat) (A : Option Addr) (cap : Nat) (w : World) (hn₀ : n₀ ≤ w.heap.size) (hBs : Bs < n₀)
    (hcs : w.cell? ⟨Bs, 0, none⟩ = some (.slice A 0 cap)) :
    SeqStopsK F n Tryd.prog 34 #[.pointer (some ⟨Bs, 0, none⟩), .pointer (some ⟨Bn, 0, none⟩)] (fun x : Nat => #[pcV 0 0 0 x]) (Below n₀) (fun ys => ys = offs 0) (fun pre => ∃ k, pre = offs k) 0 w := fun l J Jx W hW hJ _ hY h0 => by
  have hc : W.cell? ⟨Bs, 0, none⟩ = some (.slice A 0 cap) := (hW.cell (p := ⟨Bs, 0, none⟩) (Nat.lt_of_lt_of_le hBs hn₀)).trans hcs
  clear hY
  refine callsIn_of_wp Tryd.func34 rfl hf ?_ hro
  simp only [Tryd.ntmps34, List.size_toArray, List.length_cons, List.length_nil, Nat.reduceAdd, Nat.reduceSub, Array.replicate_succ, Array.replicate_zero, List.push_toArray, List.append_toArray, List.nil_append, List.cons_append]
  gi_wp2
  gi_loopw [4] (fun i wr => i = .int .i64 0 ∧ wr = W) (fun _ _ => 0)
  case atStart => exact ⟨rfl, rfl⟩
  case round =>
    obtain ⟨rfl, rfl⟩ := hrel
    gi_wp2
    go_end0
    exact ⟨⟨_, rfl⟩, .inl ⟨_, rfl, h0⟩⟩

set_option maxRecDepth 100000 in
set_option maxHeartbeats 2000000 in
theorem appendSeq_in (F : Fence) (n : Nat) (h1 : F.fn 33) (h2 : F.fn 34) (hro : F.round = none) (hn : 3 ≤ n) (Bs Bn g o len K : Nat) (hK : K ≤ 1048576) (w : World)
    (hseq : ∀ w1, Below w.heap.size w w1 → SeqStopsK F (n - 1) Tryd.prog 34 #[.pointer (some ⟨Bs, 0, none⟩), .pointer (some ⟨Bn, 0, none⟩)] (fun x : Nat => #[pcV g o len x]) (Below w.heap.size) (fun ys => ys = offs K) (fun pre => ∃ k, pre = offs k) K w1) :
    CallsIn F n Tryd.prog 33 #[.slice none 0 0, .func (.func 34) #[] #[.pointer (some ⟨Bs, 0, none⟩), .pointer (some ⟨Bn, 0, none⟩)]] w fun e W' => ∃ v, e = .returned v ∧ W'.ownsRow w.heap.size 26 1 v K ((offs K).map (pcV g o len)) ∧ Below w.heap.size w W' := by
  have h1n : 1 ≤ n := by omega
  obtain ⟨i0, hi, hz0, hz1, hz2⟩ := info_parts Tryd.infoBytes
  refine callsIn_of_wp_marks Tryd.func33 rfl h1 ?_ hro
  simp only [Tryd.ntmps33, List.size_toArray, List.length_cons, List.length_nil, Nat.reduceAdd, Nat.reduceSub, Array.replicate_succ, Array.replicate_zero, List.push_toArray, List.append_toArray, List.nil_append, List.cons_append]
  gi_wp2
  have bO := Boxed.new w 22 (.slice none 0 0)
  have hB0 : Below w.heap.size w (w.alloc (.cells #[.slice none 0 0] 22)) := (Below.refl _ w).alloc (Nat.le_refl _) _
  refine wpIn_rangeFunc_ownG hro h1n (gf := 34) (lb := #[.pointer (some ⟨Bs, 0, none⟩), .pointer (some ⟨Bn, 0, none⟩)]) rfl h2 (enters_of Tryd.func34 (by kernel_rfl) rfl)
    (hseq _ hB0) belowK_t (belowK_b (by simp)) (Below.refl _ _) (fun _ => rfl)
    (fun pre W => (∃ v, Boxed W w.heap.size 22 v ∧ W.ownsRow w.heap.size 26 1 v pre.length (pre.map (pcV g o len)) ∧ True) ∧ Below w.heap.size w W)
    (fun _ _ _ => False)
    (OwnFrom.and (Own.from (holdsRow_own w.heap.size w.heap.size 22 26 1 (fun pre : List Nat => pre.length) (fun pre : List Nat => pre.map (pcV g o len)) (fun _ _ => True)) _) (ownFrom_below (Nat.le_refl _) (by simp)))
    (fun _ _ _ _ _ hs _ _ => hs)
    ⟨⟨_, bO, World.ownsRow_nil _ _ _ _, trivial⟩, hB0⟩
    (fun x => { tmps := #[.slice none 0 0, .func (.func 34) #[] #[.pointer (some ⟨Bs, 0, none⟩), .pointer (some ⟨Bn, 0, none⟩)], .pointer (some ⟨w.heap.size, 0, none⟩), undef, .slice none 0 0, pcV g o len x, .func (.func 34) #[] #[.pointer (some ⟨Bs, 0, none⟩), .pointer (some ⟨Bn, 0, none⟩)], pcV g o len x, undef, undef, undef, undef, undef], defers := [] }) ?assign ?body ?done ?stop
  case assign =>
    intro l x W K hK
    gi_wp2
    exact hK
  case body =>
    rintro l pre x W ⟨⟨v, hv, hrow, _⟩, hB⟩ hlt
    have hc := hv.cell
    unfold pcV
    gi_wp2_with (gi_at_builtin; refine wpListIn_append_own _ rfl _ _ 22 rfl w.heap.size 26 i0 (.slice none 0 0) 1 24 Tryd.underlying22 hi hz0 hz1 hz2 rfl (by decide) _ _ _ rfl (hrow.alloc _) ⟨W.heap.size, 0, none⟩ 1 1 [pcV g o len x] rfl rfl (cell_one_new _ _ _) (by simp [Value.oneCell', pcV]) (by unfold maxLen; omega) (by omega) (by have := hB.size; simp; omega) ?_; intro v' w1 hown' hgrow _; obtain ⟨g', cap', rfl⟩ := ownsRow_succ hown'; obtain ⟨hv1, hv2, hr2, hk2, hb2⟩ := hv.appended (by decide) hrow hB.size (Nat.le_refl _) hown' hgrow; have hc1 := hv1.cell; have hf1 := hv1.frozen)
    exact ⟨hk2.from _, hb2, ⟨_, hv2, by rw [List.length_append, List.map_append]; exact hr2, trivial⟩, hB.trans hb2⟩
  case done =>
    rintro D ys W hD rfl ⟨⟨v, hv, hrow, _⟩, hB⟩ hK
    have hc := hv.cell
    rw [offs_length] at hrow
    gi_wp2
    refine ⟨by simp, .inl ⟨_, _, rfl, run_takeDeferred hK, ?_⟩⟩
    exact ⟨_, results_tmp rfl _ _ _, v, rfl, ownsRow_putObj hrow _ hK rfl, hB.trans (belowK_b (w := w) (Nat.le_refl _) W D _ _ (by simp at hD; omega) hK rfl rfl)⟩
  case stop =>
    rintro D c pre W _ _ h _
    exact h.elim

set_option maxHeartbeats 1000000 in
theorem chunk_any (A : Option Addr) (n c : Nat) (w : World) : Calls Tryd.prog 23 #[.slice A n c, .int .i64 47] w fun e w' => e = .returned (.func (.func 34) #[] #[.pointer (some ⟨w.heap.size, 0, none⟩), .pointer (some ⟨w.heap.size + 1, 0, none⟩)]) ∧ w' = (w.alloc (.cells #[.slice A n c] 26)).alloc (.cells #[.int .i64 47] 3) := by
  have hmf : ∀ (fn : Fn) (first cap : Array Value) (w : World), (Instr.makeFunc fn first cap).run Tryd.prog w = .ok (.func fn first cap) w := fun _ _ _ _ => rfl
  go_enter Tryd.func23, Tryd.ntmps23
  go_wp2
  go_ret
  exact ⟨rfl, rfl⟩

set_option maxHeartbeats 1000000 in
/-- the pieces of a list of bytes: slices over its own memory -/
theorem collect_any (A : Option Addr) (cap Bs Bn : Nat) (l : List UInt8) (w : World) (hv : ArgB w (.slice A l.length cap) l) (hl : l.length ≤ 188) (hmax : cap ≤ 9223372036854775807) (hBs : w.cell? ⟨Bs, 0, none⟩ = some (.slice A l.length cap)) (hBn : w.cell? ⟨Bn, 0, none⟩ = some (.int .i64 47)) :
    Calls Tryd.prog 22 #[.func (.func 34) #[] #[.pointer (some ⟨Bs, 0, none⟩), .pointer (some ⟨Bn, 0, none⟩)]] w fun e w' => ∃ v g o, e = .returned v ∧ w'.ownsRow w.heap.size 26 1 v ((l.length + 46) / 47) ((offs ((l.length + 46) / 47)).map (pcV g o l.length)) ∧ (0 < l.length → A = some ⟨g, o, none⟩) ∧ Kp No w w' := by
  have l1 : Bs < w.heap.size := World.block_lt_of_cell? w _ hBs
  have l2 : Bn < w.heap.size := World.block_lt_of_cell? w _ hBn
  have key : ∃ g o, (0 < l.length → A = some ⟨g, o, none⟩) ∧ ∀ w1, Below w.heap.size w w1 → SeqStopsK Fence.wide 2 Tryd.prog 34 #[.pointer (some ⟨Bs, 0, none⟩), .pointer (some ⟨Bn, 0, none⟩)] (fun x : Nat => #[pcV g o l.length x]) (Below w.heap.size) (fun ys => ys = offs ((l.length + 46) / 47)) (fun pre => ∃ k, pre = offs k) ((l.length + 46) / 47) w1 := by
    by_cases h0 : 0 < l.length
    · obtain ⟨g, o, c, e, hc, _⟩ := hv.at_ h0
      injection e with e1 _ e3
      subst e1 e3
      exact ⟨g, o, fun _ => rfl, fun w1 hb => chunk_stops _ 2 trivial rfl (by omega) Bs Bn _ g o _ _ hc hmax (by omega) w1 hb.size l1 l2 ((hb.cell (p := ⟨Bs, 0, none⟩) l1).trans hBs) ((hb.cell (p := ⟨Bn, 0, none⟩) l2).trans hBn)⟩
    · have h00 : l.length = 0 := by omega
      rw [h00] at hBs ⊢
      exact ⟨0, 0, fun h => absurd h (by omega), fun w1 hb => chunk0_stops _ 2 trivial rfl Bs Bn _ A cap w1 hb.size l1 ((hb.cell (p := ⟨Bs, 0, none⟩) l1).trans hBs)⟩
  obtain ⟨g, o, hA, hseq⟩ := key
  clear hBs hBn hv
  have HA := Lib.hid hA; clear hA
  go_enter Tryd.func22, Tryd.ntmps22
  go_wp2_with fail
  refine ((callsIn_wide (n := 3)).1 (appendSeq_in Fence.wide 3 trivial trivial rfl (by omega) Bs Bn g o l.length ((l.length + 46) / 47) (by omega) w hseq)).mono ?_
  rintro e w' ⟨v, rfl, hown, hb⟩
  go_wp2
  go_ret
  exact ⟨_, g, o, rfl, hown, HA.out, Kp.of_below hb⟩
end Go.Proofs.YthncnkkpfcbkfaaDoor
