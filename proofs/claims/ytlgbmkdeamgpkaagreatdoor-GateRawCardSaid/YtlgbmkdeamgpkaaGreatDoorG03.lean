/- Several texts of this claim in one. No condition beyond what each theorem states. -/
import Derived.Test.YtlgbmkdeamgpkaaGreatDoorB02
import Derived.RangeFuncBox
import Derived.RangeFuncLeaves
import Derived.Shelf.Abstract
import Derived.OwnWalkIn
import Derived.TacticsInMore
import Derived.LoopNIn
import Derived.LoopIn
import Derived.Maps.AppendAt
import Derived.Outline
import Derived.Laws.IdiomCopy
/- slices.Chunk and slices.Collect over bytes, by contract: the pieces of at most 47 bytes, in order, over the same memory. No condition beyond what each theorem states. -/
namespace Go.Proofs.YtlgbmkdeamgpkaaGreatDoor
open Go Go.RowKit Go.Shelf

attribute [local go_sem] Oper.semAt_some

/-- the piece from m on -/
def pcV (g o len m : Nat) : Value := .slice (some ⟨g, o + m, none⟩) (min 47 (len - m)) (min 47 (len - m))
def offs (k : Nat) : List Nat := (List.range k).map (47 * ·)
theorem offs_succ (k : Nat) : offs (k + 1) = offs k ++ [47 * k] := by simp [offs, List.range_succ]
theorem offs_length (k : Nat) : (offs k).length = k := by simp [offs]
theorem grown_drew (W : World) : W.grownBy W.drew none := ⟨rfl, rfl, rfl, Nat.le_refl _, fun _ _ _ => rfl⟩
theorem below_drew' (n : Nat) (W : World) : Below n W W.drew := ⟨rfl, rfl, rfl, Nat.le_refl _, fun _ _ => rfl⟩

set_option maxRecDepth 100000 in
set_option maxHeartbeats 2000000 in
theorem chunk1_in (F : Fence) (n : Nat) (hf : F.fn 169) (hro : F.round = none) (hn : 1 ≤ n) (l Bs Bn n₀ g o len cap : Nat) (hcap : len ≤ cap) (hmax : cap ≤ 9223372036854775807) (hlm : len ≤ 1048576) (hBs : Bs < n₀) (hBn : Bn < n₀)
    (J Jx : List Nat → World → Prop) (W : World)
    (hY : ∀ pre x W, J pre W → pre.length < (len + 46) / 47 → YieldAt F (n - 1) Tryz.prog l #[pcV g o len x] W fun e W' =>
      (e = .returned (.bool true) ∧ J (pre ++ [x]) W' ∧ Below n₀ W W') ∨ (e = .returned (.bool false) ∧ Jx (pre ++ [x]) W'))
    (hJ : AbidesFrom W.heap.size J)
    (hcs : W.cell? ⟨Bs, 0, none⟩ = some (.slice (some ⟨g, o, none⟩) len cap)) (hcn : W.cell? ⟨Bn, 0, none⟩ = some (.int .i64 47)) (h0 : J [] W) :
    CallsIn F n Tryz.prog 169 #[.func (.yield l) #[] #[], .pointer (some ⟨Bs, 0, none⟩), .pointer (some ⟨Bn, 0, none⟩)] W fun e W' => (∃ v, e = .returned v) ∧
      ((∃ ys, ys = offs ((len + 46) / 47) ∧ J ys W') ∨ (∃ pre, (∃ k, pre = offs k) ∧ Jx pre W')) := by
  refine callsIn_of_wp Tryz.func169 rfl hf ?_ hro
  simp only [Tryz.ntmps169, List.size_toArray, List.length_cons, List.length_nil, Nat.reduceAdd, Nat.reduceSub, Array.replicate_succ, Array.replicate_zero, List.push_toArray, List.append_toArray, List.nil_append, List.cons_append]
  gi_wp2
  gi_loopw [4] (fun i wr => ∃ k : Nat, k ≤ (len + 46) / 47 ∧ i = .int .i64 ((47 * k : Nat) : Int) ∧ J (offs k) wr ∧ Below n₀ W wr) (fun i _ => len + 47 - (intOf i).toNat)
  case atStart => exact ⟨0, Nat.zero_le _, rfl, h0, Below.refl _ _⟩
  case round =>
    obtain ⟨k, hk, rfl, hJs, hb⟩ := hrel
    have hcs1 : wr.cell? ⟨Bs, 0, none⟩ = some (.slice (some ⟨g, o, none⟩) len cap) := (hb.cell (p := ⟨Bs, 0, none⟩) hBs).trans hcs
    have hcn1 : wr.cell? ⟨Bn, 0, none⟩ = some (.int .i64 47) := (hb.cell (p := ⟨Bn, 0, none⟩) hBn).trans hcn
    have HK := Lib.hid (offs_succ k)
    by_cases hlt : 47 * k < len
    · have hJd : J (offs k) wr.drew := hJ _ _ _ none hJs (grown_drew wr) (fun r e => by cases e)
      obtain ⟨fn, tmps, assign, body, hy, hR⟩ := hY _ (47 * k) wr.drew hJd (by rw [offs_length]; omega)
      have hm : ∃ m, m = 47 * k := ⟨_, rfl⟩
      obtain ⟨m, hm⟩ := hm
      rw [← hm] at hlt HK
      have HM := Lib.hid hm
      have hm2 : ((47 * k : Nat) : Int) = (m : Int) := by rw [hm]
      rw [hm2]
      unfold pcV at hy
      rw [← hm] at hy
      have hq : ∃ q, q = min 47 (len - m) := ⟨_, rfl⟩
      obtain ⟨q, hq⟩ := hq
      rw [← hq] at hy
      have hmn : ∀ W, (Builtin.min_ #[3, 3] 3 #[.int .i64 47, .int .i64 ((len - m : Nat) : Int)]).run Tryz.prog W = .ok (.int .i64 (q : Int)) W := by
        intro W
        have : (q : Int) = if ((len - m : Nat) : Int) < 47 then ((len - m : Nat) : Int) else 47 := by rw [hq]; split <;> omega
        rw [this]; rfl
      have hb1 : (m : Int) < (len : Int) := by omega
      have hb2 : m + q ≤ cap := by omega
      have hq0 : 0 < q := by omega
      have hcm : ¬ cap = m := by omega
      have hle : m ≤ len := by omega
      have hle2 : m ≤ m + q := by omega
      clear hq hm2 hm
      gi_wp2
      gi_region
      all_goals
        gi_wp2
        refine hR.mono ?_
        rintro e W3 (⟨rfl, hJ3, hk3⟩ | ⟨rfl, hJx3⟩)
        · have hcn3 : W3.cell? ⟨Bn, 0, none⟩ = some (.int .i64 47) := (hk3.cell (p := ⟨Bn, 0, none⟩) hBn).trans (by simpa using hcn1)
          gi_wp2
          go_roundw
          case rel => exact ⟨k + 1, by have := HM.out; omega, by rw [show ((47 * (k + 1) : Nat) : Int) = ((47 * k : Nat) : Int) + 47 by omega, ← HM.out], by rw [HK.out, HM.out]; exact hJ3, hb.trans ((below_drew' _ _).trans hk3)⟩
          case measure => (have hm := HM.out; simp [intOf]; omega)
        · gi_wp2
          refine bodyPost_ret (results_none rfl _ _ _) rfl ?_
          exact ⟨⟨_, rfl⟩, .inr ⟨_, ⟨k + 1, by rw [HK.out, HM.out]⟩, hJx3⟩⟩
    · have hk' : k = (len + 46) / 47 := by omega
      have hb1 : ¬ (((47 * k : Nat) : Int) < (len : Int)) := by omega
      have hk2 := Lib.hid hk'; clear hk'
      gi_wp2
      go_end0
      exact ⟨⟨_, rfl⟩, .inl (by rw [← hk2.out]; exact hJs)⟩
end Go.Proofs.YtlgbmkdeamgpkaaGreatDoor

/- slices.Collect over slices.Chunk of bytes, by contract. No condition beyond what each theorem states. -/
namespace Go.Proofs.YtlgbmkdeamgpkaaGreatDoor
open Go Go.RowKit Go.Shelf

attribute [local go_sem] Oper.semAt_some

theorem chunk_stops (F : Fence) (n : Nat) (hf : F.fn 169) (hro : F.round = none) (hn : 1 ≤ n) (Bs Bn n₀ g o len cap : Nat) (hcap : len ≤ cap) (hmax : cap ≤ 9223372036854775807) (hlm : len ≤ 1048576) (w : World) (hn₀ : n₀ ≤ w.heap.size) (hBs : Bs < n₀) (hBn : Bn < n₀)
    (hcs : w.cell? ⟨Bs, 0, none⟩ = some (.slice (some ⟨g, o, none⟩) len cap)) (hcn : w.cell? ⟨Bn, 0, none⟩ = some (.int .i64 47)) :
    SeqStopsK F n Tryz.prog 169 #[.pointer (some ⟨Bs, 0, none⟩), .pointer (some ⟨Bn, 0, none⟩)] (fun x : Nat => #[pcV g o len x]) (Below n₀) (fun ys => ys = offs ((len + 46) / 47)) (fun pre => ∃ k, pre = offs k) ((len + 46) / 47) w := fun l J Jx W hW hJ _ hY h0 =>
  chunk1_in F n hf hro hn l Bs Bn n₀ g o len cap hcap hmax hlm hBs hBn J Jx W hY hJ ((hW.cell (p := ⟨Bs, 0, none⟩) (Nat.lt_of_lt_of_le hBs hn₀)).trans hcs) ((hW.cell (p := ⟨Bn, 0, none⟩) (Nat.lt_of_lt_of_le hBn hn₀)).trans hcn) h0

theorem Tryz.infoBytes : (Tryz.prog.info? 69).map (fun i => (i.zero, i.size, i.bytes)) = some (some (.slice none 0 0), 1, 24) := by kernel_rfl

set_option maxHeartbeats 1000000 in
theorem chunk0_stops (F : Fence) (n : Nat) (hf : F.fn 169) (hro : F.round = none) (Bs Bn n₀ : Nat) (A : Option Addr) (cap : Nat) (w : World) (hn₀ : n₀ ≤ w.heap.size) (hBs : Bs < n₀)
    (hcs : w.cell? ⟨Bs, 0, none⟩ = some (.slice A 0 cap)) :
    SeqStopsK F n Tryz.prog 169 #[.pointer (some ⟨Bs, 0, none⟩), .pointer (some ⟨Bn, 0, none⟩)] (fun x : Nat => #[pcV 0 0 0 x]) (Below n₀) (fun ys => ys = offs 0) (fun pre => ∃ k, pre = offs k) 0 w := fun l J Jx W hW hJ _ hY h0 => by
  have hc : W.cell? ⟨Bs, 0, none⟩ = some (.slice A 0 cap) := (hW.cell (p := ⟨Bs, 0, none⟩) (Nat.lt_of_lt_of_le hBs hn₀)).trans hcs
  clear hY
  refine callsIn_of_wp Tryz.func169 rfl hf ?_ hro
  simp only [Tryz.ntmps169, List.size_toArray, List.length_cons, List.length_nil, Nat.reduceAdd, Nat.reduceSub, Array.replicate_succ, Array.replicate_zero, List.push_toArray, List.append_toArray, List.nil_append, List.cons_append]
  gi_wp2
  gi_loopw [4] (fun i wr => i = .int .i64 0 ∧ wr = W) (fun _ _ => 0)
  case atStart => exact ⟨rfl, rfl⟩
  case round =>
    obtain ⟨rfl, rfl⟩ := hrel
    gi_wp2
    go_end0
    exact ⟨⟨_, rfl⟩, .inl ⟨_, rfl, h0⟩⟩

set_option maxRecDepth 100000 in
set_option maxHeartbeats 2000000 in
theorem appendSeq_in (F : Fence) (n : Nat) (h1 : F.fn 168) (h2 : F.fn 169) (hro : F.round = none) (hn : 3 ≤ n) (Bs Bn g o len K : Nat) (hK : K ≤ 1048576) (w : World)
    (hseq : ∀ w1, Below w.heap.size w w1 → SeqStopsK F (n - 1) Tryz.prog 169 #[.pointer (some ⟨Bs, 0, none⟩), .pointer (some ⟨Bn, 0, none⟩)] (fun x : Nat => #[pcV g o len x]) (Below w.heap.size) (fun ys => ys = offs K) (fun pre => ∃ k, pre = offs k) K w1) :
    CallsIn F n Tryz.prog 168 #[.slice none 0 0, .func (.func 169) #[] #[.pointer (some ⟨Bs, 0, none⟩), .pointer (some ⟨Bn, 0, none⟩)]] w fun e W' => ∃ v, e = .returned v ∧ W'.ownsRow w.heap.size 69 1 v K ((offs K).map (pcV g o len)) ∧ Below w.heap.size w W' := by
  have h1n : 1 ≤ n := by omega
  obtain ⟨i0, hi, hz0, hz1, hz2⟩ := info_parts Tryz.infoBytes
  refine callsIn_of_wp_marks Tryz.func168 rfl h1 ?_ hro
  simp only [Tryz.ntmps168, List.size_toArray, List.length_cons, List.length_nil, Nat.reduceAdd, Nat.reduceSub, Array.replicate_succ, Array.replicate_zero, List.push_toArray, List.append_toArray, List.nil_append, List.cons_append]
  gi_wp2
  have bO := Boxed.new w 63 (.slice none 0 0)
  have hB0 : Below w.heap.size w (w.alloc (.cells #[.slice none 0 0] 63)) := (Below.refl _ w).alloc (Nat.le_refl _) _
  refine wpIn_rangeFunc_ownG hro h1n (gf := 169) (lb := #[.pointer (some ⟨Bs, 0, none⟩), .pointer (some ⟨Bn, 0, none⟩)]) rfl h2 (enters_of Tryz.func169 (by kernel_rfl) rfl)
    (hseq _ hB0) belowK_t (belowK_b (by simp)) (Below.refl _ _) (fun _ => rfl)
    (fun pre W => (∃ v, Boxed W w.heap.size 63 v ∧ W.ownsRow w.heap.size 69 1 v pre.length (pre.map (pcV g o len)) ∧ True) ∧ Below w.heap.size w W)
    (fun _ _ _ => False)
    (OwnFrom.and (Own.from (holdsRow_own w.heap.size w.heap.size 63 69 1 (fun pre : List Nat => pre.length) (fun pre : List Nat => pre.map (pcV g o len)) (fun _ _ => True)) _) (ownFrom_below (Nat.le_refl _) (by simp)))
    (fun _ _ _ _ _ hs _ _ => hs)
    ⟨⟨_, bO, World.ownsRow_nil _ _ _ _, trivial⟩, hB0⟩
    (fun x => { tmps := #[.slice none 0 0, .func (.func 169) #[] #[.pointer (some ⟨Bs, 0, none⟩), .pointer (some ⟨Bn, 0, none⟩)], .pointer (some ⟨w.heap.size, 0, none⟩), undef, .slice none 0 0, pcV g o len x, .func (.func 169) #[] #[.pointer (some ⟨Bs, 0, none⟩), .pointer (some ⟨Bn, 0, none⟩)], pcV g o len x, undef, undef, undef, undef, undef], defers := [] }) ?assign ?body ?done ?stop
  case assign =>
    intro l x W K hK
    gi_wp2
    exact hK
  case body =>
    rintro l pre x W ⟨⟨v, hv, hrow, _⟩, hB⟩ hlt
    have hc := hv.cell
    unfold pcV
    gi_wp2_with (gi_at_builtin; refine wpListIn_append_own _ rfl _ _ 63 rfl w.heap.size 69 i0 (.slice none 0 0) 1 24 Tryz.underlying63 hi hz0 hz1 hz2 rfl (by decide) _ _ _ rfl (hrow.alloc _) ⟨W.heap.size, 0, none⟩ 1 1 [pcV g o len x] rfl rfl (cell_one_new _ _ _) (by simp [Value.oneCell', pcV]) (by unfold maxLen; omega) (by omega) (by have := hB.size; simp; omega) ?_; intro v' w1 hown' hgrow _; obtain ⟨g', cap', rfl⟩ := ownsRow_succ hown'; obtain ⟨hv1, hv2, hr2, hk2, hb2⟩ := hv.appended (by decide) hrow hB.size (Nat.le_refl _) hown' hgrow; have hc1 := hv1.cell; have hf1 := hv1.frozen)
    exact ⟨hk2.from _, hb2, ⟨_, hv2, by rw [List.length_append, List.map_append]; exact hr2, trivial⟩, hB.trans hb2⟩
  case done =>
    rintro D ys W hD rfl ⟨⟨v, hv, hrow, _⟩, hB⟩ hK
    have hc := hv.cell
    rw [offs_length] at hrow
    gi_wp2
    refine ⟨by simp, .inl ⟨_, _, rfl, run_takeDeferred hK, ?_⟩⟩
    exact ⟨_, results_tmp rfl _ _ _, v, rfl, ownsRow_putObj hrow _ hK rfl, hB.trans (belowK_b (w := w) (Nat.le_refl _) W D _ _ (by simp at hD; omega) hK rfl rfl)⟩
  case stop =>
    rintro D c pre W _ _ h _
    exact h.elim

set_option maxHeartbeats 1000000 in
theorem chunk_any (A : Option Addr) (n c : Nat) (w : World) : Calls Tryz.prog 122 #[.slice A n c, .int .i64 47] w fun e w' => e = .returned (.func (.func 169) #[] #[.pointer (some ⟨w.heap.size, 0, none⟩), .pointer (some ⟨w.heap.size + 1, 0, none⟩)]) ∧ w' = (w.alloc (.cells #[.slice A n c] 69)).alloc (.cells #[.int .i64 47] 3) := by
  have hmf : ∀ (fn : Fn) (first cap : Array Value) (w : World), (Instr.makeFunc fn first cap).run Tryz.prog w = .ok (.func fn first cap) w := fun _ _ _ _ => rfl
  go_enter Tryz.func122, Tryz.ntmps122
  go_wp2
  go_ret
  exact ⟨rfl, rfl⟩

set_option maxHeartbeats 1000000 in
/-- the pieces of a list of bytes: slices over its own memory -/
theorem collect_any (A : Option Addr) (cap Bs Bn : Nat) (l : List UInt8) (w : World) (hv : ArgB w (.slice A l.length cap) l) (hl : l.length ≤ 188) (hmax : cap ≤ 9223372036854775807) (hBs : w.cell? ⟨Bs, 0, none⟩ = some (.slice A l.length cap)) (hBn : w.cell? ⟨Bn, 0, none⟩ = some (.int .i64 47)) :
    Calls Tryz.prog 121 #[.func (.func 169) #[] #[.pointer (some ⟨Bs, 0, none⟩), .pointer (some ⟨Bn, 0, none⟩)]] w fun e w' => ∃ v g o, e = .returned v ∧ w'.ownsRow w.heap.size 69 1 v ((l.length + 46) / 47) ((offs ((l.length + 46) / 47)).map (pcV g o l.length)) ∧ (0 < l.length → A = some ⟨g, o, none⟩) ∧ Kp No w w' := by
  have l1 : Bs < w.heap.size := World.block_lt_of_cell? w _ hBs
  have l2 : Bn < w.heap.size := World.block_lt_of_cell? w _ hBn
  have key : ∃ g o, (0 < l.length → A = some ⟨g, o, none⟩) ∧ ∀ w1, Below w.heap.size w w1 → SeqStopsK Fence.wide 2 Tryz.prog 169 #[.pointer (some ⟨Bs, 0, none⟩), .pointer (some ⟨Bn, 0, none⟩)] (fun x : Nat => #[pcV g o l.length x]) (Below w.heap.size) (fun ys => ys = offs ((l.length + 46) / 47)) (fun pre => ∃ k, pre = offs k) ((l.length + 46) / 47) w1 := by
    by_cases h0 : 0 < l.length
    · obtain ⟨g, o, c, e, hc, _⟩ := hv.at_ h0
      injection e with e1 _ e3
      subst e1 e3
      exact ⟨g, o, fun _ => rfl, fun w1 hb => chunk_stops _ 2 trivial rfl (by omega) Bs Bn _ g o _ _ hc hmax (by omega) w1 hb.size l1 l2 ((hb.cell (p := ⟨Bs, 0, none⟩) l1).trans hBs) ((hb.cell (p := ⟨Bn, 0, none⟩) l2).trans hBn)⟩
    · have h00 : l.length = 0 := by omega
      rw [h00] at hBs ⊢
      exact ⟨0, 0, fun h => absurd h (by omega), fun w1 hb => chunk0_stops _ 2 trivial rfl Bs Bn _ A cap w1 hb.size l1 ((hb.cell (p := ⟨Bs, 0, none⟩) l1).trans hBs)⟩
  obtain ⟨g, o, hA, hseq⟩ := key
  clear hBs hBn hv
  have HA := Lib.hid hA; clear hA
  go_enter Tryz.func121, Tryz.ntmps121
  go_wp2_with fail
  refine ((callsIn_wide (n := 3)).1 (appendSeq_in Fence.wide 3 trivial trivial rfl (by omega) Bs Bn g o l.length ((l.length + 46) / 47) (by omega) w hseq)).mono ?_
  rintro e w' ⟨v, rfl, hown, hb⟩
  go_wp2
  go_ret
  exact ⟨_, g, o, rfl, hown, HA.out, Kp.of_below hb⟩
end Go.Proofs.YtlgbmkdeamgpkaaGreatDoor

/- The built-in copy of bytes into a block of the call's own. No condition beyond what each theorem states. -/
namespace Go.Proofs.YtlgbmkdeamgpkaaGreatDoor
open Go Go.RowKit

/-- m laid over l from place k on -/
def layB (l : List UInt8) (k : Nat) (m : List UInt8) : List UInt8 := l.take k ++ m ++ l.drop (k + m.length)
theorem layB_length (l : List UInt8) (k : Nat) (m : List UInt8) (h : k + m.length ≤ l.length) : (layB l k m).length = l.length := by simp [layB]; omega
section
variable {P : Program}
theorem run_copyB (w : World) (dT sT ty elem : TypeId) (hu : P.underlying dT = some (.slice elem)) (hsz : (P.info? elem).map (·.size) = some 1)
    (g off dLen dCap : Nat) (A : Option Addr) (sLen sCap : Nat) (cur : List UInt8) (t : TypeId) (hg : Bk w g t (u8s cur)) (m : List UInt8) (hm : m.length = sLen) (hle : sLen ≤ dLen) (hc : Cs w A (u8s m)) (hfit : off + m.length ≤ cur.length) :
    ∃ w', (Builtin.copy_ #[dT, sT] ty #[.slice (some ⟨g, off, none⟩) dLen dCap, .slice A sLen sCap]).run P w = .ok (goInt (sLen : Int)) w' ∧ Bk w' g t (u8s (layB cur off m)) ∧ Kp (One g) w w' := by
  by_cases h0 : m = []
  · subst h0
    have h00 : sLen = 0 := by simpa using hm.symm
    subst h00
    refine ⟨w, run_copy_none (P := P) w dT sT ty elem _ A dLen dCap 0 sCap hu hsz (by simp), ?_, Kp.refl _ _⟩
    simpa [layB] using hg
  · obtain ⟨g', o', rfl, hr⟩ := hc (by intro e; apply h0; have := congrArg List.length e; simp at this; exact this)
    have hml : (u8s m).length = Nat.min sLen dLen := by rw [u8s_length, hm]; exact (Nat.min_eq_left hle).symm
    have ht := hg.there off (u8s m).length (by simpa using hfit)
    refine ⟨_, ?_, ?_, Kp.sets (u8s m) off (Kp.refl (One g) w) (.inl (One.self g))⟩
    · have hrun := run_copy_cells (P := P) w dT sT ty elem g off dLen dCap ⟨g', o', none⟩ sLen sCap (u8s m) hu hsz hml (fun j v hv => by rw [Addr.add_mid]; exact hr j v hv) (fun j hj => (ht j hj).1) (fun j hj => (ht j hj).2) (u8s_one m)
      rw [hrun, u8s_length, hm]
    · have := Bk.sets (u8s m) off hg (by simpa using hfit)
      rw [u8s_length, ← u8s_take, ← u8s_drop, ← u8s_append, ← u8s_append] at this
      exact this
theorem wp_copyB (w : World) {o : Oper} {a : Act} {K : Act → World → Prop} {Q : Exit → Act → World → Prop} (d s : Operand) (dT sT : TypeId)
    (ho : o.op = .call { callee := .builtin .copy, args := #[d, s], argTypes := #[dT, sT] }) (elem : TypeId) (hu : P.underlying dT = some (.slice elem)) (hsz : (P.info? elem).map (·.size) = some 1)
    (g off dLen dCap : Nat) (A : Option Addr) (sLen sCap : Nat) (hd : a.eval d = .slice (some ⟨g, off, none⟩) dLen dCap) (hs : a.eval s = .slice A sLen sCap)
    (cur : List UInt8) (t : TypeId) (hg : Bk w g t (u8s cur)) (m : List UInt8) (hm : m.length = sLen) (hle : sLen ≤ dLen) (hc : Cs w A (u8s m)) (hfit : off + m.length ≤ cur.length)
    (h : ∀ w', Bk w' g t (u8s (layB cur off m)) → Kp (One g) w w' → K (a.put o.dst (.int .i64 (sLen : Int))) w') : o.wp P a w K Q := by
  obtain ⟨w', hr, h1, h2⟩ := run_copyB (P := P) w dT sT o.type elem hu hsz g off dLen dCap A sLen sCap cur t hg m hm hle hc hfit
  unfold Oper.wp execOp
  simp only [ho, resolve, invoke, builtin, Sem.run_bind, Sem.run_pure, Result.andThen_ok, List.map_toArray, List.map_cons, List.map_nil, hd, hs, hr]
  exact h w' h1 h2
theorem wpList_copyB (w : World) {ops : Array Oper} {rest : List Oper} {o : Oper} {a : Act} {Q : Exit → Act → World → Prop} (hgd : o.guard = none) (d s : Operand) (dT sT : TypeId)
    (ho : o.op = .call { callee := .builtin .copy, args := #[d, s], argTypes := #[dT, sT] }) (elem : TypeId) (hu : P.underlying dT = some (.slice elem)) (hsz : (P.info? elem).map (·.size) = some 1)
    (g off dLen dCap : Nat) (A : Option Addr) (sLen sCap : Nat) (hd : a.eval d = .slice (some ⟨g, off, none⟩) dLen dCap) (hs : a.eval s = .slice A sLen sCap)
    (cur : List UInt8) (t : TypeId) (hg : Bk w g t (u8s cur)) (m : List UInt8) (hm : m.length = sLen) (hle : sLen ≤ dLen) (hc : Cs w A (u8s m)) (hfit : off + m.length ≤ cur.length)
    (h : ∀ w', Bk w' g t (u8s (layB cur off m)) → Kp (One g) w w' → wpList P ops Q rest (a.put o.dst (.int .i64 (sLen : Int))) w') : wpList P ops Q (o :: rest) a w :=
  wpList_plain hgd fun _ hK => wp_copyB w d s dT sT ho elem hu hsz g off dLen dCap A sLen sCap hd hs cur t hg m hm hle hc hfit fun w' h1 h2 => hK _ _ (h w' h1 h2)
/-- the same in a region that draws its order -/
theorem step_copyB (w : World) {ops : Array Oper} {o : Oper} {a : Act} {K : Act → World → Prop} {Q : Exit → Act → World → Prop} {E : Prop} (hgd : o.guard = none) (d s : Operand) (dT sT : TypeId)
    (ho : o.op = .call { callee := .builtin .copy, args := #[d, s], argTypes := #[dT, sT] }) (elem : TypeId) (hu : P.underlying dT = some (.slice elem)) (hsz : (P.info? elem).map (·.size) = some 1)
    (g off dLen dCap : Nat) (A : Option Addr) (sLen sCap : Nat) (hd : a.eval d = .slice (some ⟨g, off, none⟩) dLen dCap) (hs : a.eval s = .slice A sLen sCap)
    (cur : List UInt8) (t : TypeId) (hg : Bk w g t (u8s cur)) (m : List UInt8) (hm : m.length = sLen) (hle : sLen ≤ dLen) (hc : Cs w A (u8s m)) (hfit : off + m.length ≤ cur.length)
    (h : ∀ w', Bk w' g t (u8s (layB cur off m)) → Kp (One g) w w' → K (a.put o.dst (.int .i64 (sLen : Int))) w') : if Region.wanted o (yielded ops a.tmps) = true then Oper.wp P o a w K Q else E := by
  have hw : Region.wanted o (yielded ops a.tmps) = true := by simp [Region.wanted, hgd]
  rw [if_pos hw]
  exact wp_copyB w d s dT sT ho elem hu hsz g off dLen dCap A sLen sCap hd hs cur t hg m hm hle hc hfit h
end
theorem Tryz.sizeByte : (Tryz.prog.info? 5).map (·.size) = some 1 := by kernel_rfl
end Go.Proofs.YtlgbmkdeamgpkaaGreatDoor
