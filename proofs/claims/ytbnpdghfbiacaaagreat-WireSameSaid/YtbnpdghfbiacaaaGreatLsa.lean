/- Several texts of this claim in one. No condition beyond what each theorem states. -/
import Derived.Test.YtbnpdghfbiacaaaGreatB01
import Derived.OrdersHeld
import Derived.RegionTactic
import Derived.Test.YtbnpdghfbiacaaaGreatB16
import Derived.Test.YtbnpdghfbiacaaaGreatB46
import Derived.Test.YtbnpdghfbiacaaaGreatB26
import Derived.Test.YtbnpdghfbiacaaaGreatB18
import Derived.Deep.RegionHeld3
import Derived.Deep.Cut
import Derived.Deep.CutRange
import Derived.Deep.DeepCutAuto
import Derived.Below
/- A region that draws its order, whose last operation comes behind all others: loads of cells that stand till then may be taken first. -/
namespace Go.Proofs.YtbnpdghfbiacaaaGreat
open Go.RowKit
section
variable {P : Program} {ops : Array Oper} {Q : Exit → Act → World → Prop} {md : Region.Mode} {F : World → Prop} {d : Nat}

/-- whatever order is picked, and F holds behind every operation but number d -/
def wpAnyD (P : Program) (md : Region.Mode) (ops : Array Oper) (Q : Exit → Act → World → Prop) (F : World → Prop) (d : Nat) : Nat → Array Bool → Act → World → Prop
  | 0, listed, a, w => Region.ready md ops listed = [] ∧ Q .normal a w
  | fuel + 1, listed, a, w =>
    (Region.ready md ops listed = [] → Q .normal a w) ∧
    ∀ i ∈ Region.ready md ops listed, wpOp P ops Q i (fun a' w' => (i ≠ d → F w') ∧ wpAnyD P md ops Q F d fuel (listed.setIfInBounds i true) a' w') a w

theorem wpAny_of_D : ∀ (fuel : Nat) (listed : Array Bool) (a : Act) (w : World), wpAnyD P md ops Q F d fuel listed a w → wpAny P md ops Q fuel listed a w
  | 0, _, _, _, h => h
  | fuel + 1, _, _, _, h => ⟨h.1, fun i hi => wpOp_mono (fun a' w' h' => wpAny_of_D fuel _ a' w' h'.2) (h.2 i hi)⟩

theorem wpAnyD_first {i : Nat} {oi : Oper} {v : Value} (hi : ops[i]? = some oi) (hsel : ∀ (j : Nat) (o : Oper) cs b, ops[j]? = some o → o.op ≠ .select cs b)
    (hQ : ∀ c a w, Q (.panic c) (a.put oi.dst v) w → Q (.panic c) a w)
    (hd : ∀ listed : Array Bool, d ∈ Region.ready md ops listed → listed.getD i true = true) :
    ∀ (fuel : Nat) (listed : Array Bool) (a : Act) (w : World),
      (∀ j oj, ops[j]? = some oj → j ≠ i → listed.getD j true = false → (∀ e ∈ oj.after, Region.binds md e = true → e.on ≠ i) → oi.apart ops oj = true) →
      i ∈ Region.ready md ops listed → YieldsIf P ops F oi v a → F w →
      wpAnyD P md ops Q F d fuel (listed.setIfInBounds i true) (a.put oi.dst v) w → wpAnyD P md ops Q F d (fuel + 1) listed a w := by
  intro fuel
  induction fuel with
  | zero =>
    intro listed a w _ hr hy hS H
    refine ⟨fun h => (by rw [h] at hr; cases hr), fun j hj => ?_⟩
    by_cases hji : j = i
    · subst hji; exact hy.wpOp hi hS ⟨fun _ => hS, H⟩
    · have := ready_mono hj hji
      rw [H.1] at this
      cases this
  | succ fuel ih =>
    intro listed a w hfree hr hy hS H
    refine ⟨fun h => (by rw [h] at hr; cases hr), fun j hj => ?_⟩
    by_cases hji : j = i
    · subst hji; exact hy.wpOp hi hS ⟨fun _ => hS, H⟩
    · have h1 := H.2 j (ready_mono hj hji)
      obtain ⟨hjun, oj, hoj, hall⟩ := mem_ready.1 hj
      have hiun : listed.getD i true = false := (mem_ready.1 hr).1
      have hjd : j ≠ d := fun e => by
        subst e
        have := hd listed hj
        rw [this] at hiun; cases hiun
      have hnot : ∀ e ∈ oj.after, Region.binds md e = true → e.on ≠ i := fun e he hb heq => by
        have h0 := hall e he hb
        rw [heq] at h0
        have h1 := hiun
        simp only [Array.getD_eq_getD_getElem?] at h0 h1
        rcases Nat.lt_or_ge i listed.size with h' | h'
        · simp [h'] at h0 h1; rw [h0] at h1; cases h1
        · simp [Array.getElem?_eq_none h'] at h1
      have h2 := wpOp_putIf hoj (hfree j oj hoj hji hjun hnot) (fun cs b => hsel i oi cs b hi) (fun cs b => hsel j oj cs b hoj) hQ hy h1
      have hfree' : ∀ k ok, ops[k]? = some ok → k ≠ i → (listed.setIfInBounds j true).getD k true = false →
          (∀ e ∈ ok.after, Region.binds md e = true → e.on ≠ i) → oi.apart ops ok = true := fun k ok hk hki hun hno => by
        refine hfree k ok hk hki ?_ hno
        by_cases hjk : j = k
        · subst hjk; exact hjun
        · rw [getD_set_ne true hjk] at hun; exact hun
      refine wpOp_mono (fun a' w' h3 => ⟨h3.2.1, ih (listed.setIfInBounds j true) a' w' hfree' (ready_mono hr (Ne.symm hji)) h3.1 (h3.2.1 hjd) ?_⟩) h2
      rw [Array.setIfInBounds_comm _ _ hji]
      exact h3.2.2

/-- does number d wait for number i? -/
def waits (md : Region.Mode) (ops : Array Oper) (d i : Nat) : Bool :=
  match ops[d]? with
  | none => true
  | some o => o.after.any fun e => Region.binds md e && e.on == i
theorem waits_spec {i : Nat} (h : waits md ops d i = true) (_hi : i < ops.size) (listed : Array Bool) (hr : d ∈ Region.ready md ops listed) : listed.getD i true = true := by
  obtain ⟨_, o, ho, hall⟩ := mem_ready.1 hr
  unfold waits at h
  rw [ho] at h
  obtain ⟨n, hn, he⟩ := Array.any_eq_true.1 h
  simp only [Bool.and_eq_true, beq_iff_eq] at he
  have := hall _ (Array.getElem_mem hn) he.1
  rw [he.2] at this
  simp only [Array.getD_eq_getD_getElem?] at this ⊢
  cases hx : listed[i]? with
  | none => rfl
  | some b => rw [hx] at this; exact this

/-- begin: F holds, and a draw does not touch it -/
theorem rg_begin {id : Nat} {a : Act} {w : World} (F : World → Prop) (d : Nat) (hm : P.follows .mixedOrders = true) (h : wpAnyD P .any ops Q F d ops.size (Array.replicate ops.size false) a w.drew) : (Code.region id ops true).wp P Q a w :=
  wp_region_any hm (wpAny_of_D _ _ _ _ h)
/-- take number i first -/
theorem rg_take {i : Nat} {oi : Oper} {v : Value} {fuel : Nat} {listed : Array Bool} {a : Act} {w : World} (hi : ops[i]? = some oi)
    (hs : (Region.noSelect ops && Region.free md ops listed i && (Region.ready md ops listed).contains i && waits md ops d i) = true)
    (hQ : ∀ c a w, Q (.panic c) (a.put oi.dst v) w → Q (.panic c) a w) (hy : Region.wanted oi (yielded ops a.tmps) = true) (hv : ∀ w, F w → (execOp a.eval oi).run P w = .ok (.value v) w) (hS : F w)
    (h : wpAnyD P md ops Q F d fuel (listed.setIfInBounds i true) (a.put oi.dst v) w) : wpAnyD P md ops Q F d (fuel + 1) listed a w := by
  simp only [Bool.and_eq_true] at hs
  obtain ⟨⟨⟨h1, h2⟩, h3⟩, h4⟩ := hs
  exact wpAnyD_first hi (Region.noSelect_spec h1) hQ (waits_spec h4 (Array.getElem?_eq_some_iff.1 hi).1) fuel listed a w (Region.free_spec hi h2) (by simpa using h3) (.inl ⟨hy, hv⟩) hS h
/-- a guarded operation that is passed over -/
theorem rg_pass {i : Nat} {oi : Oper} {fuel : Nat} {listed : Array Bool} {a : Act} {w : World} (hi : ops[i]? = some oi)
    (hs : (Region.noSelect ops && Region.free md ops listed i && (Region.ready md ops listed).contains i && waits md ops d i) = true)
    (hQ : ∀ c a w, Q (.panic c) (a.put oi.dst undef) w → Q (.panic c) a w) (hy : Region.wanted oi (yielded ops a.tmps) = false) (hS : F w)
    (h : wpAnyD P md ops Q F d fuel (listed.setIfInBounds i true) (a.put oi.dst undef) w) : wpAnyD P md ops Q F d (fuel + 1) listed a w := by
  simp only [Bool.and_eq_true] at hs
  obtain ⟨⟨⟨h1, h2⟩, h3⟩, h4⟩ := hs
  exact wpAnyD_first hi (Region.noSelect_spec h1) hQ (waits_spec h4 (Array.getElem?_eq_some_iff.1 hi).1) fuel listed a w (Region.free_spec hi h2) (by simpa using h3) (.inr ⟨hy, rfl⟩) hS h
/-- the one that may come up -/
theorem rg_one {i : Nat} {oi : Oper} {fuel : Nat} {listed : Array Bool} {a : Act} {w : World} (hi : ops[i]? = some oi) (hr : (Region.ready md ops listed == [i]) = true) (hy : Region.wanted oi (yielded ops a.tmps) = true)
    (h : ∀ K : Act → World → Prop, (∀ a w, (i ≠ d → F w) → wpAnyD P md ops Q F d fuel (listed.setIfInBounds i true) a w → K a w) → Oper.wp P oi a w K Q) : wpAnyD P md ops Q F d (fuel + 1) listed a w := by
  have hr' : Region.ready md ops listed = [i] := by simpa using hr
  refine ⟨fun h0 => (by rw [hr'] at h0; cases h0), fun j hj => ?_⟩
  rw [hr'] at hj
  obtain rfl : j = i := by simpa using hj
  unfold wpOp
  simp only [hi, hy, if_true]
  exact .inl (h _ fun a w h1 h2 => ⟨h1, h2⟩)
theorem rg_use {i d : Nat} {F : World → Prop} {X K : Act → World → Prop} {a : Act} {w : World} (hK : ∀ a w, (i ≠ d → F w) → X a w → K a w) (hF : F w) (h : F w → X a w) : K a w := hK a w (fun _ => hF) (h hF)
/-- all have come up -/
theorem rg_done {listed : Array Bool} {a : Act} {w : World} {fuel : Nat} (hr : (Region.ready md ops listed).isEmpty = true) (h : Q .normal a w) : wpAnyD P md ops Q F d fuel listed a w := by
  have hr' : Region.ready md ops listed = [] := by simpa using hr
  cases fuel with
  | zero => exact ⟨hr', h⟩
  | succ n => exact ⟨fun _ => h, by rw [hr']; simp⟩
end
end Go.Proofs.YtbnpdghfbiacaaaGreat

/- WireSame: the walk, by whether the two messages are one. No condition beyond what each theorem states. -/
namespace Go.Proofs.YtbnpdghfbiacaaaGreat.wireSame
open Go Go.RowKit Go.PlainAid Go.Proofs.YtbnpdghfbiacaaaGreat

set_option maxRecDepth 100000 in
set_option maxHeartbeats 16000000 in
theorem walk_eq (m : Msg) (A : Option Addr) (c : Nat) (B : Option Addr) (d : Nat) (W : World) (ha : ArgInts W (.slice A m.stamp.length c) m.stamp) (hr : Rng m) (hs : Short maxLen m) (hl : m.stamp.length ≤ 17592186043904) (hb : ArgInts W (.slice B m.stamp.length d) m.stamp) :
    Calls Tryz.prog 5 #[.agg (mcells m (.slice A m.stamp.length c)).toArray, .agg (mcells m (.slice B m.stamp.length d)).toArray] W fun e w' => e = .returned (.bool true) ∧ Below W.heap.size W w' := by
  have kA : Kp No W ((W.alloc (.cells (mcells m (.slice A m.stamp.length c)).toArray 28)).alloc (.cells (mcells m (.slice B m.stamp.length d)).toArray 28)) := ((Kp.refl No W).alloc _).alloc _
  have hB1 : Bk ((W.alloc (.cells (mcells m (.slice A m.stamp.length c)).toArray 28)).alloc (.cells (mcells m (.slice B m.stamp.length d)).toArray 28)) W.heap.size 28 (mcells m (.slice A m.stamp.length c)) := (Bk.new' rfl rfl).alloc _
  have hB2 : Bk ((W.alloc (.cells (mcells m (.slice A m.stamp.length c)).toArray 28)).alloc (.cells (mcells m (.slice B m.stamp.length d)).toArray 28)) (W.heap.size + 1) 28 (mcells m (.slice B m.stamp.length d)) := Bk.new' (by simp) rfl
  have pa := awake_any ((W.alloc (.cells (mcells m (.slice A m.stamp.length c)).toArray 28)).alloc (.cells (mcells m (.slice B m.stamp.length d)).toArray 28))
  have HA := Lib.hid (ha.no kA); have HB := Lib.hid (hb.no kA); have HBA := Lib.hid hB1; have HBB := Lib.hid hB2; have HK := Lib.hid kA
  have HRm := Lib.hid hr; have HSm := Lib.hid hs; have HLm := Lib.hid hl
  have HRn := Lib.hid hr; have HSn := Lib.hid hs; have HLn := Lib.hid hl
  
  clear ha hb hB1 hB2 kA hr hs hl
  have hu := Lib.hid Tryz.underlying28
  have hia : Hid ((Tryz.prog.info? 28).map (·.size) = some (mcells m (.slice A m.stamp.length c)).length) := Lib.hid (by kernel_rfl)
  have hib : Hid ((Tryz.prog.info? 28).map (·.size) = some (mcells m (.slice B m.stamp.length d)).length) := Lib.hid (by kernel_rfl)
  simp only [mcells] at pa HK HA HB
  have HBA0 := Lib.hid (show Bk _ W.heap.size 28 (mcells m (.slice A m.stamp.length c)) from HBA.out); have HBB0 := Lib.hid (show Bk _ (W.heap.size + 1) 28 (mcells m (.slice B m.stamp.length d)) from HBB.out)
  clear HBA HBB
  unfold mcells
  go_enter Tryz.func5, Tryz.ntmps5
  go_wp2_with fail
  refine pa.mono ?_
  rintro e w1 ⟨rfl, k1⟩
  have K1 := Lib.hid (HK.out.trans k1); have HA1 := Lib.hid (HA.out.no k1); have HB1 := Lib.hid (HB.out.no k1)
  have HBA1 := Lib.hid (show Bk w1 W.heap.size 28 (mcells m (.slice A m.stamp.length c)) from HBA0.out.no k1); have HBB1 := Lib.hid (show Bk w1 (W.heap.size + 1) 28 (mcells m (.slice B m.stamp.length d)) from HBB0.out.no k1)
  clear pa k1 HA HB HBA0 HBB0 HK
  go_upto_region 3 with (fail)
  go_cut [5] (fun s wx => s = .bool true ∧ Kp No w1 wx)
  case first =>
    as_aux_lemma =>
    have qa : ∀ W2, Kp No w1 W2 → Calls Tryz.prog 9 #[.agg #[.int .i64 m.kind, .int .i64 m.from_, .int .i64 m.dest, .int .i64 m.boot, .int .i64 m.seq, .int .i64 m.low, .int .i64 m.verb, .string ⟨m.path.toArray⟩, .int .i64 m.mode, .int .i64 m.term, .int .i64 m.id, .bool m.fresh, .int .i64 m.code, .slice A m.stamp.length c, .int .i64 m.origin, .int .i64 m.number]] W2 fun e w' => ∃ A9 c9, e = .returned (.agg (mcells m (.slice A9 m.stamp.length c9)).toArray) ∧ SlI w' (.slice A9 m.stamp.length c9) m.stamp ∧ Kp No w1 w' ∧ Kp No W2 w' := fun W2 k =>
      (own_any m (.slice A m.stamp.length c) W2 (HA1.out.no k) (by have := HLm.out; omega)).mono fun e w' h => by
        obtain ⟨sv, rfl, ho, k2⟩ := h
        have hs := own_slI ho
        obtain ⟨A9, c9, rfl, _⟩ := own_len ho
        exact ⟨A9, c9, rfl, hs, k.trans k2, k2⟩
    have qb : ∀ W2, Kp No w1 W2 → Calls Tryz.prog 9 #[.agg #[.int .i64 m.kind, .int .i64 m.from_, .int .i64 m.dest, .int .i64 m.boot, .int .i64 m.seq, .int .i64 m.low, .int .i64 m.verb, .string ⟨m.path.toArray⟩, .int .i64 m.mode, .int .i64 m.term, .int .i64 m.id, .bool m.fresh, .int .i64 m.code, .slice B m.stamp.length d, .int .i64 m.origin, .int .i64 m.number]] W2 fun e w' => ∃ A9 c9, e = .returned (.agg (mcells m (.slice A9 m.stamp.length c9)).toArray) ∧ SlI w' (.slice A9 m.stamp.length c9) m.stamp ∧ Kp No w1 w' ∧ Kp No W2 w' := fun W2 k =>
      (own_any m (.slice B m.stamp.length d) W2 (HB1.out.no k) (by have := HLn.out; omega)).mono fun e w' h => by
        obtain ⟨sv, rfl, ho, k2⟩ := h
        have hs := own_slI ho
        obtain ⟨A9, c9, rfl, _⟩ := own_len ho
        exact ⟨A9, c9, rfl, hs, k.trans k2, k2⟩
    have qmm : ∀ W2 A8 c8 A9 c9, Kp No w1 W2 → SlI W2 (.slice A8 m.stamp.length c8) m.stamp → SlI W2 (.slice A9 m.stamp.length c9) m.stamp → Calls Tryz.prog 16 #[.agg (mcells m (.slice A8 m.stamp.length c8)).toArray, .agg (mcells m (.slice A9 m.stamp.length c9)).toArray] W2 fun e w' => e = .returned (.bool true) ∧ Kp No w1 w' := fun W2 A8 c8 A9 c9 k h8 h9 =>
      (same_any m m _ _ W2 h8.arg h9.arg (by have := HLm.out; unfold maxLen; omega) (by have := HLm.out; unfold maxLen; omega)).mono fun e w' h => ⟨by rw [h.1]; simp, k.trans h.2⟩

    have sk : ∀ W2, Kp No w1 W2 → W2.cell? ⟨W.heap.size, 0, none⟩ = some (.int .i64 m.kind) ∧ W2.cell? ⟨W.heap.size, 1, none⟩ = some (.int .i64 m.from_) ∧ W2.cell? ⟨W.heap.size, 2, none⟩ = some (.int .i64 m.dest) ∧ W2.cell? ⟨W.heap.size, 3, none⟩ = some (.int .i64 m.boot) ∧ W2.cell? ⟨W.heap.size, 4, none⟩ = some (.int .i64 m.seq) ∧ W2.cell? ⟨W.heap.size, 5, none⟩ = some (.int .i64 m.low) ∧ W2.cell? ⟨W.heap.size, 6, none⟩ = some (.int .i64 m.verb) ∧ W2.cell? ⟨W.heap.size, 7, none⟩ = some (.string ⟨m.path.toArray⟩) ∧ W2.cell? ⟨W.heap.size, 8, none⟩ = some (.int .i64 m.mode) ∧ W2.cell? ⟨W.heap.size, 9, none⟩ = some (.int .i64 m.term) ∧ W2.cell? ⟨W.heap.size, 10, none⟩ = some (.int .i64 m.id) ∧ W2.cell? ⟨W.heap.size, 11, none⟩ = some (.bool m.fresh) ∧ W2.cell? ⟨W.heap.size, 12, none⟩ = some (.int .i64 m.code) ∧ W2.cell? ⟨W.heap.size, 13, none⟩ = some (.slice A m.stamp.length c) ∧ W2.cell? ⟨W.heap.size, 14, none⟩ = some (.int .i64 m.origin) ∧ W2.cell? ⟨W.heap.size, 15, none⟩ = some (.int .i64 m.number) ∧ W2.cell? ⟨W.heap.size + 1, 0, none⟩ = some (.int .i64 m.kind) ∧ W2.cell? ⟨W.heap.size + 1, 1, none⟩ = some (.int .i64 m.from_) ∧ W2.cell? ⟨W.heap.size + 1, 2, none⟩ = some (.int .i64 m.dest) ∧ W2.cell? ⟨W.heap.size + 1, 3, none⟩ = some (.int .i64 m.boot) ∧ W2.cell? ⟨W.heap.size + 1, 4, none⟩ = some (.int .i64 m.seq) ∧ W2.cell? ⟨W.heap.size + 1, 5, none⟩ = some (.int .i64 m.low) ∧ W2.cell? ⟨W.heap.size + 1, 6, none⟩ = some (.int .i64 m.verb) ∧ W2.cell? ⟨W.heap.size + 1, 7, none⟩ = some (.string ⟨m.path.toArray⟩) ∧ W2.cell? ⟨W.heap.size + 1, 8, none⟩ = some (.int .i64 m.mode) ∧ W2.cell? ⟨W.heap.size + 1, 9, none⟩ = some (.int .i64 m.term) ∧ W2.cell? ⟨W.heap.size + 1, 10, none⟩ = some (.int .i64 m.id) ∧ W2.cell? ⟨W.heap.size + 1, 11, none⟩ = some (.bool m.fresh) ∧ W2.cell? ⟨W.heap.size + 1, 12, none⟩ = some (.int .i64 m.code) ∧ W2.cell? ⟨W.heap.size + 1, 13, none⟩ = some (.slice B m.stamp.length d) ∧ W2.cell? ⟨W.heap.size + 1, 14, none⟩ = some (.int .i64 m.origin) ∧ W2.cell? ⟨W.heap.size + 1, 15, none⟩ = some (.int .i64 m.number) := fun W2 k => ⟨(HBA1.out.no k).cell 0, (HBA1.out.no k).cell 1, (HBA1.out.no k).cell 2, (HBA1.out.no k).cell 3, (HBA1.out.no k).cell 4, (HBA1.out.no k).cell 5, (HBA1.out.no k).cell 6, (HBA1.out.no k).cell 7, (HBA1.out.no k).cell 8, (HBA1.out.no k).cell 9, (HBA1.out.no k).cell 10, (HBA1.out.no k).cell 11, (HBA1.out.no k).cell 12, (HBA1.out.no k).cell 13, (HBA1.out.no k).cell 14, (HBA1.out.no k).cell 15, (HBB1.out.no k).cell 0, (HBB1.out.no k).cell 1, (HBB1.out.no k).cell 2, (HBB1.out.no k).cell 3, (HBB1.out.no k).cell 4, (HBB1.out.no k).cell 5, (HBB1.out.no k).cell 6, (HBB1.out.no k).cell 7, (HBB1.out.no k).cell 8, (HBB1.out.no k).cell 9, (HBB1.out.no k).cell 10, (HBB1.out.no k).cell 11, (HBB1.out.no k).cell 12, (HBB1.out.no k).cell 13, (HBB1.out.no k).cell 14, (HBB1.out.no k).cell 15⟩
    first
      | (go_region_held3 (fun W2 => W2.cell? ⟨W.heap.size, 0, none⟩ = some (.int .i64 m.kind) ∧ W2.cell? ⟨W.heap.size, 1, none⟩ = some (.int .i64 m.from_) ∧ W2.cell? ⟨W.heap.size, 2, none⟩ = some (.int .i64 m.dest) ∧ W2.cell? ⟨W.heap.size, 3, none⟩ = some (.int .i64 m.boot) ∧ W2.cell? ⟨W.heap.size, 4, none⟩ = some (.int .i64 m.seq) ∧ W2.cell? ⟨W.heap.size, 5, none⟩ = some (.int .i64 m.low) ∧ W2.cell? ⟨W.heap.size, 6, none⟩ = some (.int .i64 m.verb) ∧ W2.cell? ⟨W.heap.size, 7, none⟩ = some (.string ⟨m.path.toArray⟩) ∧ W2.cell? ⟨W.heap.size, 8, none⟩ = some (.int .i64 m.mode) ∧ W2.cell? ⟨W.heap.size, 9, none⟩ = some (.int .i64 m.term) ∧ W2.cell? ⟨W.heap.size, 10, none⟩ = some (.int .i64 m.id) ∧ W2.cell? ⟨W.heap.size, 11, none⟩ = some (.bool m.fresh) ∧ W2.cell? ⟨W.heap.size, 12, none⟩ = some (.int .i64 m.code) ∧ W2.cell? ⟨W.heap.size, 13, none⟩ = some (.slice A m.stamp.length c) ∧ W2.cell? ⟨W.heap.size, 14, none⟩ = some (.int .i64 m.origin) ∧ W2.cell? ⟨W.heap.size, 15, none⟩ = some (.int .i64 m.number) ∧ W2.cell? ⟨W.heap.size + 1, 0, none⟩ = some (.int .i64 m.kind) ∧ W2.cell? ⟨W.heap.size + 1, 1, none⟩ = some (.int .i64 m.from_) ∧ W2.cell? ⟨W.heap.size + 1, 2, none⟩ = some (.int .i64 m.dest) ∧ W2.cell? ⟨W.heap.size + 1, 3, none⟩ = some (.int .i64 m.boot) ∧ W2.cell? ⟨W.heap.size + 1, 4, none⟩ = some (.int .i64 m.seq) ∧ W2.cell? ⟨W.heap.size + 1, 5, none⟩ = some (.int .i64 m.low) ∧ W2.cell? ⟨W.heap.size + 1, 6, none⟩ = some (.int .i64 m.verb) ∧ W2.cell? ⟨W.heap.size + 1, 7, none⟩ = some (.string ⟨m.path.toArray⟩) ∧ W2.cell? ⟨W.heap.size + 1, 8, none⟩ = some (.int .i64 m.mode) ∧ W2.cell? ⟨W.heap.size + 1, 9, none⟩ = some (.int .i64 m.term) ∧ W2.cell? ⟨W.heap.size + 1, 10, none⟩ = some (.int .i64 m.id) ∧ W2.cell? ⟨W.heap.size + 1, 11, none⟩ = some (.bool m.fresh) ∧ W2.cell? ⟨W.heap.size + 1, 12, none⟩ = some (.int .i64 m.code) ∧ W2.cell? ⟨W.heap.size + 1, 13, none⟩ = some (.slice B m.stamp.length d) ∧ W2.cell? ⟨W.heap.size + 1, 14, none⟩ = some (.int .i64 m.origin) ∧ W2.cell? ⟨W.heap.size + 1, 15, none⟩ = some (.int .i64 m.number)) (first | (go_keep; done) | exact sk _ (by with_reducible repeat (first | assumption | exact Kp.refl _ _ | refine Kp.drew ?_ | refine Kp.drewN ?_ _)))
      (first
        | (go_at_call 9; (with_reducible refine (qa _ (by with_reducible repeat (first | assumption | exact Kp.refl _ _ | refine Kp.drew ?_ | refine Kp.drewN ?_ _))).mono ?_); rintro e w7 ⟨A9, c9, rfl, hs9, k7, kr7⟩)
        | (go_at_call 9; (with_reducible refine (qb _ (by with_reducible repeat (first | assumption | exact Kp.refl _ _ | refine Kp.drew ?_ | refine Kp.drewN ?_ _))).mono ?_); rintro e w7 ⟨A9, c9, rfl, hs9, k7, kr7⟩)
        | (go_at_call 16; (with_reducible refine (qmm _ _ _ _ _ (by with_reducible repeat (first | assumption | exact Kp.refl _ _ | refine Kp.drew ?_ | refine Kp.drewN ?_ _)) (by first | assumption | exact SlI.no (by assumption) (by assumption)) (by first | assumption | exact SlI.no (by assumption) (by assumption))).mono ?_); rintro e w8 ⟨rfl, k8⟩)))
      | fail "region"
    all_goals
      go_wp2_with fail
      go_meet
      exact ⟨rfl, by assumption⟩
  case rest =>
  obtain ⟨rfl, k2⟩ := hcut
  have K2 := Lib.hid (K1.out.trans k2); have HA2 := Lib.hid (HA1.out.no k2); have HB2 := Lib.hid (HB1.out.no k2); have HBA2 := Lib.hid (HBA1.out.no k2); have HBB2 := Lib.hid (HBB1.out.no k2)
  clear k2 K1 HA1 HB1 HBA1 HBB1
  have po := fun W9 (h : ArgInts W9 (.slice A m.stamp.length c) m.stamp) => own_any m (.slice A m.stamp.length c) W9 h (by have := HLm.out; omega)
  go_wp2_with (refine wpList_load_mid rfl _ _ rfl W.heap.size 0 rfl (mcells m (.slice A m.stamp.length c)) _ (range_of HBA2.out) hu.out rfl hia.out ?_)
  refine (po _ HA2.out).mono ?_
  rintro e w3 ⟨sv, rfl, ho, k3⟩
  have K3 := Lib.hid (K2.out.trans k3); have HA3 := Lib.hid (HA2.out.no k3); have HB3 := Lib.hid (HB2.out.no k3); have HBA3 := Lib.hid (HBA2.out.no k3); have HBB3 := Lib.hid (HBB2.out.no k3)
  have pe := encode_any m sv w3 (own_slI ho) HRm.out HSm.out
  skip
  clear po ho k3 K2 HA2 HB2 HBA2 HBB2
  go_wp2_with fail
  refine pe.mono ?_
  intro e w4 hres
  obtain ⟨A4, c4, rfl, hob, hcm, k4⟩ := enc_uni hres
  have K4 := Lib.hid (K3.out.trans k4); have HA4 := Lib.hid (HA3.out.no k4); have HB4 := Lib.hid (HB3.out.no k4); have HBA4 := Lib.hid (HBA3.out.no k4); have HBB4 := Lib.hid (HBB3.out.no k4)
  have HCm := Lib.hid hcm
  clear hcm pe hres hob k4 K3 HA3 HB3 HBA3 HBB3
  have po := fun W9 (h : ArgInts W9 (.slice B m.stamp.length d) m.stamp) => own_any m (.slice B m.stamp.length d) W9 h (by have := HLn.out; omega)
  go_wp2_with (refine wpList_load_mid rfl _ _ rfl (W.heap.size + 1) 0 rfl (mcells m (.slice B m.stamp.length d)) _ (range_of HBB4.out) hu.out rfl hib.out ?_)
  refine (po _ HB4.out).mono ?_
  rintro e w5 ⟨sv, rfl, ho, k5⟩
  have K5 := Lib.hid (K4.out.trans k5); have HA5 := Lib.hid (HA4.out.no k5); have HB5 := Lib.hid (HB4.out.no k5); have HBA5 := Lib.hid (HBA4.out.no k5); have HBB5 := Lib.hid (HBB4.out.no k5)
  have pe := encode_any m sv w5 (own_slI ho) HRn.out HSn.out
  have kk1 := k5
  clear po ho k5 K4 HA4 HB4 HBA4 HBB4
  go_wp2_with fail
  refine pe.mono ?_
  intro e w6 hres
  obtain ⟨A6, c6, rfl, hob, hcn, k6⟩ := enc_uni hres
  have K6 := Lib.hid (K5.out.trans k6); have HA6 := Lib.hid (HA5.out.no k6); have HB6 := Lib.hid (HB5.out.no k6); have HBA6 := Lib.hid (HBA5.out.no k6); have HBB6 := Lib.hid (HBB5.out.no k6)
  have HCn := Lib.hid hcn; have HKK := Lib.hid (kk1.trans k6)
  clear hcn pe hres hob k6 kk1 K5 HA5 HB5 HBA5 HBB5
  have hc1 := fun W9 (k : Kp No w6 W9) => HCm.out W9 (HKK.out.trans k)
  have hc2 := fun W9 (k : Kp No w6 W9) => HCn.out W9 k
  clear HCm HCn HKK
  have qa : ∀ W2, Kp No w6 W2 → Calls Tryz.prog 9 #[.agg (mcells m (.slice A m.stamp.length c)).toArray] W2 fun e w' => ∃ A9 c9, e = .returned (.agg (mcells m (.slice A9 m.stamp.length c9)).toArray) ∧ SlI w' (.slice A9 m.stamp.length c9) m.stamp ∧ Kp No w6 w' ∧ Kp No W2 w' := fun W2 k =>
    (own_any m (.slice A m.stamp.length c) W2 (HA6.out.no k) (by have := HLm.out; omega)).mono fun e w' h => by
      obtain ⟨sv, rfl, ho, k2⟩ := h
      have hs := own_slI ho
      obtain ⟨A9, c9, rfl, _⟩ := own_len ho
      exact ⟨A9, c9, rfl, hs, k.trans k2, k2⟩
  have qb : ∀ W2, Kp No w6 W2 → Calls Tryz.prog 9 #[.agg (mcells m (.slice B m.stamp.length d)).toArray] W2 fun e w' => ∃ A9 c9, e = .returned (.agg (mcells m (.slice A9 m.stamp.length c9)).toArray) ∧ SlI w' (.slice A9 m.stamp.length c9) m.stamp ∧ Kp No w6 w' ∧ Kp No W2 w' := fun W2 k =>
    (own_any m (.slice B m.stamp.length d) W2 (HB6.out.no k) (by have := HLn.out; omega)).mono fun e w' h => by
      obtain ⟨sv, rfl, ho, k2⟩ := h
      have hs := own_slI ho
      obtain ⟨A9, c9, rfl, _⟩ := own_len ho
      exact ⟨A9, c9, rfl, hs, k.trans k2, k2⟩
  have qmm : ∀ W2 A8 c8 A9 c9, Kp No w6 W2 → SlI W2 (.slice A8 m.stamp.length c8) m.stamp → SlI W2 (.slice A9 m.stamp.length c9) m.stamp → Calls Tryz.prog 16 #[.agg (mcells m (.slice A8 m.stamp.length c8)).toArray, .agg (mcells m (.slice A9 m.stamp.length c9)).toArray] W2 fun e w' => e = .returned (.bool true) ∧ Kp No w6 w' := fun W2 A8 c8 A9 c9 k h8 h9 =>
    (same_any m m _ _ W2 h8.arg h9.arg (by have := HLm.out; unfold maxLen; omega) (by have := HLm.out; unfold maxLen; omega)).mono fun e w' h => ⟨by rw [h.1]; simp, k.trans h.2⟩
  have qf : ∀ W2, Kp No w6 W2 → Calls Tryz.prog 15 #[.agg (mcells m (.slice A m.stamp.length c)).toArray, .agg (mcells m (.slice B m.stamp.length d)).toArray] W2 fun e w' => e = .returned (.bool true) ∧ Kp No w6 w' := fun W2 k =>
    (rsame_any m m A B c d W2 (HA6.out.no k) (HB6.out.no k) (by have := HLm.out; unfold maxLen; omega) (by have := HLn.out; unfold maxLen; omega)).mono fun e w' h => ⟨by rw [h.1]; simp, k.trans h.2⟩
  have hd : encE m = 0 ∨ encE m ≠ 0 := Decidable.em _
  generalize (⟨(encB m).toArray⟩ : ByteArray) = S at *
  generalize (encB m).length = n4 at *
  generalize encE m = er at *
  rcases hd with rfl | hd
  · as_aux_lemma =>
    skip
    have hF : Kp No w6 w6.drew := (Kp.refl No w6).drew
    go_upto_region 6 with (fail)
    refine rg_begin (fun W2 => Kp No w6 W2) 39 (by kernel_rfl) ?_
    refine rg_take (i := 0) (v := ?vp0) (by simp only [List.getElem?_toArray, List.getElem?_cons_zero]; rfl) (by kernel_rfl) (by exact fun _ _ _ h => h) (by rfl) ?rp0 hF ?sp0
    case rp0 => (intro W hW; clear hW; go_simp; try with_reducible rfl)
    try simp only [Act.put, List.setIfInBounds_toArray, List.set_cons_zero, List.set_cons_succ]
    refine rg_take (i := 1) (v := ?vp1) (by simp only [List.getElem?_toArray, List.getElem?_cons_succ, List.getElem?_cons_zero]; rfl) (by kernel_rfl) (by exact fun _ _ _ h => h) (by rfl) ?rp1 hF ?sp1
    case rp1 => (intro W9 hW; refine exec_load_mid W9 28 (.tmp 2) ?_ W.heap.size 0 ?_ (mcells m (.slice A m.stamp.length c)) _ (range_of (HBA6.out.no hW)) hu.out ?_ hia.out; exact rfl; exact rfl; exact rfl)
    try simp only [Act.put, List.setIfInBounds_toArray, List.set_cons_zero, List.set_cons_succ]
    refine rg_take (i := 2) (v := ?vp2) (by simp only [List.getElem?_toArray, List.getElem?_cons_succ, List.getElem?_cons_zero]; rfl) (by kernel_rfl) (by exact fun _ _ _ h => h) (by rfl) ?rp2 hF ?sp2
    case rp2 => (intro W9 hW; refine exec_load_mid W9 28 (.tmp 3) ?_ (W.heap.size + 1) 0 ?_ (mcells m (.slice B m.stamp.length d)) _ (range_of (HBB6.out.no hW)) hu.out ?_ hib.out; exact rfl; exact rfl; exact rfl)
    try simp only [Act.put, List.setIfInBounds_toArray, List.set_cons_zero, List.set_cons_succ]
    refine rg_one (i := 3) (oi := ?op3) ?ap3 ?bp3 ?cp3 ?dp3
    case ap3 => (simp only [List.getElem?_toArray, List.getElem?_cons_succ, List.getElem?_cons_zero]; rfl)
    case bp3 => kernel_rfl
    case cp3 => rfl
    intro K hK
    (go_simp; refine (qf _ (Kp.refl No w6).drew).mono ?_; rintro e wA ⟨rfl, kA⟩)
    refine rg_use hK (kA) (fun hF => ?_)
    clear hK K
    try simp only [Act.put, List.setIfInBounds_toArray, List.set_cons_zero, List.set_cons_succ]
    refine rg_take (i := 4) (v := ?vp4) (by simp only [List.getElem?_toArray, List.getElem?_cons_succ, List.getElem?_cons_zero]; rfl) (by kernel_rfl) (by exact fun _ _ _ h => h) (by rfl) ?rp4 hF ?sp4
    case rp4 => (intro W hW; clear hW; go_simp; try with_reducible rfl)
    try simp only [Act.put, List.setIfInBounds_toArray, List.set_cons_zero, List.set_cons_succ]
    refine rg_take (i := 5) (v := ?vp5) (by simp only [List.getElem?_toArray, List.getElem?_cons_succ, List.getElem?_cons_zero]; rfl) (by kernel_rfl) (by exact fun _ _ _ h => h) (by rfl) ?rp5 hF ?sp5
    case rp5 => (intro W hW; clear hW; go_simp; try with_reducible rfl)
    try simp only [Act.put, List.setIfInBounds_toArray, List.set_cons_zero, List.set_cons_succ]
    refine rg_take (i := 6) (v := ?vp6) (by simp only [List.getElem?_toArray, List.getElem?_cons_succ, List.getElem?_cons_zero]; rfl) (by kernel_rfl) (by exact fun _ _ _ h => h) (by rfl) ?rp6 hF ?sp6
    case rp6 => (intro W9 hW; refine exec_load_mid W9 28 (.tmp 2) ?_ W.heap.size 0 ?_ (mcells m (.slice A m.stamp.length c)) _ (range_of (HBA6.out.no hW)) hu.out ?_ hia.out; exact rfl; exact rfl; exact rfl)
    try simp only [Act.put, List.setIfInBounds_toArray, List.set_cons_zero, List.set_cons_succ]
    refine rg_take (i := 8) (v := ?vp8) (by simp only [List.getElem?_toArray, List.getElem?_cons_succ, List.getElem?_cons_zero]; rfl) (by kernel_rfl) (by exact fun _ _ _ h => h) (by rfl) ?rp8 hF ?sp8
    case rp8 => (intro W9 hW; refine exec_load_mid W9 28 (.tmp 2) ?_ W.heap.size 0 ?_ (mcells m (.slice A m.stamp.length c)) _ (range_of (HBA6.out.no hW)) hu.out ?_ hia.out; exact rfl; exact rfl; exact rfl)
    try simp only [Act.put, List.setIfInBounds_toArray, List.set_cons_zero, List.set_cons_succ]
    refine rg_one (i := 7) (oi := ?op7) ?ap7 ?bp7 ?cp7 ?dp7
    case ap7 => (simp only [List.getElem?_toArray, List.getElem?_cons_succ, List.getElem?_cons_zero]; rfl)
    case bp7 => kernel_rfl
    case cp7 => rfl
    intro K hK
    (go_simp; refine (qa _ kA).mono ?_; rintro e wB ⟨A7, c7, rfl, h7, kB, rB⟩)
    refine rg_use hK (kB) (fun hF => ?_)
    clear hK K
    try simp only [Act.put, List.setIfInBounds_toArray, List.set_cons_zero, List.set_cons_succ]
    refine rg_one (i := 9) (oi := ?op9) ?ap9 ?bp9 ?cp9 ?dp9
    case ap9 => (simp only [List.getElem?_toArray, List.getElem?_cons_succ, List.getElem?_cons_zero]; rfl)
    case bp9 => kernel_rfl
    case cp9 => rfl
    intro K hK
    (go_simp; refine (qa _ kB).mono ?_; rintro e wC ⟨A8, c8, rfl, h8, kC, rC⟩)
    refine rg_use hK (kC) (fun hF => ?_)
    clear hK K
    try simp only [Act.put, List.setIfInBounds_toArray, List.set_cons_zero, List.set_cons_succ]
    refine rg_one (i := 10) (oi := ?op10) ?ap10 ?bp10 ?cp10 ?dp10
    case ap10 => (simp only [List.getElem?_toArray, List.getElem?_cons_succ, List.getElem?_cons_zero]; rfl)
    case bp10 => kernel_rfl
    case cp10 => rfl
    intro K hK
    (go_simp; refine (qmm _ _ _ _ _ kC (h7.no rC) h8).mono ?_; rintro e wD ⟨rfl, kD⟩)
    refine rg_use hK (kD) (fun hF => ?_)
    clear hK K
    try simp only [Act.put, List.setIfInBounds_toArray, List.set_cons_zero, List.set_cons_succ]
    refine rg_take (i := 11) (v := ?vp11) (by simp only [List.getElem?_toArray, List.getElem?_cons_succ, List.getElem?_cons_zero]; rfl) (by kernel_rfl) (by exact fun _ _ _ h => h) (by rfl) ?rp11 hF ?sp11
    case rp11 => (intro W hW; clear hW; go_simp; try with_reducible rfl)
    try simp only [Act.put, List.setIfInBounds_toArray, List.set_cons_zero, List.set_cons_succ]
    refine rg_take (i := 12) (v := ?vp12) (by simp only [List.getElem?_toArray, List.getElem?_cons_succ, List.getElem?_cons_zero]; rfl) (by kernel_rfl) (by exact fun _ _ _ h => h) (by rfl) ?rp12 hF ?sp12
    case rp12 => (intro W hW; clear hW; go_simp; try with_reducible rfl)
    try simp only [Act.put, List.setIfInBounds_toArray, List.set_cons_zero, List.set_cons_succ]
    refine rg_take (i := 13) (v := ?vp13) (by simp only [List.getElem?_toArray, List.getElem?_cons_succ, List.getElem?_cons_zero]; rfl) (by kernel_rfl) (by exact fun _ _ _ h => h) (by rfl) ?rp13 hF ?sp13
    case rp13 => (intro W hW; clear hW; go_simp; try with_reducible rfl)
    try simp only [Act.put, List.setIfInBounds_toArray, List.set_cons_zero, List.set_cons_succ]
    refine rg_take (i := 14) (v := ?vp14) (by simp only [List.getElem?_toArray, List.getElem?_cons_succ, List.getElem?_cons_zero]; rfl) (by kernel_rfl) (by exact fun _ _ _ h => h) (by rfl) ?rp14 hF ?sp14
    case rp14 => (intro W9 hW; refine exec_load_mid W9 28 (.tmp 3) ?_ (W.heap.size + 1) 0 ?_ (mcells m (.slice B m.stamp.length d)) _ (range_of (HBB6.out.no hW)) hu.out ?_ hib.out; exact rfl; exact rfl; exact rfl)
    try simp only [Act.put, List.setIfInBounds_toArray, List.set_cons_zero, List.set_cons_succ]
    refine rg_take (i := 16) (v := ?vp16) (by simp only [List.getElem?_toArray, List.getElem?_cons_succ, List.getElem?_cons_zero]; rfl) (by kernel_rfl) (by exact fun _ _ _ h => h) (by rfl) ?rp16 hF ?sp16
    case rp16 => (intro W9 hW; refine exec_load_mid W9 28 (.tmp 2) ?_ W.heap.size 0 ?_ (mcells m (.slice A m.stamp.length c)) _ (range_of (HBA6.out.no hW)) hu.out ?_ hia.out; exact rfl; exact rfl; exact rfl)
    try simp only [Act.put, List.setIfInBounds_toArray, List.set_cons_zero, List.set_cons_succ]
    refine rg_one (i := 15) (oi := ?op15) ?ap15 ?bp15 ?cp15 ?dp15
    case ap15 => (simp only [List.getElem?_toArray, List.getElem?_cons_succ, List.getElem?_cons_zero]; rfl)
    case bp15 => kernel_rfl
    case cp15 => rfl
    intro K hK
    (go_simp; refine (qb _ kD).mono ?_; rintro e wE ⟨A9, c9, rfl, h9, kE, rE⟩)
    refine rg_use hK (kE) (fun hF => ?_)
    clear hK K
    try simp only [Act.put, List.setIfInBounds_toArray, List.set_cons_zero, List.set_cons_succ]
    refine rg_one (i := 17) (oi := ?op17) ?ap17 ?bp17 ?cp17 ?dp17
    case ap17 => (simp only [List.getElem?_toArray, List.getElem?_cons_succ, List.getElem?_cons_zero]; rfl)
    case bp17 => kernel_rfl
    case cp17 => rfl
    intro K hK
    (go_simp; refine (qa _ kE).mono ?_; rintro e wF ⟨A0, c0, rfl, h0, kF, rF⟩)
    refine rg_use hK (kF) (fun hF => ?_)
    clear hK K
    try simp only [Act.put, List.setIfInBounds_toArray, List.set_cons_zero, List.set_cons_succ]
    refine rg_one (i := 18) (oi := ?op18) ?ap18 ?bp18 ?cp18 ?dp18
    case ap18 => (simp only [List.getElem?_toArray, List.getElem?_cons_succ, List.getElem?_cons_zero]; rfl)
    case bp18 => kernel_rfl
    case cp18 => rfl
    intro K hK
    (go_simp; refine (qmm _ _ _ _ _ kF (h9.no rF) h0).mono ?_; rintro e wG ⟨rfl, kG⟩)
    refine rg_use hK (kG) (fun hF => ?_)
    clear hK K
    try simp only [Act.put, List.setIfInBounds_toArray, List.set_cons_zero, List.set_cons_succ]
    refine rg_take (i := 19) (v := ?vp19) (by simp only [List.getElem?_toArray, List.getElem?_cons_succ, List.getElem?_cons_zero]; rfl) (by kernel_rfl) (by exact fun _ _ _ h => h) (by rfl) ?rp19 hF ?sp19
    case rp19 => (intro W hW; clear hW; go_simp; try with_reducible rfl)
    try simp only [Act.put, List.setIfInBounds_toArray, List.set_cons_zero, List.set_cons_succ]
    refine rg_take (i := 20) (v := ?vp20) (by simp only [List.getElem?_toArray, List.getElem?_cons_succ, List.getElem?_cons_zero]; rfl) (by kernel_rfl) (by exact fun _ _ _ h => h) (by rfl) ?rp20 hF ?sp20
    case rp20 => (intro W hW; clear hW; go_simp; try with_reducible rfl)
    try simp only [Act.put, List.setIfInBounds_toArray, List.set_cons_zero, List.set_cons_succ]
    refine rg_take (i := 21) (v := ?vp21) (by simp only [List.getElem?_toArray, List.getElem?_cons_succ, List.getElem?_cons_zero]; rfl) (by kernel_rfl) (by exact fun _ _ _ h => h) (by rfl) ?rp21 hF ?sp21
    case rp21 => (intro W hW; clear hW; go_simp; try with_reducible rfl)
    try simp only [Act.put, List.setIfInBounds_toArray, List.set_cons_zero, List.set_cons_succ]
    refine rg_take (i := 22) (v := ?vp22) (by simp only [List.getElem?_toArray, List.getElem?_cons_succ, List.getElem?_cons_zero]; rfl) (by kernel_rfl) (by exact fun _ _ _ h => h) (by rfl) ?rp22 hF ?sp22
    case rp22 => (intro W hW; clear hW; go_simp; try with_reducible rfl)
    try simp only [Act.put, List.setIfInBounds_toArray, List.set_cons_zero, List.set_cons_succ]
    refine rg_take (i := 23) (v := ?vp23) (by simp only [List.getElem?_toArray, List.getElem?_cons_succ, List.getElem?_cons_zero]; rfl) (by kernel_rfl) (by exact fun _ _ _ h => h) (by rfl) ?rp23 hF ?sp23
    case rp23 => (intro W hW; clear hW; go_simp; try with_reducible rfl)
    try simp only [Act.put, List.setIfInBounds_toArray, List.set_cons_zero, List.set_cons_succ]
    refine rg_take (i := 24) (v := ?vp24) (by simp only [List.getElem?_toArray, List.getElem?_cons_succ, List.getElem?_cons_zero]; rfl) (by kernel_rfl) (by exact fun _ _ _ h => h) (by rfl) ?rp24 hF ?sp24
    case rp24 => (intro W hW; clear hW; go_simp; try with_reducible rfl)
    try simp only [Act.put, List.setIfInBounds_toArray, List.set_cons_zero, List.set_cons_succ]
    refine rg_take (i := 25) (v := ?vp25) (by simp only [List.getElem?_toArray, List.getElem?_cons_succ, List.getElem?_cons_zero]; rfl) (by kernel_rfl) (by exact fun _ _ _ h => h) (by rfl) ?rp25 hF ?sp25
    case rp25 => (intro W hW; clear hW; go_simp; try with_reducible rfl)
    try simp only [Act.put, List.setIfInBounds_toArray, List.set_cons_zero, List.set_cons_succ]
    refine rg_take (i := 26) (v := ?vp26) (by simp only [List.getElem?_toArray, List.getElem?_cons_succ, List.getElem?_cons_zero]; rfl) (by kernel_rfl) (by exact fun _ _ _ h => h) (by rfl) ?rp26 hF ?sp26
    case rp26 => (intro W hW; clear hW; go_simp; try with_reducible rfl)
    try simp only [Act.put, List.setIfInBounds_toArray, List.set_cons_zero, List.set_cons_succ]
    refine rg_take (i := 27) (v := ?vp27) (by simp only [List.getElem?_toArray, List.getElem?_cons_succ, List.getElem?_cons_zero]; rfl) (by kernel_rfl) (by exact fun _ _ _ h => h) (by rfl) ?rp27 hF ?sp27
    case rp27 => (intro W hW; clear hW; go_simp; try with_reducible rfl)
    try simp only [Act.put, List.setIfInBounds_toArray, List.set_cons_zero, List.set_cons_succ]
    refine rg_take (i := 28) (v := ?vp28) (by simp only [List.getElem?_toArray, List.getElem?_cons_succ, List.getElem?_cons_zero]; rfl) (by kernel_rfl) (by exact fun _ _ _ h => h) (by rfl) ?rp28 hF ?sp28
    case rp28 => (intro W hW; clear hW; go_simp; try with_reducible rfl)
    try simp only [Act.put, List.setIfInBounds_toArray, List.set_cons_zero, List.set_cons_succ]
    refine rg_take (i := 29) (v := ?vp29) (by simp only [List.getElem?_toArray, List.getElem?_cons_succ, List.getElem?_cons_zero]; rfl) (by kernel_rfl) (by exact fun _ _ _ h => h) (by rfl) ?rp29 hF ?sp29
    case rp29 => (intro W hW; clear hW; go_simp; try with_reducible rfl)
    try simp only [Act.put, List.setIfInBounds_toArray, List.set_cons_zero, List.set_cons_succ]
    refine rg_take (i := 30) (v := ?vp30) (by simp only [List.getElem?_toArray, List.getElem?_cons_succ, List.getElem?_cons_zero]; rfl) (by kernel_rfl) (by exact fun _ _ _ h => h) (by rfl) ?rp30 hF ?sp30
    case rp30 => (intro W9 hW; have h1 := hc1 W9 hW; go_simp; try with_reducible rfl)
    try simp only [Act.put, List.setIfInBounds_toArray, List.set_cons_zero, List.set_cons_succ]
    refine rg_take (i := 31) (v := ?vp31) (by simp only [List.getElem?_toArray, List.getElem?_cons_succ, List.getElem?_cons_zero]; rfl) (by kernel_rfl) (by exact fun _ _ _ h => h) (by rfl) ?rp31 hF ?sp31
    case rp31 => (intro W hW; clear hW; go_simp; try with_reducible rfl)
    try simp only [Act.put, List.setIfInBounds_toArray, List.set_cons_zero, List.set_cons_succ]
    refine rg_take (i := 32) (v := ?vp32) (by simp only [List.getElem?_toArray, List.getElem?_cons_succ, List.getElem?_cons_zero]; rfl) (by kernel_rfl) (by exact fun _ _ _ h => h) (by rfl) ?rp32 hF ?sp32
    case rp32 => (intro W9 hW; have h1 := hc2 W9 hW; go_simp; try with_reducible rfl)
    try simp only [Act.put, List.setIfInBounds_toArray, List.set_cons_zero, List.set_cons_succ]
    refine rg_take (i := 33) (v := ?vp33) (by simp only [List.getElem?_toArray, List.getElem?_cons_succ, List.getElem?_cons_zero]; rfl) (by kernel_rfl) (by exact fun _ _ _ h => h) (by rfl) ?rp33 hF ?sp33
    case rp33 => (intro W hW; clear hW; go_simp; try with_reducible rfl)
    try simp only [Act.put, List.setIfInBounds_toArray, List.set_cons_zero, List.set_cons_succ]
    refine rg_take (i := 34) (v := ?vp34) (by simp only [List.getElem?_toArray, List.getElem?_cons_succ, List.getElem?_cons_zero]; rfl) (by kernel_rfl) (by exact fun _ _ _ h => h) (by rfl) ?rp34 hF ?sp34
    case rp34 => (intro W hW; clear hW; go_simp; try with_reducible rfl)
    try simp only [Act.put, List.setIfInBounds_toArray, List.set_cons_zero, List.set_cons_succ]
    refine rg_take (i := 35) (v := ?vp35) (by simp only [List.getElem?_toArray, List.getElem?_cons_succ, List.getElem?_cons_zero]; rfl) (by kernel_rfl) (by exact fun _ _ _ h => h) (by rfl) ?rp35 hF ?sp35
    case rp35 => (intro W hW; clear hW; go_simp; try with_reducible rfl)
    try simp only [Act.put, List.setIfInBounds_toArray, List.set_cons_zero, List.set_cons_succ]
    refine rg_take (i := 36) (v := ?vp36) (by simp only [List.getElem?_toArray, List.getElem?_cons_succ, List.getElem?_cons_zero]; rfl) (by kernel_rfl) (by exact fun _ _ _ h => h) (by rfl) ?rp36 hF ?sp36
    case rp36 => (intro W hW; clear hW; go_simp; try with_reducible rfl)
    try simp only [Act.put, List.setIfInBounds_toArray, List.set_cons_zero, List.set_cons_succ]
    refine rg_take (i := 37) (v := ?vp37) (by simp only [List.getElem?_toArray, List.getElem?_cons_succ, List.getElem?_cons_zero]; rfl) (by kernel_rfl) (by exact fun _ _ _ h => h) (by rfl) ?rp37 hF ?sp37
    case rp37 => (intro W hW; clear hW; go_simp; try with_reducible rfl)
    try simp only [Act.put, List.setIfInBounds_toArray, List.set_cons_zero, List.set_cons_succ]
    refine rg_take (i := 38) (v := ?vp38) (by simp only [List.getElem?_toArray, List.getElem?_cons_succ, List.getElem?_cons_zero]; rfl) (by kernel_rfl) (by exact fun _ _ _ h => h) (by rfl) ?rp38 hF ?sp38
    case rp38 => (intro W hW; clear hW; go_simp; try with_reducible rfl)
    try simp only [Act.put, List.setIfInBounds_toArray, List.set_cons_zero, List.set_cons_succ]
    refine rg_done (by kernel_rfl) ?_
    have K9 := Lib.hid (K6.out.trans kG)
    clear hF qa qb qmm qf kA kB kC kD kE kF kG rB rC rE rF h7 h8 h9 h0 hc1 hc2
    go_wp2
    go_ret
    exact ⟨rfl, K9.out.below (Nat.le_refl _) fun _ _ m => m⟩
  · have hd1 : (er != 0) = true := by rw [bne_iff_ne]; exact hd
    clear hd
    as_aux_lemma =>
    have hF : Kp No w6 w6.drew := (Kp.refl No w6).drew
    go_upto_region 6 with (fail)
    refine rg_begin (fun W2 => Kp No w6 W2) 39 (by kernel_rfl) ?_
    refine rg_take (i := 0) (v := ?vq0) (by simp only [List.getElem?_toArray, List.getElem?_cons_zero]; rfl) (by kernel_rfl) (by exact fun _ _ _ h => h) (by rfl) ?rq0 hF ?sq0
    case rq0 => (intro W hW; clear hW; go_simp; try with_reducible rfl)
    try simp only [Act.put, List.setIfInBounds_toArray, List.set_cons_zero, List.set_cons_succ]
    refine rg_take (i := 1) (v := ?vq1) (by simp only [List.getElem?_toArray, List.getElem?_cons_succ, List.getElem?_cons_zero]; rfl) (by kernel_rfl) (by exact fun _ _ _ h => h) (by rfl) ?rq1 hF ?sq1
    case rq1 => (intro W9 hW; refine exec_load_mid W9 28 (.tmp 2) ?_ W.heap.size 0 ?_ (mcells m (.slice A m.stamp.length c)) _ (range_of (HBA6.out.no hW)) hu.out ?_ hia.out; exact rfl; exact rfl; exact rfl)
    try simp only [Act.put, List.setIfInBounds_toArray, List.set_cons_zero, List.set_cons_succ]
    refine rg_take (i := 2) (v := ?vq2) (by simp only [List.getElem?_toArray, List.getElem?_cons_succ, List.getElem?_cons_zero]; rfl) (by kernel_rfl) (by exact fun _ _ _ h => h) (by rfl) ?rq2 hF ?sq2
    case rq2 => (intro W9 hW; refine exec_load_mid W9 28 (.tmp 3) ?_ (W.heap.size + 1) 0 ?_ (mcells m (.slice B m.stamp.length d)) _ (range_of (HBB6.out.no hW)) hu.out ?_ hib.out; exact rfl; exact rfl; exact rfl)
    try simp only [Act.put, List.setIfInBounds_toArray, List.set_cons_zero, List.set_cons_succ]
    refine rg_one (i := 3) (oi := ?oq3) ?aq3 ?bq3 ?cq3 ?dq3
    case aq3 => (simp only [List.getElem?_toArray, List.getElem?_cons_succ, List.getElem?_cons_zero]; rfl)
    case bq3 => kernel_rfl
    case cq3 => rfl
    intro K hK
    (go_simp; refine (qf _ (Kp.refl No w6).drew).mono ?_; rintro e wA ⟨rfl, kA⟩)
    refine rg_use hK (kA) (fun hF => ?_)
    clear hK K
    try simp only [Act.put, List.setIfInBounds_toArray, List.set_cons_zero, List.set_cons_succ]
    refine rg_take (i := 4) (v := ?vq4) (by simp only [List.getElem?_toArray, List.getElem?_cons_succ, List.getElem?_cons_zero]; rfl) (by kernel_rfl) (by exact fun _ _ _ h => h) (by rfl) ?rq4 hF ?sq4
    case rq4 => (intro W hW; clear hW; go_simp; try with_reducible rfl)
    try simp only [Act.put, List.setIfInBounds_toArray, List.set_cons_zero, List.set_cons_succ]
    refine rg_take (i := 5) (v := ?vq5) (by simp only [List.getElem?_toArray, List.getElem?_cons_succ, List.getElem?_cons_zero]; rfl) (by kernel_rfl) (by exact fun _ _ _ h => h) (by rfl) ?rq5 hF ?sq5
    case rq5 => (intro W hW; clear hW; go_simp; try with_reducible rfl)
    try simp only [Act.put, List.setIfInBounds_toArray, List.set_cons_zero, List.set_cons_succ]
    refine rg_take (i := 6) (v := ?vq6) (by simp only [List.getElem?_toArray, List.getElem?_cons_succ, List.getElem?_cons_zero]; rfl) (by kernel_rfl) (by exact fun _ _ _ h => h) (by rfl) ?rq6 hF ?sq6
    case rq6 => (intro W9 hW; refine exec_load_mid W9 28 (.tmp 2) ?_ W.heap.size 0 ?_ (mcells m (.slice A m.stamp.length c)) _ (range_of (HBA6.out.no hW)) hu.out ?_ hia.out; exact rfl; exact rfl; exact rfl)
    try simp only [Act.put, List.setIfInBounds_toArray, List.set_cons_zero, List.set_cons_succ]
    refine rg_take (i := 8) (v := ?vq8) (by simp only [List.getElem?_toArray, List.getElem?_cons_succ, List.getElem?_cons_zero]; rfl) (by kernel_rfl) (by exact fun _ _ _ h => h) (by rfl) ?rq8 hF ?sq8
    case rq8 => (intro W9 hW; refine exec_load_mid W9 28 (.tmp 2) ?_ W.heap.size 0 ?_ (mcells m (.slice A m.stamp.length c)) _ (range_of (HBA6.out.no hW)) hu.out ?_ hia.out; exact rfl; exact rfl; exact rfl)
    try simp only [Act.put, List.setIfInBounds_toArray, List.set_cons_zero, List.set_cons_succ]
    refine rg_one (i := 7) (oi := ?oq7) ?aq7 ?bq7 ?cq7 ?dq7
    case aq7 => (simp only [List.getElem?_toArray, List.getElem?_cons_succ, List.getElem?_cons_zero]; rfl)
    case bq7 => kernel_rfl
    case cq7 => rfl
    intro K hK
    (go_simp; refine (qa _ kA).mono ?_; rintro e wB ⟨A7, c7, rfl, h7, kB, rB⟩)
    refine rg_use hK (kB) (fun hF => ?_)
    clear hK K
    try simp only [Act.put, List.setIfInBounds_toArray, List.set_cons_zero, List.set_cons_succ]
    refine rg_one (i := 9) (oi := ?oq9) ?aq9 ?bq9 ?cq9 ?dq9
    case aq9 => (simp only [List.getElem?_toArray, List.getElem?_cons_succ, List.getElem?_cons_zero]; rfl)
    case bq9 => kernel_rfl
    case cq9 => rfl
    intro K hK
    (go_simp; refine (qa _ kB).mono ?_; rintro e wC ⟨A8, c8, rfl, h8, kC, rC⟩)
    refine rg_use hK (kC) (fun hF => ?_)
    clear hK K
    try simp only [Act.put, List.setIfInBounds_toArray, List.set_cons_zero, List.set_cons_succ]
    refine rg_one (i := 10) (oi := ?oq10) ?aq10 ?bq10 ?cq10 ?dq10
    case aq10 => (simp only [List.getElem?_toArray, List.getElem?_cons_succ, List.getElem?_cons_zero]; rfl)
    case bq10 => kernel_rfl
    case cq10 => rfl
    intro K hK
    (go_simp; refine (qmm _ _ _ _ _ kC (h7.no rC) h8).mono ?_; rintro e wD ⟨rfl, kD⟩)
    refine rg_use hK (kD) (fun hF => ?_)
    clear hK K
    try simp only [Act.put, List.setIfInBounds_toArray, List.set_cons_zero, List.set_cons_succ]
    refine rg_take (i := 11) (v := ?vq11) (by simp only [List.getElem?_toArray, List.getElem?_cons_succ, List.getElem?_cons_zero]; rfl) (by kernel_rfl) (by exact fun _ _ _ h => h) (by rfl) ?rq11 hF ?sq11
    case rq11 => (intro W hW; clear hW; go_simp; try with_reducible rfl)
    try simp only [Act.put, List.setIfInBounds_toArray, List.set_cons_zero, List.set_cons_succ]
    refine rg_take (i := 12) (v := ?vq12) (by simp only [List.getElem?_toArray, List.getElem?_cons_succ, List.getElem?_cons_zero]; rfl) (by kernel_rfl) (by exact fun _ _ _ h => h) (by rfl) ?rq12 hF ?sq12
    case rq12 => (intro W hW; clear hW; go_simp; try with_reducible rfl)
    try simp only [Act.put, List.setIfInBounds_toArray, List.set_cons_zero, List.set_cons_succ]
    refine rg_take (i := 13) (v := ?vq13) (by simp only [List.getElem?_toArray, List.getElem?_cons_succ, List.getElem?_cons_zero]; rfl) (by kernel_rfl) (by exact fun _ _ _ h => h) (by rfl) ?rq13 hF ?sq13
    case rq13 => (intro W hW; clear hW; go_simp; try with_reducible rfl)
    try simp only [Act.put, List.setIfInBounds_toArray, List.set_cons_zero, List.set_cons_succ]
    refine rg_take (i := 14) (v := ?vq14) (by simp only [List.getElem?_toArray, List.getElem?_cons_succ, List.getElem?_cons_zero]; rfl) (by kernel_rfl) (by exact fun _ _ _ h => h) (by rfl) ?rq14 hF ?sq14
    case rq14 => (intro W9 hW; refine exec_load_mid W9 28 (.tmp 3) ?_ (W.heap.size + 1) 0 ?_ (mcells m (.slice B m.stamp.length d)) _ (range_of (HBB6.out.no hW)) hu.out ?_ hib.out; exact rfl; exact rfl; exact rfl)
    try simp only [Act.put, List.setIfInBounds_toArray, List.set_cons_zero, List.set_cons_succ]
    refine rg_take (i := 16) (v := ?vq16) (by simp only [List.getElem?_toArray, List.getElem?_cons_succ, List.getElem?_cons_zero]; rfl) (by kernel_rfl) (by exact fun _ _ _ h => h) (by rfl) ?rq16 hF ?sq16
    case rq16 => (intro W9 hW; refine exec_load_mid W9 28 (.tmp 2) ?_ W.heap.size 0 ?_ (mcells m (.slice A m.stamp.length c)) _ (range_of (HBA6.out.no hW)) hu.out ?_ hia.out; exact rfl; exact rfl; exact rfl)
    try simp only [Act.put, List.setIfInBounds_toArray, List.set_cons_zero, List.set_cons_succ]
    refine rg_one (i := 15) (oi := ?oq15) ?aq15 ?bq15 ?cq15 ?dq15
    case aq15 => (simp only [List.getElem?_toArray, List.getElem?_cons_succ, List.getElem?_cons_zero]; rfl)
    case bq15 => kernel_rfl
    case cq15 => rfl
    intro K hK
    (go_simp; refine (qb _ kD).mono ?_; rintro e wE ⟨A9, c9, rfl, h9, kE, rE⟩)
    refine rg_use hK (kE) (fun hF => ?_)
    clear hK K
    try simp only [Act.put, List.setIfInBounds_toArray, List.set_cons_zero, List.set_cons_succ]
    refine rg_one (i := 17) (oi := ?oq17) ?aq17 ?bq17 ?cq17 ?dq17
    case aq17 => (simp only [List.getElem?_toArray, List.getElem?_cons_succ, List.getElem?_cons_zero]; rfl)
    case bq17 => kernel_rfl
    case cq17 => rfl
    intro K hK
    (go_simp; refine (qa _ kE).mono ?_; rintro e wF ⟨A0, c0, rfl, h0, kF, rF⟩)
    refine rg_use hK (kF) (fun hF => ?_)
    clear hK K
    try simp only [Act.put, List.setIfInBounds_toArray, List.set_cons_zero, List.set_cons_succ]
    refine rg_one (i := 18) (oi := ?oq18) ?aq18 ?bq18 ?cq18 ?dq18
    case aq18 => (simp only [List.getElem?_toArray, List.getElem?_cons_succ, List.getElem?_cons_zero]; rfl)
    case bq18 => kernel_rfl
    case cq18 => rfl
    intro K hK
    (go_simp; refine (qmm _ _ _ _ _ kF (h9.no rF) h0).mono ?_; rintro e wG ⟨rfl, kG⟩)
    refine rg_use hK (kG) (fun hF => ?_)
    clear hK K
    try simp only [Act.put, List.setIfInBounds_toArray, List.set_cons_zero, List.set_cons_succ]
    refine rg_take (i := 19) (v := ?vq19) (by simp only [List.getElem?_toArray, List.getElem?_cons_succ, List.getElem?_cons_zero]; rfl) (by kernel_rfl) (by exact fun _ _ _ h => h) (by rfl) ?rq19 hF ?sq19
    case rq19 => (intro W hW; clear hW; go_simp; try with_reducible rfl)
    try simp only [Act.put, List.setIfInBounds_toArray, List.set_cons_zero, List.set_cons_succ]
    refine rg_take (i := 20) (v := ?vq20) (by simp only [List.getElem?_toArray, List.getElem?_cons_succ, List.getElem?_cons_zero]; rfl) (by kernel_rfl) (by exact fun _ _ _ h => h) (by rfl) ?rq20 hF ?sq20
    case rq20 => (intro W hW; clear hW; go_simp; try with_reducible rfl)
    try simp only [Act.put, List.setIfInBounds_toArray, List.set_cons_zero, List.set_cons_succ]
    refine rg_take (i := 21) (v := ?vq21) (by simp only [List.getElem?_toArray, List.getElem?_cons_succ, List.getElem?_cons_zero]; rfl) (by kernel_rfl) (by exact fun _ _ _ h => h) (by rfl) ?rq21 hF ?sq21
    case rq21 => (intro W hW; clear hW; go_simp; try with_reducible rfl)
    try simp only [Act.put, List.setIfInBounds_toArray, List.set_cons_zero, List.set_cons_succ]
    refine rg_take (i := 22) (v := ?vq22) (by simp only [List.getElem?_toArray, List.getElem?_cons_succ, List.getElem?_cons_zero]; rfl) (by kernel_rfl) (by exact fun _ _ _ h => h) (by rfl) ?rq22 hF ?sq22
    case rq22 => (intro W hW; clear hW; go_simp; try with_reducible rfl)
    try simp only [Act.put, List.setIfInBounds_toArray, List.set_cons_zero, List.set_cons_succ]
    refine rg_take (i := 23) (v := ?vq23) (by simp only [List.getElem?_toArray, List.getElem?_cons_succ, List.getElem?_cons_zero]; rfl) (by kernel_rfl) (by exact fun _ _ _ h => h) (by rfl) ?rq23 hF ?sq23
    case rq23 => (intro W hW; clear hW; go_simp; try with_reducible rfl)
    try simp only [Act.put, List.setIfInBounds_toArray, List.set_cons_zero, List.set_cons_succ]
    refine rg_take (i := 24) (v := ?vq24) (by simp only [List.getElem?_toArray, List.getElem?_cons_succ, List.getElem?_cons_zero]; rfl) (by kernel_rfl) (by exact fun _ _ _ h => h) (by rfl) ?rq24 hF ?sq24
    case rq24 => (intro W hW; clear hW; go_simp; try with_reducible rfl)
    try simp only [Act.put, List.setIfInBounds_toArray, List.set_cons_zero, List.set_cons_succ]
    refine rg_pass (i := 25) (by simp only [List.getElem?_toArray, List.getElem?_cons_succ, List.getElem?_cons_zero]; rfl) (by kernel_rfl) (by exact fun _ _ _ h => h) (by rfl) hF ?_
    try simp only [Act.put, List.setIfInBounds_toArray, List.set_cons_zero, List.set_cons_succ]
    refine rg_pass (i := 26) (by simp only [List.getElem?_toArray, List.getElem?_cons_succ, List.getElem?_cons_zero]; rfl) (by kernel_rfl) (by exact fun _ _ _ h => h) (by rfl) hF ?_
    try simp only [Act.put, List.setIfInBounds_toArray, List.set_cons_zero, List.set_cons_succ]
    refine rg_take (i := 27) (v := ?vq27) (by simp only [List.getElem?_toArray, List.getElem?_cons_succ, List.getElem?_cons_zero]; rfl) (by kernel_rfl) (by exact fun _ _ _ h => h) (by rfl) ?rq27 hF ?sq27
    case rq27 => (intro W hW; clear hW; go_simp; try with_reducible rfl)
    try simp only [Act.put, List.setIfInBounds_toArray, List.set_cons_zero, List.set_cons_succ]
    refine rg_take (i := 28) (v := ?vq28) (by simp only [List.getElem?_toArray, List.getElem?_cons_succ, List.getElem?_cons_zero]; rfl) (by kernel_rfl) (by exact fun _ _ _ h => h) (by rfl) ?rq28 hF ?sq28
    case rq28 => (intro W hW; clear hW; go_simp; try with_reducible rfl)
    try simp only [Act.put, List.setIfInBounds_toArray, List.set_cons_zero, List.set_cons_succ]
    refine rg_pass (i := 29) (by simp only [List.getElem?_toArray, List.getElem?_cons_succ, List.getElem?_cons_zero]; rfl) (by kernel_rfl) (by exact fun _ _ _ h => h) (by rfl) hF ?_
    try simp only [Act.put, List.setIfInBounds_toArray, List.set_cons_zero, List.set_cons_succ]
    refine rg_pass (i := 30) (by simp only [List.getElem?_toArray, List.getElem?_cons_succ, List.getElem?_cons_zero]; rfl) (by kernel_rfl) (by exact fun _ _ _ h => h) (by rfl) hF ?_
    try simp only [Act.put, List.setIfInBounds_toArray, List.set_cons_zero, List.set_cons_succ]
    refine rg_pass (i := 31) (by simp only [List.getElem?_toArray, List.getElem?_cons_succ, List.getElem?_cons_zero]; rfl) (by kernel_rfl) (by exact fun _ _ _ h => h) (by rfl) hF ?_
    try simp only [Act.put, List.setIfInBounds_toArray, List.set_cons_zero, List.set_cons_succ]
    refine rg_pass (i := 32) (by simp only [List.getElem?_toArray, List.getElem?_cons_succ, List.getElem?_cons_zero]; rfl) (by kernel_rfl) (by exact fun _ _ _ h => h) (by rfl) hF ?_
    try simp only [Act.put, List.setIfInBounds_toArray, List.set_cons_zero, List.set_cons_succ]
    refine rg_pass (i := 33) (by simp only [List.getElem?_toArray, List.getElem?_cons_succ, List.getElem?_cons_zero]; rfl) (by kernel_rfl) (by exact fun _ _ _ h => h) (by rfl) hF ?_
    try simp only [Act.put, List.setIfInBounds_toArray, List.set_cons_zero, List.set_cons_succ]
    refine rg_pass (i := 34) (by simp only [List.getElem?_toArray, List.getElem?_cons_succ, List.getElem?_cons_zero]; rfl) (by kernel_rfl) (by exact fun _ _ _ h => h) (by rfl) hF ?_
    try simp only [Act.put, List.setIfInBounds_toArray, List.set_cons_zero, List.set_cons_succ]
    refine rg_pass (i := 35) (by simp only [List.getElem?_toArray, List.getElem?_cons_succ, List.getElem?_cons_zero]; rfl) (by kernel_rfl) (by exact fun _ _ _ h => h) (by rfl) hF ?_
    try simp only [Act.put, List.setIfInBounds_toArray, List.set_cons_zero, List.set_cons_succ]
    refine rg_take (i := 36) (v := ?vq36) (by simp only [List.getElem?_toArray, List.getElem?_cons_succ, List.getElem?_cons_zero]; rfl) (by kernel_rfl) (by exact fun _ _ _ h => h) (by rfl) ?rq36 hF ?sq36
    case rq36 => (intro W hW; clear hW; go_simp; try with_reducible rfl)
    try simp only [Act.put, List.setIfInBounds_toArray, List.set_cons_zero, List.set_cons_succ]
    refine rg_take (i := 37) (v := ?vq37) (by simp only [List.getElem?_toArray, List.getElem?_cons_succ, List.getElem?_cons_zero]; rfl) (by kernel_rfl) (by exact fun _ _ _ h => h) (by rfl) ?rq37 hF ?sq37
    case rq37 => (intro W hW; clear hW; go_simp; try with_reducible rfl)
    try simp only [Act.put, List.setIfInBounds_toArray, List.set_cons_zero, List.set_cons_succ]
    refine rg_take (i := 38) (v := ?vq38) (by simp only [List.getElem?_toArray, List.getElem?_cons_succ, List.getElem?_cons_zero]; rfl) (by kernel_rfl) (by exact fun _ _ _ h => h) (by rfl) ?rq38 hF ?sq38
    case rq38 => (intro W hW; clear hW; go_simp; try with_reducible rfl)
    try simp only [Act.put, List.setIfInBounds_toArray, List.set_cons_zero, List.set_cons_succ]
    refine rg_done (by kernel_rfl) ?_
    have K9 := Lib.hid (K6.out.trans kG)
    clear hF qa qb qmm qf kA kB kC kD kE kF kG rB rC rE rF h7 h8 h9 h0 hc1 hc2
    go_wp2
    go_ret
    exact ⟨rfl, K9.out.below (Nat.le_refl _) fun _ _ m => m⟩
end Go.Proofs.YtbnpdghfbiacaaaGreat.wireSame
