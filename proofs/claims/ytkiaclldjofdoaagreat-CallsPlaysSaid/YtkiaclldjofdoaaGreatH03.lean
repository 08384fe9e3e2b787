/- Several texts of this claim in one. No condition beyond what each theorem states. -/
import Derived.Test.YtkiaclldjofdoaaGreatH02
import Derived.Test.YtkiaclldjofdoaaGreatB04
import Derived.Test.YtkiaclldjofdoaaGreatB01
import Derived.OrdersHeld
import Derived.RegionTactic
/- The message of a call by contract. No condition beyond what each theorem states. -/
namespace Go.Proofs.YtkiaclldjofdoaaGreat
open Go Go.RowKit Go.Maps

/-- the message of a call -/
def msgC (x : Cll) (f boot low : Int) : Msg := { kind := 1, from_ := f, dest := x.dest, boot := boot, seq := x.seq, low := low, verb := x.verb, path := x.path, mode := x.mode, term := x.term, id := x.id, fresh := x.fresh }
/-- its cells -/
def mC (x : Cll) (f boot low : Int) : List Value := mcells (msgC x f boot low) (.slice none 0 0)
/-- no message's cells -/
def m0 : List Value := mcells ({} : Msg) (.slice none 0 0)
theorem infoM : (Tryz.prog.info? 50).map (·.size) = some 16 := by kernel_rfl
/-- cells of a message as a variable -/
structure Sxt (C : List Value) : Prop where
  len : C.length = 16
  one : C.toArray.all (·.oneCell') = true
theorem Sxt.of (m : Msg) : Sxt (mcells m (.slice none 0 0)) := ⟨rfl, by simp [mcells, Value.oneCell']⟩
theorem Sxt.info {C : List Value} (h : Sxt C) : (Tryz.prog.info? 50).map (·.size) = some C.toArray.size := by rw [List.size_toArray, h.len]; exact infoM
theorem Sxt.infoL {C : List Value} (h : Sxt C) : (Tryz.prog.info? 50).map (·.size) = some C.length := by rw [h.len]; exact infoM
theorem Bk.thereM {w : World} {g : Nat} {t : TypeId} {cs C : List Value} (h : Bk w g t cs) (hl : cs.length = 16) (hC : Sxt C) : w.there g 0 C.toArray.size := by
  rw [List.size_toArray, hC.len]; exact h.there 0 16 (by omega)

set_option maxRecDepth 100000 in
set_option maxHeartbeats 4000000 in
theorem cask_any (x : Cll) (f boot low : Int) (W : World) : Calls Tryz.prog 29 #[vC x, .int .i64 f, .int .i64 boot, .int .i64 low] W fun e w' => e = .returned (.agg (mC x f boot low).toArray) ∧ Kp No W w' := by
  obtain ⟨C, hC⟩ : ∃ C, C = mC x f boot low := ⟨_, rfl⟩
  rw [← hC]
  have HT := Lib.hid (show Sxt C by rw [hC]; exact Sxt.of _)
  obtain ⟨a0, a1, a2, a3, a4, a5, a6, a7, a8, a9⟩ := x
  have HB := Lib.hid (Bk.new (W.alloc (.cells (cC ⟨a0, a1, a2, a3, a4, a5, a6, a7, a8, a9⟩).toArray 32)) 50 m0)
  have HK := Lib.hid (((Kp.refl No W).alloc (.cells (cC ⟨a0, a1, a2, a3, a4, a5, a6, a7, a8, a9⟩).toArray 32)).alloc (.cells m0.toArray 50))
  have HAZ : Hid ((.agg #[.int .i64 1, .int .i64 f, .int .i64 a1, .int .i64 boot, .int .i64 a0, .int .i64 low, .int .i64 a2, .string ⟨a3.toArray⟩, .int .i64 a4, .int .i64 a5, .int .i64 a6, .bool a7, .int .i64 0, .slice none 0 0, .int .i64 0, .int .i64 0] : Value) = .agg C.toArray) := Lib.hid (by rw [hC]; rfl)
  have es : (W.alloc (.cells (cC ⟨a0, a1, a2, a3, a4, a5, a6, a7, a8, a9⟩).toArray 32)).heap.size = W.heap.size + 1 := by simp
  rw [es] at HB
  have HTH := Lib.hid (HB.out.thereM rfl HT.out)
  have HX := Lib.hid ((HB.out.put (C := C) (by rw [HT.out.len]; rfl)).all_)
  have HK2 := Lib.hid (HK.out.sets (g := W.heap.size + 1) C 0 (.inr (by omega)))
  have HM := Lib.hid HT.out.info
  have HO := Lib.hid HT.out.one
  have HI := Lib.hid HT.out.infoL
  simp only [cC, m0, mcells] at HTH HX HK2
  clear HB HK es hC
  unfold vC cC
  go_enter Tryz.func29, Tryz.ntmps29
  go_wp2_with (refine wpList_store_mid rfl _ _ _ rfl (W.heap.size + 1) 0 C.toArray rfl HAZ.out HTH.out HM.out HO.out ?_)
  exact bodyPost_ret (res_c rfl _ _ rfl HX.out Tryz.underlying50 rfl HI.out) rfl ⟨rfl, HK2.out⟩
end Go.Proofs.YtkiaclldjofdoaaGreat

/- A region that draws its order, whose last operation comes behind all others: loads of cells that stand till then may be taken first. -/
namespace Go.Proofs.YtkiaclldjofdoaaGreat
open Go.RowKit
section
variable {P : Program} {ops : Array Oper} {Q : Exit → Act → World → Prop} {md : Region.Mode} {F : World → Prop} {d : Nat}

/-- whatever order is picked, and F holds behind every operation but number d -/
def wpAnyD (P : Program) (md : Region.Mode) (ops : Array Oper) (Q : Exit → Act → World → Prop) (F : World → Prop) (d : Nat) : Nat → Array Bool → Act → World → Prop
  | 0, listed, a, w => Region.ready md ops listed = [] ∧ Q .normal a w
  | fuel + 1, listed, a, w =>
    (Region.ready md ops listed = [] → Q .normal a w) ∧
    ∀ i ∈ Region.ready md ops listed, wpOp P ops Q i (fun a' w' => (i ≠ d → F w') ∧ wpAnyD P md ops Q F d fuel (listed.setIfInBounds i true) a' w') a w

theorem wpAny_of_D : ∀ (fuel : Nat) (listed : Array Bool) (a : Act) (w : World), wpAnyD P md ops Q F d fuel listed a w → wpAny P md ops Q fuel listed a w
  | 0, _, _, _, h => h
  | fuel + 1, _, _, _, h => ⟨h.1, fun i hi => wpOp_mono (fun a' w' h' => wpAny_of_D fuel _ a' w' h'.2) (h.2 i hi)⟩

theorem wpAnyD_first {i : Nat} {oi : Oper} {v : Value} (hi : ops[i]? = some oi) (hsel : ∀ (j : Nat) (o : Oper) cs b, ops[j]? = some o → o.op ≠ .select cs b)
    (hQ : ∀ c a w, Q (.panic c) (a.put oi.dst v) w → Q (.panic c) a w)
    (hd : ∀ listed : Array Bool, d ∈ Region.ready md ops listed → listed.getD i true = true) :
    ∀ (fuel : Nat) (listed : Array Bool) (a : Act) (w : World),
      (∀ j oj, ops[j]? = some oj → j ≠ i → listed.getD j true = false → (∀ e ∈ oj.after, Region.binds md e = true → e.on ≠ i) → oi.apart ops oj = true) →
      i ∈ Region.ready md ops listed → YieldsIf P ops F oi v a → F w →
      wpAnyD P md ops Q F d fuel (listed.setIfInBounds i true) (a.put oi.dst v) w → wpAnyD P md ops Q F d (fuel + 1) listed a w := by
  intro fuel
  induction fuel with
  | zero =>
    intro listed a w _ hr hy hS H
    refine ⟨fun h => (by rw [h] at hr; cases hr), fun j hj => ?_⟩
    by_cases hji : j = i
    · subst hji; exact hy.wpOp hi hS ⟨fun _ => hS, H⟩
    · have := ready_mono hj hji
      rw [H.1] at this
      cases this
  | succ fuel ih =>
    intro listed a w hfree hr hy hS H
    refine ⟨fun h => (by rw [h] at hr; cases hr), fun j hj => ?_⟩
    by_cases hji : j = i
    · subst hji; exact hy.wpOp hi hS ⟨fun _ => hS, H⟩
    · have h1 := H.2 j (ready_mono hj hji)
      obtain ⟨hjun, oj, hoj, hall⟩ := mem_ready.1 hj
      have hiun : listed.getD i true = false := (mem_ready.1 hr).1
      have hjd : j ≠ d := fun e => by
        subst e
        have := hd listed hj
        rw [this] at hiun; cases hiun
      have hnot : ∀ e ∈ oj.after, Region.binds md e = true → e.on ≠ i := fun e he hb heq => by
        have h0 := hall e he hb
        rw [heq] at h0
        have h1 := hiun
        simp only [Array.getD_eq_getD_getElem?] at h0 h1
        rcases Nat.lt_or_ge i listed.size with h' | h'
        · simp [h'] at h0 h1; rw [h0] at h1; cases h1
        · simp [Array.getElem?_eq_none h'] at h1
      have h2 := wpOp_putIf hoj (hfree j oj hoj hji hjun hnot) (fun cs b => hsel i oi cs b hi) (fun cs b => hsel j oj cs b hoj) hQ hy h1
      have hfree' : ∀ k ok, ops[k]? = some ok → k ≠ i → (listed.setIfInBounds j true).getD k true = false →
          (∀ e ∈ ok.after, Region.binds md e = true → e.on ≠ i) → oi.apart ops ok = true := fun k ok hk hki hun hno => by
        refine hfree k ok hk hki ?_ hno
        by_cases hjk : j = k
        · subst hjk; exact hjun
        · rw [getD_set_ne true hjk] at hun; exact hun
      refine wpOp_mono (fun a' w' h3 => ⟨h3.2.1, ih (listed.setIfInBounds j true) a' w' hfree' (ready_mono hr (Ne.symm hji)) h3.1 (h3.2.1 hjd) ?_⟩) h2
      rw [Array.setIfInBounds_comm _ _ hji]
      exact h3.2.2

/-- does number d wait for number i? -/
def waits (md : Region.Mode) (ops : Array Oper) (d i : Nat) : Bool :=
  match ops[d]? with
  | none => true
  | some o => o.after.any fun e => Region.binds md e && e.on == i
theorem waits_spec {i : Nat} (h : waits md ops d i = true) (_hi : i < ops.size) (listed : Array Bool) (hr : d ∈ Region.ready md ops listed) : listed.getD i true = true := by
  obtain ⟨_, o, ho, hall⟩ := mem_ready.1 hr
  unfold waits at h
  rw [ho] at h
  obtain ⟨n, hn, he⟩ := Array.any_eq_true.1 h
  simp only [Bool.and_eq_true, beq_iff_eq] at he
  have := hall _ (Array.getElem_mem hn) he.1
  rw [he.2] at this
  simp only [Array.getD_eq_getD_getElem?] at this ⊢
  cases hx : listed[i]? with
  | none => rfl
  | some b => rw [hx] at this; exact this

/-- begin: F holds, and a draw does not touch it -/
theorem rg_begin {id : Nat} {a : Act} {w : World} (F : World → Prop) (d : Nat) (hm : P.follows .mixedOrders = true) (h : wpAnyD P .any ops Q F d ops.size (Array.replicate ops.size false) a w.drew) : (Code.region id ops true).wp P Q a w :=
  wp_region_any hm (wpAny_of_D _ _ _ _ h)
/-- take number i first -/
theorem rg_take {i : Nat} {oi : Oper} {v : Value} {fuel : Nat} {listed : Array Bool} {a : Act} {w : World} (hi : ops[i]? = some oi)
    (hs : (Region.noSelect ops && Region.free md ops listed i && (Region.ready md ops listed).contains i && waits md ops d i) = true)
    (hQ : ∀ c a w, Q (.panic c) (a.put oi.dst v) w → Q (.panic c) a w) (hy : Region.wanted oi (yielded ops a.tmps) = true) (hv : ∀ w, F w → (execOp a.eval oi).run P w = .ok (.value v) w) (hS : F w)
    (h : wpAnyD P md ops Q F d fuel (listed.setIfInBounds i true) (a.put oi.dst v) w) : wpAnyD P md ops Q F d (fuel + 1) listed a w := by
  simp only [Bool.and_eq_true] at hs
  obtain ⟨⟨⟨h1, h2⟩, h3⟩, h4⟩ := hs
  exact wpAnyD_first hi (Region.noSelect_spec h1) hQ (waits_spec h4 (Array.getElem?_eq_some_iff.1 hi).1) fuel listed a w (Region.free_spec hi h2) (by simpa using h3) (.inl ⟨hy, hv⟩) hS h
/-- a guarded operation that is passed over -/
theorem rg_pass {i : Nat} {oi : Oper} {fuel : Nat} {listed : Array Bool} {a : Act} {w : World} (hi : ops[i]? = some oi)
    (hs : (Region.noSelect ops && Region.free md ops listed i && (Region.ready md ops listed).contains i && waits md ops d i) = true)
    (hQ : ∀ c a w, Q (.panic c) (a.put oi.dst undef) w → Q (.panic c) a w) (hy : Region.wanted oi (yielded ops a.tmps) = false) (hS : F w)
    (h : wpAnyD P md ops Q F d fuel (listed.setIfInBounds i true) (a.put oi.dst undef) w) : wpAnyD P md ops Q F d (fuel + 1) listed a w := by
  simp only [Bool.and_eq_true] at hs
  obtain ⟨⟨⟨h1, h2⟩, h3⟩, h4⟩ := hs
  exact wpAnyD_first hi (Region.noSelect_spec h1) hQ (waits_spec h4 (Array.getElem?_eq_some_iff.1 hi).1) fuel listed a w (Region.free_spec hi h2) (by simpa using h3) (.inr ⟨hy, rfl⟩) hS h
/-- the one that may come up -/
theorem rg_one {i : Nat} {oi : Oper} {fuel : Nat} {listed : Array Bool} {a : Act} {w : World} (hi : ops[i]? = some oi) (hr : (Region.ready md ops listed == [i]) = true) (hy : Region.wanted oi (yielded ops a.tmps) = true)
    (h : ∀ K : Act → World → Prop, (∀ a w, (i ≠ d → F w) → wpAnyD P md ops Q F d fuel (listed.setIfInBounds i true) a w → K a w) → Oper.wp P oi a w K Q) : wpAnyD P md ops Q F d (fuel + 1) listed a w := by
  have hr' : Region.ready md ops listed = [i] := by simpa using hr
  refine ⟨fun h0 => (by rw [hr'] at h0; cases h0), fun j hj => ?_⟩
  rw [hr'] at hj
  obtain rfl : j = i := by simpa using hj
  unfold wpOp
  simp only [hi, hy, if_true]
  exact .inl (h _ fun a w h1 h2 => ⟨h1, h2⟩)
theorem rg_use {i d : Nat} {F : World → Prop} {X K : Act → World → Prop} {a : Act} {w : World} (hK : ∀ a w, (i ≠ d → F w) → X a w → K a w) (hF : F w) (h : F w → X a w) : K a w := hK a w (fun _ => hF) (h hF)
/-- all have come up -/
theorem rg_done {listed : Array Bool} {a : Act} {w : World} {fuel : Nat} (hr : (Region.ready md ops listed).isEmpty = true) (h : Q .normal a w) : wpAnyD P md ops Q F d fuel listed a w := by
  have hr' : Region.ready md ops listed = [] := by simpa using hr
  cases fuel with
  | zero => exact ⟨hr', h⟩
  | succ n => exact ⟨fun _ => h, by rw [hr']; simp⟩
end
end Go.Proofs.YtkiaclldjofdoaaGreat

/- Ask by contract. No condition beyond what each theorem states. -/
namespace Go.Proofs.YtkiaclldjofdoaaGreat
open Go Go.RowKit Go.Maps

/-- may the call's message be asked from here? -/
def askB (c : Cls) (f s : Int) : Bool := match getC c.opn s with | some x => decide (0 ≤ f ∧ f < 8 ∧ f ≠ x.dest) | none => false
/-- the message that is answered -/
def askS (c : Cls) (f s : Int) : Msg := match getC c.opn s with | some x => if 0 ≤ f ∧ f < 8 ∧ f ≠ x.dest then msgC x f c.boot c.low else {} | none => {}
theorem ask_none {c : Cls} {f s : Int} (h : getC c.opn s = none) : askB c f s = false ∧ askS c f s = {} := by
  unfold askB askS; rw [h]; exact ⟨rfl, rfl⟩
theorem ask_bad {c : Cls} {f s : Int} {x : Cll} (h : getC c.opn s = some x) (hn : ¬ (0 ≤ f ∧ f < 8 ∧ f ≠ x.dest)) : askB c f s = false ∧ askS c f s = {} := by
  unfold askB askS; rw [h]; exact ⟨decide_eq_false hn, if_neg hn⟩
theorem ask_good {c : Cls} {f s : Int} {x : Cll} (h : getC c.opn s = some x) (hn : 0 ≤ f ∧ f < 8 ∧ f ≠ x.dest) : askB c f s = true ∧ askS c f s = msgC x f c.boot c.low := by
  unfold askB askS; rw [h]; exact ⟨decide_eq_true hn, if_pos hn⟩
/-- what Ask answers -/
def AskR (c : Cls) (f s : Int) (W : World) (e : Ending) (w' : World) : Prop := e = .returned (.tuple #[.agg (mcells (askS c f s) (.slice none 0 0)).toArray, .bool (askB c f s)]) ∧ Kp No W w'

set_option maxHeartbeats 2000000 in
set_option maxRecDepth 100000 in
theorem pask_any (b mb : Nat) (c : Cls) (f s : Int) (W : World) (h : OwnCs W b mb c) (hc : CsOk c) (hs : (Lit.int .i64 s).wf = true) :
    Calls Tryz.prog 18 #[.pointer (some ⟨b, 0, none⟩), .int .i64 f, .int .i64 s] W (AskR c f s W) := by
  obtain ⟨Q, hQ⟩ : ∃ Q : Ending → World → Prop, Q = AskR c f s W := ⟨_, rfl⟩
  rw [← hQ]
  have hb : b < W.heap.size := h.1.lt
  have hmb : mb < W.heap.size := h.2.lt
  obtain ⟨M0, hM0⟩ : ∃ M0, M0 = m0 := ⟨_, rfl⟩
  have HS0 := Lib.hid (show Sxt M0 by rw [hM0]; exact Sxt.of _)
  have HAZ := Lib.hid (show (.agg #[.int .i64 0, .int .i64 0, .int .i64 0, .int .i64 0, .int .i64 0, .int .i64 0, .int .i64 0, .string ⟨#[]⟩, .int .i64 0, .int .i64 0, .int .i64 0, .bool false, .int .i64 0, .slice none 0 0, .int .i64 0, .int .i64 0] : Value) = .agg M0.toArray by rw [hM0]; rfl)
  have HE := Lib.hid (show ∀ w', askB c f s = false → askS c f s = {} → Kp No W w' → Q (.returned (.tuple #[.agg M0.toArray, .bool false])) w' from fun w' e1 e2 k => by
    rw [hQ, hM0]; exact ⟨by rw [e1, e2]; rfl, k⟩)
  have HQ := Lib.hid hQ
  clear hQ hM0
  have HS0I := Lib.hid HS0.out.info; have HS0O := Lib.hid HS0.out.one; have HS0L := Lib.hid HS0.out.infoL
  obtain ⟨w1, hw1⟩ : ∃ w1, w1 = W.alloc (.cells m0.toArray 50) := ⟨_, rfl⟩
  have HK1 := Lib.hid (show Kp No W w1 by rw [hw1]; exact (Kp.refl No W).alloc _)
  have HZ1 := Lib.hid (show Bk w1 W.heap.size 50 m0 by rw [hw1]; exact Bk.new W _ _)
  have pg := (get_any b mb c s w1 (h.no HK1.out) hs)
  have hw2 : w1 = W.alloc (.cells #[.int .i64 0, .int .i64 0, .int .i64 0, .int .i64 0, .int .i64 0, .int .i64 0, .int .i64 0, .string ⟨#[]⟩, .int .i64 0, .int .i64 0, .int .i64 0, .bool false, .int .i64 0, .slice none 0 0, .int .i64 0, .int .i64 0] 50) := hw1
  have HW1 := Lib.hid hw2; clear hw1 hw2
  have HC := Lib.hid hc; have H := Lib.hid h
  clear h hc
  cases hg : getC c.opn s with
  | none =>
    have e0 : atC c.opn s = {} := by unfold atC; rw [hg]; rfl
    rw [e0, hg] at pg
    have HE0 := Lib.hid (fun w' => HE.out w' (ask_none (f := f) hg).1 (ask_none (f := f) hg).2)
    clear e0 hg
    obtain ⟨C, hC⟩ : ∃ C, C = cC {} := ⟨_, rfl⟩
    unfold vC at pg
    rw [← hC] at pg
    have HT := Lib.hid (show Ten C by rw [hC]; exact Ten.of _)
    have HC1 := Lib.hid (show C[1]? = some (.int .i64 ({} : Cll).dest) by rw [hC]; rfl)
    clear hC
    have HM1 := Lib.hid (HT.out.info)
    have HO1 := Lib.hid (HT.out.one)
    have HIC := Lib.hid HT.out.infoL
    go_enter Tryz.func18, Tryz.ntmps18
    go_upto_region 1 with (fail)
    rw [← HW1.out]
    clear HW1
    go_wp2_with fail
    refine pg.mono ?_
    rintro e w3 ⟨rfl, k3⟩
    clear pg
    have HZ3 := Lib.hid (HZ1.out.no k3)
    have HK3 := Lib.hid (HK1.out.trans k3)
    clear k3
    have HT6 := Lib.hid (show (w3.alloc (.cells (cC {}).toArray 32)).there w3.heap.size 0 C.toArray.size from (Bk.new w3 _ _).thereC rfl HT.out)
    have HB4 := Lib.hid (show Bk ((w3.alloc (.cells (cC {}).toArray 32)).setCells w3.heap.size 0 C) w3.heap.size 32 C from (Bk.new w3 _ (cC {})).put HT.out.len)
    have HK4 := Lib.hid (show Kp No w3 ((w3.alloc (.cells (cC {}).toArray 32)).setCells w3.heap.size 0 C) from ((Kp.refl No w3).alloc _).sets C 0 (.inr (Nat.le_refl _)))
    have e0 : (cC {}).toArray = #[.int .i64 0, .int .i64 0, .int .i64 0, .string ⟨#[]⟩, .int .i64 0, .int .i64 0, .int .i64 0, .bool false, .int .i64 0, .int .i64 0] := rfl
    rw [e0] at HT6 HB4 HK4
    clear e0
    go_upto_region 2 with (with_reducible refine wpList_store_mid rfl _ _ _ rfl w3.heap.size 0 C.toArray rfl rfl HT6.out HM1.out HO1.out ?_)
    generalize World.setCells _ w3.heap.size 0 C = w4 at *
    have HKW := Lib.hid (HK3.out.trans HK4.out)
    have HZ4 := Lib.hid (HZ3.out.no HK4.out)
    have x1 : w4.cell? ⟨w3.heap.size, 1, none⟩ = some (.int .i64 ({} : Cll).dest) := (HB4.out.cell 1).trans HC1.out
    have HX1 := Lib.hid (HZ4.out.thereM rfl HS0.out)
    have HX3 := Lib.hid (show Bk (w4.setCells W.heap.size 0 M0) W.heap.size 50 M0 from HZ4.out.put (by rw [HS0.out.len]; rfl))
    have HX4 := Lib.hid (show Kp No W (w4.setCells W.heap.size 0 M0) from HKW.out.sets M0 0 (.inr (Nat.le_refl _)))
    go_wp2_with (refine wpList_store_mid rfl _ _ _ rfl W.heap.size 0 M0.toArray rfl HAZ.out HX1.out HS0I.out HS0O.out ?_)
    exact bodyPost_ret (res_ct (s := 6) (u := 7) rfl _ _ rfl HX3.out.all_ Tryz.underlying50 rfl HS0L.out) rfl (HE0.out _ HX4.out)
  | some x =>
    have e0 : atC c.opn s = x := by unfold atC; rw [hg]; rfl
    rw [e0, hg] at pg
    clear e0
    obtain ⟨C, hC⟩ : ∃ C, C = cC x := ⟨_, rfl⟩
    have HVC := Lib.hid (show vC x = .agg C.toArray by rw [hC]; rfl)
    unfold vC at pg
    rw [← hC] at pg
    by_cases hf : 0 ≤ f ∧ f < 8 ∧ f ≠ x.dest
    case neg =>
      have HE0 := Lib.hid (fun w' => HE.out w' (ask_bad hg hf).1 (ask_bad hg hf).2)
      clear hg
      have hf3 : ¬ (0 ≤ f) ∨ 0 ≤ f ∧ ¬ (f < 8) ∨ 0 ≤ f ∧ f < 8 ∧ f = x.dest := by omega
      clear hf
      have HF3 := Lib.hid hf3
      clear hf3
      have HT := Lib.hid (show Ten C by rw [hC]; exact Ten.of _)
      have HC1 := Lib.hid (show C[1]? = some (.int .i64 x.dest) by rw [hC]; rfl)
      clear hC
      have HM1 := Lib.hid (HT.out.info)
      have HO1 := Lib.hid (HT.out.one)
      have HIC := Lib.hid HT.out.infoL
      go_enter Tryz.func18, Tryz.ntmps18
      go_upto_region 1 with (fail)
      rw [← HW1.out]
      clear HW1
      go_wp2_with fail
      refine pg.mono ?_
      rintro e w3 ⟨rfl, k3⟩
      clear pg
      have HZ3 := Lib.hid (HZ1.out.no k3)
      have HK3 := Lib.hid (HK1.out.trans k3)
      clear k3
      have HT6 := Lib.hid (show (w3.alloc (.cells (cC {}).toArray 32)).there w3.heap.size 0 C.toArray.size from (Bk.new w3 _ _).thereC rfl HT.out)
      have HB4 := Lib.hid (show Bk ((w3.alloc (.cells (cC {}).toArray 32)).setCells w3.heap.size 0 C) w3.heap.size 32 C from (Bk.new w3 _ (cC {})).put HT.out.len)
      have HK4 := Lib.hid (show Kp No w3 ((w3.alloc (.cells (cC {}).toArray 32)).setCells w3.heap.size 0 C) from ((Kp.refl No w3).alloc _).sets C 0 (.inr (Nat.le_refl _)))
      have e0 : (cC {}).toArray = #[.int .i64 0, .int .i64 0, .int .i64 0, .string ⟨#[]⟩, .int .i64 0, .int .i64 0, .int .i64 0, .bool false, .int .i64 0, .int .i64 0] := rfl
      rw [e0] at HT6 HB4 HK4
      clear e0
      go_upto_region 2 with (with_reducible refine wpList_store_mid rfl _ _ _ rfl w3.heap.size 0 C.toArray rfl rfl HT6.out HM1.out HO1.out ?_)
      generalize World.setCells _ w3.heap.size 0 C = w4 at *
      have HKW := Lib.hid (HK3.out.trans HK4.out)
      have HZ4 := Lib.hid (HZ3.out.no HK4.out)
      have x1 : w4.cell? ⟨w3.heap.size, 1, none⟩ = some (.int .i64 x.dest) := (HB4.out.cell 1).trans HC1.out
      have HX1 := Lib.hid (HZ4.out.thereM rfl HS0.out)
      have HX3 := Lib.hid (show Bk (w4.setCells W.heap.size 0 M0) W.heap.size 50 M0 from HZ4.out.put (by rw [HS0.out.len]; rfl))
      have HX4 := Lib.hid (show Kp No W (w4.setCells W.heap.size 0 M0) from HKW.out.sets M0 0 (.inr (Nat.le_refl _)))
      generalize x.dest = xt at *
      rcases HF3.out with h1 | ⟨h1, h2⟩ | ⟨h1, h2, h3⟩
      · have h1 : f < 0 := by omega
        go_wp2_with (refine wpList_store_mid rfl _ _ _ rfl W.heap.size 0 M0.toArray rfl HAZ.out HX1.out HS0I.out HS0O.out ?_)
        exact bodyPost_ret (res_ct (s := 6) (u := 7) rfl _ _ rfl HX3.out.all_ Tryz.underlying50 rfl HS0L.out) rfl (HE0.out _ HX4.out)
      · have h1 : ¬ f < 0 := by omega
        have h2 : 8 ≤ f := by omega
        go_wp2_with (refine wpList_store_mid rfl _ _ _ rfl W.heap.size 0 M0.toArray rfl HAZ.out HX1.out HS0I.out HS0O.out ?_)
        exact bodyPost_ret (res_ct (s := 6) (u := 7) rfl _ _ rfl HX3.out.all_ Tryz.underlying50 rfl HS0L.out) rfl (HE0.out _ HX4.out)
      · have h1 : ¬ f < 0 := by omega
        have h2 : ¬ 8 ≤ f := by omega
        subst h3
        go_wp2_with (refine wpList_store_mid rfl _ _ _ rfl W.heap.size 0 M0.toArray rfl HAZ.out HX1.out HS0I.out HS0O.out ?_)
        exact bodyPost_ret (res_ct (s := 6) (u := 7) rfl _ _ rfl HX3.out.all_ Tryz.underlying50 rfl HS0L.out) rfl (HE0.out _ HX4.out)
    case pos =>
      obtain ⟨D, hD⟩ : ∃ D, D = mC x f c.boot c.low := ⟨_, rfl⟩
      have HS := Lib.hid (show Sxt D by rw [hD]; exact Sxt.of _)
      have HSI := Lib.hid HS.out.info; have HSO := Lib.hid HS.out.one; have HSL := Lib.hid HS.out.infoL
      have HE1 := Lib.hid (show ∀ w', Kp No W w' → Q (.returned (.tuple #[.agg D.toArray, .bool true])) w' from fun w' k => by
        rw [HQ.out, hD]; exact ⟨by rw [(ask_good hg hf).1, (ask_good hg hf).2]; rfl, k⟩)
      have pa0 := fun W2 => cask_any x f c.boot c.low W2
      rw [HVC.out, ← hD] at pa0
      clear hg hD HE
      have HT := Lib.hid (show Ten C by rw [hC]; exact Ten.of _)
      have HC1 := Lib.hid (show C[1]? = some (.int .i64 x.dest) by rw [hC]; rfl)
      clear hC
      have HM1 := Lib.hid (HT.out.info)
      have HO1 := Lib.hid (HT.out.one)
      have HIC := Lib.hid HT.out.infoL
      go_enter Tryz.func18, Tryz.ntmps18
      go_upto_region 1 with (fail)
      rw [← HW1.out]
      clear HW1
      go_wp2_with fail
      refine pg.mono ?_
      rintro e w3 ⟨rfl, k3⟩
      clear pg
      have HZ3 := Lib.hid (HZ1.out.no k3)
      have HK3 := Lib.hid (HK1.out.trans k3)
      clear k3
      have HT6 := Lib.hid (show (w3.alloc (.cells (cC {}).toArray 32)).there w3.heap.size 0 C.toArray.size from (Bk.new w3 _ _).thereC rfl HT.out)
      have HB4 := Lib.hid (show Bk ((w3.alloc (.cells (cC {}).toArray 32)).setCells w3.heap.size 0 C) w3.heap.size 32 C from (Bk.new w3 _ (cC {})).put HT.out.len)
      have HK4 := Lib.hid (show Kp No w3 ((w3.alloc (.cells (cC {}).toArray 32)).setCells w3.heap.size 0 C) from ((Kp.refl No w3).alloc _).sets C 0 (.inr (Nat.le_refl _)))
      have e0 : (cC {}).toArray = #[.int .i64 0, .int .i64 0, .int .i64 0, .string ⟨#[]⟩, .int .i64 0, .int .i64 0, .int .i64 0, .bool false, .int .i64 0, .int .i64 0] := rfl
      rw [e0] at HT6 HB4 HK4
      clear e0
      go_upto_region 2 with (with_reducible refine wpList_store_mid rfl _ _ _ rfl w3.heap.size 0 C.toArray rfl rfl HT6.out HM1.out HO1.out ?_)
      generalize World.setCells _ w3.heap.size 0 C = w4 at *
      have HKW := Lib.hid (HK3.out.trans HK4.out)
      have HZ4 := Lib.hid (HZ3.out.no HK4.out)
      have x1 : w4.cell? ⟨w3.heap.size, 1, none⟩ = some (.int .i64 x.dest) := (HB4.out.cell 1).trans HC1.out
      generalize x.dest = xt at *
      obtain ⟨h1, h2, h3⟩ := hf
      have h1 : ¬ f < 0 := by omega
      have h2 : ¬ 8 ≤ f := by omega
      have HO4 := Lib.hid (H.out.no HKW.out)
      go_upto_region 4 with (fail)
      clear x1 h1 h2 h3
      have pl := fun W2 (kk : Kp No w4 W2) => (low_any b mb c W2 (HO4.out.no kk) HC.out).mono fun e w' ⟨h1, h3⟩ => (⟨h1, kk.trans h3⟩ : e = Ending.returned (.int .i64 c.low) ∧ Kp No w4 w')
      have pa := fun W2 (kk : Kp No w4 W2) => (pa0 W2).mono fun e w' ⟨h1, h3⟩ => (⟨h1, kk.trans h3⟩ : e = Ending.returned (.agg D.toArray) ∧ Kp No w4 w')
      clear pa0
      have HNR := Lib.hid (show ¬ One W.heap.size w3.heap.size from fun e => by
        have e : w3.heap.size = W.heap.size := e
        have := HZ3.out.lt; omega)
      have HNB := Lib.hid (show ¬ One W.heap.size b ∧ ¬ One W.heap.size mb from ⟨fun e => by have e : b = W.heap.size := e; omega, fun e => by have e : mb = W.heap.size := e; omega⟩)
      have hF := (Kp.refl (One W.heap.size) w4).drew
      refine rg_begin (fun W2 => Kp (One W.heap.size) w4 W2) 11 (by kernel_rfl) ?_
      refine rg_take (i := 0) (v := ?vp0) (by simp only [List.getElem?_toArray, List.getElem?_cons_zero]; rfl) (by kernel_rfl) (by exact fun _ _ _ h => h) (by rfl) ?rp0 hF ?sp0
      case rp0 => (intro W9 hW; refine exec_load_mid W9 32 (.tmp 8) ?_ w3.heap.size 0 ?_ C _ ((HB4.out.kp hW HNR.out).all_) Tryz.underlying32 ?_ HIC.out; exact rfl; exact rfl; exact rfl)
      try simp only [Act.put, List.setIfInBounds_toArray, List.set_cons_zero, List.set_cons_succ]
      refine rg_take (i := 1) (v := ?vp1) (by simp only [List.getElem?_toArray, List.getElem?_cons_succ, List.getElem?_cons_zero]; rfl) (by kernel_rfl) (by exact fun _ _ _ h => h) (by rfl) ?rp1 hF ?sp1
      case rp1 => (intro W hW; clear hW; go_simp; try with_reducible rfl)
      try simp only [Act.put, List.setIfInBounds_toArray, List.set_cons_zero, List.set_cons_succ]
      refine rg_take (i := 2) (v := ?vp2) (by simp only [List.getElem?_toArray, List.getElem?_cons_succ, List.getElem?_cons_zero]; rfl) (by kernel_rfl) (by exact fun _ _ _ h => h) (by rfl) ?rp2 hF ?sp2
      case rp2 => (intro W hW; clear hW; go_simp; try with_reducible rfl)
      try simp only [Act.put, List.setIfInBounds_toArray, List.set_cons_zero, List.set_cons_succ]
      refine rg_take (i := 3) (v := ?vp3) (by simp only [List.getElem?_toArray, List.getElem?_cons_succ, List.getElem?_cons_zero]; rfl) (by kernel_rfl) (by exact fun _ _ _ h => h) (by rfl) ?rp3 hF ?sp3
      case rp3 => (intro W hW; clear hW; go_simp; try with_reducible rfl)
      try simp only [Act.put, List.setIfInBounds_toArray, List.set_cons_zero, List.set_cons_succ]
      refine rg_take (i := 4) (v := ?vp4) (by simp only [List.getElem?_toArray, List.getElem?_cons_succ, List.getElem?_cons_zero]; rfl) (by kernel_rfl) (by exact fun _ _ _ h => h) (by rfl) ?rp4 hF ?sp4
      case rp4 => (intro W hW; clear hW; go_simp; try with_reducible rfl)
      try simp only [Act.put, List.setIfInBounds_toArray, List.set_cons_zero, List.set_cons_succ]
      refine rg_take (i := 5) (v := ?vp5) (by simp only [List.getElem?_toArray, List.getElem?_cons_succ, List.getElem?_cons_zero]; rfl) (by kernel_rfl) (by exact fun _ _ _ h => h) (by rfl) ?rp5 hF ?sp5
      case rp5 => (intro W9 hW; have z : W9.cell? ⟨b, 0, none⟩ = some (.int .i64 c.boot) := (HO4.out.kp hW HNB.out.1 HNB.out.2).1.cell 0; clear hW; go_simp; try with_reducible rfl)
      try simp only [Act.put, List.setIfInBounds_toArray, List.set_cons_zero, List.set_cons_succ]
      refine rg_take (i := 6) (v := ?vp6) (by simp only [List.getElem?_toArray, List.getElem?_cons_succ, List.getElem?_cons_zero]; rfl) (by kernel_rfl) (by exact fun _ _ _ h => h) (by rfl) ?rp6 hF ?sp6
      case rp6 => (intro W hW; clear hW; go_simp; try with_reducible rfl)
      try simp only [Act.put, List.setIfInBounds_toArray, List.set_cons_zero, List.set_cons_succ]
      refine rg_one (i := 7) (oi := ?op7) ?ap7 ?bp7 ?cp7 ?dp7
      case ap7 => (simp only [List.getElem?_toArray, List.getElem?_cons_succ, List.getElem?_cons_zero]; rfl)
      case bp7 => kernel_rfl
      case cp7 => rfl
      intro K hK
      (go_simp; refine (pl _ (Kp.refl No w4).drew).mono ?_; rintro e w5 ⟨rfl, k5⟩)
      refine rg_use hK (k5.of_no) (fun hF => ?_)
      clear hK K
      try simp only [Act.put, List.setIfInBounds_toArray, List.set_cons_zero, List.set_cons_succ]
      refine rg_one (i := 8) (oi := ?op8) ?ap8 ?bp8 ?cp8 ?dp8
      case ap8 => (simp only [List.getElem?_toArray, List.getElem?_cons_succ, List.getElem?_cons_zero]; rfl)
      case bp8 => kernel_rfl
      case cp8 => rfl
      intro K hK
      (go_simp; refine (pa w5 k5).mono ?_; rintro e w6 ⟨rfl, k6⟩)
      refine rg_use hK (k6.of_no) (fun hF => ?_)
      clear hK K
      try simp only [Act.put, List.setIfInBounds_toArray, List.set_cons_zero, List.set_cons_succ]
      refine rg_one (i := 9) (oi := ?op9) ?ap9 ?bp9 ?cp9 ?dp9
      case ap9 => (simp only [List.getElem?_toArray, List.getElem?_cons_succ, List.getElem?_cons_zero]; rfl)
      case bp9 => kernel_rfl
      case cp9 => rfl
      intro K hK
      (refine wp_store_mid _ _ _ rfl W.heap.size 0 D.toArray rfl rfl ((HZ4.out.no k6).thereM rfl HS.out) HSI.out HSO.out ?_)
      refine rg_use hK ((k6.of_no.sets D 0 (.inl rfl))) (fun hF => ?_)
      clear hK K
      try simp only [Act.put]
      refine rg_take (i := 10) (v := ?vp10) (by simp only [List.getElem?_toArray, List.getElem?_cons_succ, List.getElem?_cons_zero]; rfl) (by kernel_rfl) (by exact fun _ _ _ h => h) (by rfl) ?rp10 hF ?sp10
      case rp10 => (intro W hW; clear hW; go_simp; try with_reducible rfl)
      try simp only [Act.put, List.setIfInBounds_toArray, List.set_cons_zero, List.set_cons_succ]
      refine rg_done (by kernel_rfl) ?_
      have HX3 := Lib.hid ((HZ4.out.no k6).put (C := D) (by rw [HS.out.len]; rfl))
      have HX4 := Lib.hid ((HKW.out.trans k6).sets D 0 (.inr (Nat.le_refl _)))
      go_wp2
      exact bodyPost_ret (res_ct (s := 6) (u := 7) rfl _ _ rfl HX3.out.all_ Tryz.underlying50 rfl HSL.out) rfl (HE1.out _ HX4.out)
end Go.Proofs.YtkiaclldjofdoaaGreat
