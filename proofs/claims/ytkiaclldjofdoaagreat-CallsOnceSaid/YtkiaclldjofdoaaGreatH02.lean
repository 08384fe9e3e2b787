/- Several texts of this claim in one. No condition beyond what each theorem states. -/
import Derived.Test.YtkiaclldjofdoaaGreatH01
import Derived.Deep.DeepMust
import Derived.Deep.Cut
import Derived.Deep.DeepCutAuto
import Derived.StillTailTactics
import Derived.Test.YtkiaclldjofdoaaGreatB02
/- Close by contract. No condition beyond what each theorem states. -/
namespace Go.Proofs.YtkiaclldjofdoaaGreat
open Go Go.RowKit Go.Maps

theorem filter_none {l : List Cll} {s : Int} (h : getC l s = none) : l.filter (fun x => decide (x.seq ≠ s)) = l := by
  unfold getC at h
  rw [List.find?_eq_none] at h
  exact List.filter_eq_self.2 (fun x hx => by have := h x hx; simpa using this)

theorem closeC_none {c : Cls} {s : Int} (h : getC c.opn s = none) : closeC c s = c := by
  unfold closeC
  rw [filter_none h]

theorem Kp.turned {w w' : World} {b : Nat} (h : w.mapTurned w' b) : Kp (One b) w w' :=
  (Kp.of_grownBy h.grown).mono (fun _ _ m => by injection m with m; exact m.symm)

theorem OwnCs.ne {w : World} {b mb : Nat} {c : Cls} (h : OwnCs w b mb c) : b ≠ mb := by
  rintro rfl
  obtain ⟨es, clock, h1, _⟩ := h.2
  have h2 := h.1
  unfold Bk at h2
  rw [h1] at h2
  cases h2

/-- a result that is a struct in a cell, and one in a slot -/
theorem res_ct {P : Program} {fn : Func} {s u : Tmp} {t : TypeId} (h : fn.results = #[.cell s t, .tmp u]) (tmps : Array Value) (w : World) {g : Nat} {cs : List Value} {d : TypeDesc} (hp : tmps.getD s undef = .pointer (some ⟨g, 0, none⟩)) (hc : w.rangeAt g 0 cs)
    (hu : P.underlying t = some d) (hd : d.isRow = true) (hi : (P.info? t).map (·.size) = some cs.length) : (results fn tmps).run P w = .ok (.tuple #[.agg cs.toArray, tmps.getD u undef]) w := by
  simp only [results, h, Array.mapM_eq_mapM_toList]
  have hp2 : tmps[s]?.getD undef = .pointer (some ⟨g, 0, none⟩) := by simpa using hp
  simp [hp2, asAddr, run_loadVar_mid w g 0 t cs d hc hu hd hi]
/-- a result that is a struct in a cell -/
theorem res_c {P : Program} {fn : Func} {s : Tmp} {t : TypeId} (h : fn.results = #[.cell s t]) (tmps : Array Value) (w : World) {g : Nat} {cs : List Value} {d : TypeDesc} (hp : tmps.getD s undef = .pointer (some ⟨g, 0, none⟩)) (hc : w.rangeAt g 0 cs)
    (hu : P.underlying t = some d) (hd : d.isRow = true) (hi : (P.info? t).map (·.size) = some cs.length) : (results fn tmps).run P w = .ok (.agg cs.toArray) w := by
  simp only [results, h, Array.mapM_eq_mapM_toList]
  have hp2 : tmps[s]?.getD undef = .pointer (some ⟨g, 0, none⟩) := by simpa using hp
  simp [hp2, asAddr, run_loadVar_mid w g 0 t cs d hc hu hd hi]
/-- a struct's cells -/
theorem Bk.all_ {w : World} {g : Nat} {t : TypeId} {cs : List Value} (h : Bk w g t cs) : w.rangeAt g 0 cs := by
  have := h.range 0 cs.length
  simpa using this
theorem Bk.put {w : World} {g : Nat} {t : TypeId} {cs C : List Value} (h : Bk w g t cs) (hl : C.length = cs.length) : Bk (w.setCells g 0 C) g t C := by
  have := h.sets C 0 (by omega)
  simpa [hl] using this

theorem infoC : (Tryz.prog.info? 32).map (·.size) = some 10 := by kernel_rfl
theorem cC_len (x : Cll) : (cC x).length = 10 := rfl
theorem cC_one (x : Cll) : (cC x).toArray.all (·.oneCell') = true := by simp [cC, Value.oneCell']
/-- cells as a variable: ten of them, each one cell -/
structure Ten (C : List Value) : Prop where
  len : C.length = 10
  one : C.toArray.all (·.oneCell') = true
theorem Ten.of (x : Cll) : Ten (cC x) := ⟨rfl, cC_one x⟩
theorem Ten.info {C : List Value} (h : Ten C) : (Tryz.prog.info? 32).map (·.size) = some C.toArray.size := by rw [List.size_toArray, h.len]; exact infoC
theorem Ten.infoL {C : List Value} (h : Ten C) : (Tryz.prog.info? 32).map (·.size) = some C.length := by rw [h.len]; exact infoC
theorem Bk.thereC {w : World} {g : Nat} {t : TypeId} {cs C : List Value} (h : Bk w g t cs) (hl : cs.length = 10) (hC : Ten C) : w.there g 0 C.toArray.size := by
  rw [List.size_toArray, hC.len]; exact h.there 0 10 (by omega)

set_option maxHeartbeats 1000000 in
set_option maxRecDepth 100000 in
theorem close_any (b mb : Nat) (c : Cls) (s : Int) (W : World) (h : OwnCs W b mb c) (hs : (Lit.int .i64 s).wf = true) :
    Calls Tryz.prog 11 #[.pointer (some ⟨b, 0, none⟩), .int .i64 s] W fun e w' => e = .returned (.tuple #[vC (atC c.opn s), .bool (getC c.opn s).isSome]) ∧ OwnCs w' b mb (closeC c s) ∧ Kp (One mb) W w' := by
  have H := Lib.hid h
  have hb : b < W.heap.size := h.1.lt
  have hmb : mb < W.heap.size := h.2.lt
  have HNE := Lib.hid h.ne
  obtain ⟨w1, hw1⟩ : ∃ w1, w1 = W.alloc (.cells (cC {}).toArray 32) := ⟨_, rfl⟩
  have HK1 := Lib.hid (show Kp No W w1 by rw [hw1]; exact (Kp.refl No W).alloc _)
  have HZ1 := Lib.hid (show Bk w1 W.heap.size 32 (cC {}) by rw [hw1]; exact Bk.new W _ _)
  have pg := (get_any b mb c s w1 (h.no HK1.out) hs)
  obtain ⟨C, hC⟩ : ∃ C, C = cC (atC c.opn s) := ⟨_, rfl⟩
  have HT := Lib.hid (show Ten C by rw [hC]; exact Ten.of _)
  have HN := Lib.hid (show (getC c.opn s).isSome = false → closeC c s = c from fun e => closeC_none (Option.not_isSome_iff_eq_none.1 (by rw [e]; decide)))
  unfold vC at pg ⊢
  rw [← hC] at pg ⊢
  clear hC h
  generalize (getC c.opn s).isSome = ok at pg HN ⊢
  have hw2 : w1 = W.alloc (.cells #[.int .i64 0, .int .i64 0, .int .i64 0, .string ⟨#[]⟩, .int .i64 0, .int .i64 0, .int .i64 0, .bool false, .int .i64 0, .int .i64 0] 32) := hw1
  have HW1 := Lib.hid hw2; clear hw1 hw2
  have HM1 := Lib.hid (HT.out.info)
  have HO1 := Lib.hid (HT.out.one)
  go_enter Tryz.func11, Tryz.ntmps11
  go_upto_region 1 with (fail)
  rw [← HW1.out]
  clear HW1
  go_wp2_with fail
  refine pg.mono ?_
  rintro e w3 ⟨rfl, k3⟩
  clear pg
  have HZ3 := Lib.hid (HZ1.out.no k3)
  have HK3 := Lib.hid (HK1.out.trans k3)
  clear k3
  have HT6 := Lib.hid (show (w3.alloc (.cells (cC {}).toArray 32)).there w3.heap.size 0 C.toArray.size from (Bk.new w3 _ _).thereC rfl HT.out)
  have HB6 := Lib.hid (show Bk ((w3.alloc (.cells (cC {}).toArray 32)).setCells w3.heap.size 0 C) w3.heap.size 32 C from (Bk.new w3 _ (cC {})).put HT.out.len)
  have HK6 := Lib.hid (show Kp No w3 ((w3.alloc (.cells (cC {}).toArray 32)).setCells w3.heap.size 0 C) from ((Kp.refl No w3).alloc _).sets C 0 (.inr (Nat.le_refl _)))
  have e0 : (cC {}).toArray = #[.int .i64 0, .int .i64 0, .int .i64 0, .string ⟨#[]⟩, .int .i64 0, .int .i64 0, .int .i64 0, .bool false, .int .i64 0, .int .i64 0] := rfl
  rw [e0] at HT6 HB6 HK6
  clear e0
  go_upto_region 2 with (with_reducible refine wpList_store_mid rfl _ _ _ rfl w3.heap.size 0 C.toArray rfl rfl HT6.out HM1.out HO1.out ?_)
  generalize World.setCells _ w3.heap.size 0 C = w4 at *
  have H4 := H.out.no (HK3.out.trans HK6.out)
  have HH4 := Lib.hid H4
  have HZ4 := Lib.hid (HZ3.out.no HK6.out)
  have HIL := Lib.hid HT.out.infoL
  have fin : ∀ w5, Bk w5 w3.heap.size 32 C → Bk w5 W.heap.size 32 (cC {}) → OwnCs w5 b mb (closeC c s) → Kp (One mb) W w5 →
      Hid (w5.there W.heap.size 0 C.toArray.size) ∧ Hid (w5.rangeAt w3.heap.size 0 C) ∧ Hid ((w5.setCells W.heap.size 0 C).rangeAt W.heap.size 0 C ∧ OwnCs (w5.setCells W.heap.size 0 C) b mb (closeC c s) ∧ Kp (One mb) W (w5.setCells W.heap.size 0 C)) := fun w5 q1 q2 q3 q4 =>
    ⟨Lib.hid (q2.thereC rfl HT.out), Lib.hid q1.all_, Lib.hid ⟨(q2.put (by rw [HT.out.len]; rfl)).all_, q3.kp ((Kp.refl (One W.heap.size) w5).sets C 0 (.inl rfl)) (fun e : b = W.heap.size => by omega) (fun e : mb = W.heap.size => by omega), q4.sets C 0 (.inr (Nat.le_refl _))⟩⟩
  cases ok
  case false =>
    obtain ⟨HX1, HX2, HX3⟩ := fin w4 HB6.out HZ4.out (by rw [HN.out rfl]; exact HH4.out) (HK3.out.trans HK6.out).of_no
    clear fin H4
    go_wp2_with (first
      | (with_reducible refine wpList_load_mid rfl _ _ rfl w3.heap.size 0 rfl C _ HX2.out Tryz.underlying32 rfl HIL.out ?_)
      | (with_reducible refine wpList_store_mid rfl _ _ _ rfl W.heap.size 0 C.toArray rfl rfl HX1.out HM1.out HO1.out ?_))
    exact bodyPost_ret (res_ct rfl _ _ rfl HX3.out.1 Tryz.underlying32 rfl HIL.out) rfl ⟨rfl, HX3.out.2⟩
  case true =>
    have c2 : w4.cell? ⟨b, 2, none⟩ = some (.map (some mb)) := H4.1.cell 2
    have f2 := H4.1.frozen 2
    clear H4
    go_upto_region 4 with (at_delete; refine wp_drop _ rfl _ _ _ _ rfl 32 intT mapT mb c.opn s rfl HH4.out.2 rfl hs ?_; intro w5 hm5 ht5)
    have kt := Kp.turned ht5
    obtain ⟨HX1, HX2, HX3⟩ := fin w5 (HB6.out.kp kt (fun e : w3.heap.size = mb => by have := HK3.out.size; omega)) (HZ4.out.kp kt (fun e : W.heap.size = mb => by omega)) ⟨HH4.out.1.kp kt HNE.out, hm5⟩ (((HK3.out.trans HK6.out).of_no (M := One mb)).then_ kt (fun i _ e => e))
    clear fin kt
    go_wp2_with (first
      | (with_reducible refine wpList_load_mid rfl _ _ rfl w3.heap.size 0 rfl C _ HX2.out Tryz.underlying32 rfl HIL.out ?_)
      | (with_reducible refine wpList_store_mid rfl _ _ _ rfl W.heap.size 0 C.toArray rfl rfl HX1.out HM1.out HO1.out ?_))
    exact bodyPost_ret (res_ct rfl _ _ rfl HX3.out.1 Tryz.underlying32 rfl HIL.out) rfl ⟨rfl, HX3.out.2⟩
end Go.Proofs.YtkiaclldjofdoaaGreat

/- Again by contract. No condition beyond what each theorem states. -/
namespace Go.Proofs.YtkiaclldjofdoaaGreat
open Go Go.RowKit Go.Maps

/-- a whole struct read in a quiet stretch -/
theorem still_load_mid {P : Program} {ops : Array Oper} {rest : List Oper} {op : Oper} {a : Act} {w : World} {Q : Act → Prop} (hgd : op.guard = none) (ty : TypeId) (x : Operand) (ho : op.op = .load ty x)
    (b o : Nat) (hx : a.eval x = .pointer (some ⟨b, o, none⟩)) (cs : List Value) (d : TypeDesc) (hc : w.rangeAt b o cs)
    (hu : P.underlying ty = some d) (hd : d.isRow = true) (hi : (P.info? ty).map (·.size) = some cs.length)
    (h : wpStill P ops w Q rest (a.put op.dst (.agg cs.toArray))) : wpStill P ops w Q (op :: rest) a := by
  refine wpStill_step fun K hK => ?_
  have hw : Region.wanted op (yielded ops a.tmps) = true := by simp [Region.wanted, hgd]
  rw [if_pos hw]
  unfold Oper.still execOp
  simp only [ho, hx, Instr.loadAt, Instr.sureAddr, Sem.run_bind, Sem.run_pure, Result.andThen_ok, run_loadVar_mid w b o ty cs d hc hu hd hi, Oper.stillUpon]
  exact ⟨trivial, hK _ h⟩

/-- a call sent once more -/
def againX (x : Cll) : Cll := { x with tries := wrap64 (x.tries + 1) }
def againV (l : List Cll) (s : Int) : Cll := match getC l s with | some x => againX x | none => {}
def againC (c : Cls) (s : Int) : Cls := match getC c.opn s with | some x => turnC c (againX x) | none => c

theorem againC_ok {c : Cls} (h : CsOk c) (s : Int) : CsOk (againC c s) := by
  unfold againC
  split
  · exact h.turned _
  · exact h

set_option maxHeartbeats 1000000 in
set_option maxRecDepth 100000 in
theorem again_any (b mb : Nat) (c : Cls) (s : Int) (W : World) (h : OwnCs W b mb c) (hc : CsOk c) (hs : (Lit.int .i64 s).wf = true) :
    Calls Tryz.prog 16 #[.pointer (some ⟨b, 0, none⟩), .int .i64 s] W fun e w' => e = .returned (.tuple #[vC (againV c.opn s), .bool (getC c.opn s).isSome]) ∧ OwnCs w' b mb (againC c s) ∧ Kp (One mb) W w' := by
  have H := Lib.hid h
  have hb : b < W.heap.size := h.1.lt
  have hmb : mb < W.heap.size := h.2.lt
  have HNE := Lib.hid h.ne
  obtain ⟨w1, hw1⟩ : ∃ w1, w1 = W.alloc (.cells (cC {}).toArray 32) := ⟨_, rfl⟩
  have HK1 := Lib.hid (show Kp No W w1 by rw [hw1]; exact (Kp.refl No W).alloc _)
  have HZ1 := Lib.hid (show Bk w1 W.heap.size 32 (cC {}) by rw [hw1]; exact Bk.new W _ _)
  have pg := (get_any b mb c s w1 (h.no HK1.out) hs)
  have hw2 : w1 = W.alloc (.cells #[.int .i64 0, .int .i64 0, .int .i64 0, .string ⟨#[]⟩, .int .i64 0, .int .i64 0, .int .i64 0, .bool false, .int .i64 0, .int .i64 0] 32) := hw1
  have HW1 := Lib.hid hw2; clear hw1 hw2
  have HR := Lib.hid hc.ris; have HL := Lib.hid hc.len
  clear h hc
  cases hg : getC c.opn s with
  | none =>
    have e0 : atC c.opn s = {} := by unfold atC; rw [hg]; rfl
    have e1 : againV c.opn s = {} := by unfold againV; rw [hg]
    have e2 : againC c s = c := by unfold againC; rw [hg]
    rw [e0, hg] at pg
    rw [e1, e2]
    clear e0 e1 e2 hg
    obtain ⟨C, hC⟩ : ∃ C, C = cC {} := ⟨_, rfl⟩
    have HT := Lib.hid (show Ten C by rw [hC]; exact Ten.of _)
    unfold vC at pg ⊢
    rw [← hC] at pg ⊢
    clear hC
    have HM1 := Lib.hid (HT.out.info)
    have HO1 := Lib.hid (HT.out.one)
    have HIL := Lib.hid HT.out.infoL
    go_enter Tryz.func16, Tryz.ntmps16
    go_upto_region 1 with (fail)
    rw [← HW1.out]
    clear HW1
    go_wp2_with fail
    refine pg.mono ?_
    rintro e w3 ⟨rfl, k3⟩
    clear pg
    have HZ3 := Lib.hid (HZ1.out.no k3)
    have HK3 := Lib.hid (HK1.out.trans k3)
    clear k3
    have HT6 := Lib.hid (show (w3.alloc (.cells (cC {}).toArray 32)).there w3.heap.size 0 C.toArray.size from (Bk.new w3 _ _).thereC rfl HT.out)
    have HB6 := Lib.hid (show Bk ((w3.alloc (.cells (cC {}).toArray 32)).setCells w3.heap.size 0 C) w3.heap.size 32 C from (Bk.new w3 _ (cC {})).put HT.out.len)
    have HK6 := Lib.hid (show Kp No w3 ((w3.alloc (.cells (cC {}).toArray 32)).setCells w3.heap.size 0 C) from ((Kp.refl No w3).alloc _).sets C 0 (.inr (Nat.le_refl _)))
    have e0 : (cC {}).toArray = #[.int .i64 0, .int .i64 0, .int .i64 0, .string ⟨#[]⟩, .int .i64 0, .int .i64 0, .int .i64 0, .bool false, .int .i64 0, .int .i64 0] := rfl
    rw [e0] at HT6 HB6 HK6
    clear e0
    go_upto_region 2 with (with_reducible refine wpList_store_mid rfl _ _ _ rfl w3.heap.size 0 C.toArray rfl rfl HT6.out HM1.out HO1.out ?_)
    generalize World.setCells _ w3.heap.size 0 C = w4 at *
    have HZ4 := Lib.hid (HZ3.out.no HK6.out)
    have HX1 := Lib.hid (HZ4.out.thereC rfl HT.out)
    have HX2 := Lib.hid HB6.out.all_
    have HX4 := Lib.hid (show Kp No W (w4.setCells W.heap.size 0 C) from (HK3.out.trans HK6.out).sets C 0 (.inr (Nat.le_refl _)))
    have HX3 := Lib.hid (show Bk (w4.setCells W.heap.size 0 C) W.heap.size 32 C from HZ4.out.put (by rw [HT.out.len]; rfl))
    go_wp2_with (first
      | (with_reducible refine wpList_load_mid rfl _ _ rfl w3.heap.size 0 rfl C _ HX2.out Tryz.underlying32 rfl HIL.out ?_)
      | (with_reducible refine wpList_store_mid rfl _ _ _ rfl W.heap.size 0 C.toArray rfl rfl HX1.out HM1.out HO1.out ?_))
    exact bodyPost_ret (res_ct rfl _ _ rfl HX3.out.all_ Tryz.underlying32 rfl HIL.out) rfl ⟨rfl, H.out.no HX4.out, HX4.out.of_no⟩
  | some x =>
    have e0 : atC c.opn s = x := by unfold atC; rw [hg]; rfl
    have e1 : againV c.opn s = againX x := by unfold againV; rw [hg]
    have HE := Lib.hid (show againC c s = turnC c (againX x) by unfold againC; rw [hg])
    rw [e0, hg] at pg
    rw [e1]
    clear e0 e1
    obtain ⟨C, hC⟩ : ∃ C, C = cC x := ⟨_, rfl⟩
    have HT := Lib.hid (show Ten C by rw [hC]; exact Ten.of _)
    obtain ⟨D, hD⟩ : ∃ D, D = cC (againX x) := ⟨_, rfl⟩
    have HTD := Lib.hid (show Ten D by rw [hD]; exact Ten.of _)
    have HCD := Lib.hid (show C.set 9 (.int .i64 (wrap64 (x.tries + 1))) = D by rw [hC, hD]; rfl)
    have HC9 := Lib.hid (show C[9]? = some (.int .i64 x.tries) by rw [hC]; rfl)
    have HVD := Lib.hid (show vC (againX x) = .agg D.toArray by rw [hD]; rfl)
    unfold vC at pg ⊢
    rw [← hC] at pg
    rw [← hD]
    clear hC hD
    obtain ⟨p, q, hl, hxs, hcut⟩ := cut_at HR.out hg
    have HLQ := Lib.hid hl
    have HTC := Lib.hid (show turnC c (againX x) = { c with opn := p ++ againX x :: q } by unfold turnC; rw [hcut (againX x) hxs])
    have HSX := Lib.hid (show (againX x).seq = x.seq from rfl)
    clear hcut hg hl
    have HM1 := Lib.hid (HT.out.info)
    have HO1 := Lib.hid (HT.out.one)
    have HIL := Lib.hid HT.out.infoL
    generalize hy : againX x = y at *
    have HY := Lib.hid hy
    clear hy
    generalize ht : x.tries = t at *
    have hsx : y.seq = s := by rw [HSX.out]; exact hxs
    have HXS := Lib.hid hsx
    clear hsx hxs ht
    go_enter Tryz.func16, Tryz.ntmps16
    go_upto_region 1 with (fail)
    rw [← HW1.out]
    clear HW1
    go_wp2_with fail
    refine pg.mono ?_
    rintro e w3 ⟨rfl, k3⟩
    clear pg
    have HZ3 := Lib.hid (HZ1.out.no k3)
    have HK3 := Lib.hid (HK1.out.trans k3)
    clear k3
    have HT6 := Lib.hid (show (w3.alloc (.cells (cC {}).toArray 32)).there w3.heap.size 0 C.toArray.size from (Bk.new w3 _ _).thereC rfl HT.out)
    have HB6 := Lib.hid (show Bk ((w3.alloc (.cells (cC {}).toArray 32)).setCells w3.heap.size 0 C) w3.heap.size 32 C from (Bk.new w3 _ (cC {})).put HT.out.len)
    have HK6 := Lib.hid (show Kp No w3 ((w3.alloc (.cells (cC {}).toArray 32)).setCells w3.heap.size 0 C) from ((Kp.refl No w3).alloc _).sets C 0 (.inr (Nat.le_refl _)))
    have e0 : (cC {}).toArray = #[.int .i64 0, .int .i64 0, .int .i64 0, .string ⟨#[]⟩, .int .i64 0, .int .i64 0, .int .i64 0, .bool false, .int .i64 0, .int .i64 0] := rfl
    rw [e0] at HT6 HB6 HK6
    clear e0
    go_upto_region 2 with (with_reducible refine wpList_store_mid rfl _ _ _ rfl w3.heap.size 0 C.toArray rfl rfl HT6.out HM1.out HO1.out ?_)
    generalize World.setCells _ w3.heap.size 0 C = w4 at *
    have x9 : w4.cell? ⟨w3.heap.size, 9, none⟩ = some (.int .i64 t) := (HB6.out.cell 9).trans HC9.out
    have f9 := HB6.out.frozen 9
    go_upto_region 4 with (fail)
    have HB7 := Lib.hid (show Bk (w4.setCell ⟨w3.heap.size, 9, none⟩ (.int .i64 (wrap64 (t + 1)))) w3.heap.size 32 D by rw [← HCD.out]; exact HB6.out.set_ 9 _)
    have HK7 := Lib.hid (show Kp No w3 (w4.setCell ⟨w3.heap.size, 9, none⟩ (.int .i64 (wrap64 (t + 1)))) from HK6.out.set (.inr (Nat.le_refl _)) 9 _)
    generalize World.setCell w4 _ _ = w5 at *
    clear x9 f9
    have H5 := H.out.no (HK3.out.trans HK7.out)
    refine wp_region_still_tail 6 (by kernel_rfl) (by kernel_rfl) ?_
    simp only [List.take_succ_cons, List.take_zero, List.drop_succ_cons, List.drop_zero]
    change wpStill _ _ w5.drew (fun a' => wpList _ _ _ _ a' w5.drew) _ _
    have HB8 := Lib.hid HB7.out.drew
    have HK8 := Lib.hid HK7.out.drew
    have HH6 := Lib.hid (show OwnCs w5.drew b mb c from H5)
    have c2 : w5.drew.cell? ⟨b, 2, none⟩ = some (.map (some mb)) := H5.1.drew.cell 2
    clear H5 HB7 HK7
    generalize w5.drew = w6 at *
    have HX2 := Lib.hid HB8.out.all_
    have HID := Lib.hid HTD.out.infoL
    have HOM := Lib.hid (show OwnM Tryz.prog w6 3 mb (p ++ x :: q) by rw [← HLQ.out]; exact HH6.out.2)
    have HRQ := Lib.hid (show Ris (p ++ x :: q) by rw [← HLQ.out]; exact HR.out)
    have HLL := Lib.hid (show (p ++ x :: q).length < maxLen by rw [← HLQ.out]; have := HL.out; unfold maxLen; omega)
    repeat still_step
    refine still_load_mid rfl _ _ rfl w3.heap.size 0 rfl D _ HX2.out Tryz.underlying32 rfl HID.out ?_
    refine wpStill_nil ?_
    rw [← HVD.out]
    refine wp_putAt _ rfl _ _ _ _ rfl 3 32 intT mapT mb p q x y rfl HOM.out HLL.out (by rw [HXS.out]; rfl) (by rw [HXS.out]; exact hs) rfl HSX.out HRQ.out ?_
    intro w7 hm7 ht7
    have kt := Kp.turned ht7
    have HB9 := Lib.hid (HB8.out.kp kt (fun e : w3.heap.size = mb => by have := HK3.out.size; omega))
    have HZ9 := Lib.hid ((HZ3.out.no HK8.out).kp kt (fun e : W.heap.size = mb => by omega))
    have HO9 := Lib.hid (show OwnCs w7 b mb (againC c s) by rw [HE.out, HTC.out]; exact ⟨HH6.out.1.kp kt HNE.out, hm7⟩)
    have HK9 := Lib.hid (((HK3.out.trans HK8.out).of_no (M := One mb)).then_ kt (fun i _ e => e))
    clear kt ht7 hm7 c2
    have HX1 := Lib.hid (HZ9.out.thereC rfl HTD.out)
    have HX5 := Lib.hid HB9.out.all_
    have HMD := Lib.hid HTD.out.info
    have HOD := Lib.hid HTD.out.one
    have HX3 := Lib.hid (show Bk (w7.setCells W.heap.size 0 D) W.heap.size 32 D from HZ9.out.put (by rw [HTD.out.len]; rfl))
    have HX4 := Lib.hid (show Kp (One mb) W (w7.setCells W.heap.size 0 D) from HK9.out.sets D 0 (.inr (Nat.le_refl _)))
    have HX6 := Lib.hid (show OwnCs (w7.setCells W.heap.size 0 D) b mb (againC c s) from HO9.out.kp ((Kp.refl (One W.heap.size) w7).sets D 0 (.inl rfl)) (fun e : b = W.heap.size => by omega) (fun e : mb = W.heap.size => by omega))
    rw [HVD.out]
    go_wp2_with (first
      | (with_reducible refine wpList_load_mid rfl _ _ rfl w3.heap.size 0 rfl D _ HX5.out Tryz.underlying32 rfl HID.out ?_)
      | (with_reducible refine wpList_store_mid rfl _ _ _ rfl W.heap.size 0 D.toArray rfl rfl HX1.out HMD.out HOD.out ?_))
    exact bodyPost_ret (res_ct rfl _ _ rfl HX3.out.all_ Tryz.underlying32 rfl HID.out) rfl ⟨rfl, HX6.out, HX4.out⟩
end Go.Proofs.YtkiaclldjofdoaaGreat

/- New by contract. No condition beyond what each theorem states. -/
namespace Go.Proofs.YtkiaclldjofdoaaGreat
open Go Go.RowKit Go.Maps

def newC (boot : Int) : Cls := { boot := boot, next := 1, opn := [] }
def newE (boot : Int) : Int := if boot < 1 ∨ 1099511627776 < boot then 2 else 0

theorem new_bad (boot : Int) (W : World) (h : boot < 1 ∨ 1099511627776 < boot) : Calls Tryz.prog 7 #[.int .i64 boot] W fun e w' => e = .returned (.tuple #[.pointer none, .int .i64 2]) ∧ W = w' := by
  go_enter Tryz.func7, Tryz.ntmps7
  by_cases h1 : boot < 1
  · go_wp2
    go_ret2
    exact ⟨rfl, rfl⟩
  · have h2 : 1099511627776 < boot := by omega
    clear h
    go_wp2
    go_ret2
    exact ⟨rfl, rfl⟩

theorem new_good (boot : Int) (W : World) (h1 : 1 ≤ boot) (h2 : boot ≤ 1099511627776) : Calls Tryz.prog 7 #[.int .i64 boot] W fun e w' =>
    ∃ b mb, e = .returned (.tuple #[.pointer (some ⟨b, 0, none⟩), .int .i64 0]) ∧ OwnCs w' b mb (newC boot) ∧ W.heap.size ≤ b ∧ W.heap.size ≤ mb ∧ Kp No W w' := by
  have hm := @run_makeMap Tryz.prog
  have HB := Lib.hid (Bk.new (W.alloc (.map #[] 0)) 66 [.int .i64 boot, .int .i64 1, .map (some W.heap.size)])
  have HM := Lib.hid (OwnM.made W Tryz.prog 3)
  have HK := Lib.hid (((Kp.refl No W).alloc (.map #[] 0)).alloc (.cells #[.int .i64 boot, .int .i64 1, .map (some W.heap.size)] 66))
  have HO := Lib.hid (HM.out.kp ((Kp.refl No (W.alloc (.map #[] 0))).alloc (.cells #[.int .i64 boot, .int .i64 1, .map (some W.heap.size)] 66)) id)
  have es : (W.alloc (.map #[] 0)).heap.size = W.heap.size + 1 := by simp
  rw [es] at HB
  go_enter Tryz.func7, Tryz.ntmps7
  go_wp2
  go_ret2
  exact ⟨W.heap.size + 1, W.heap.size, rfl, ⟨HB.out, HO.out⟩, by omega, by omega, HK.out⟩
end Go.Proofs.YtkiaclldjofdoaaGreat

/- Lists of calls in memory; a lookup without 'ok'. No condition beyond what each theorem states. -/
namespace Go.Proofs.YtkiaclldjofdoaaGreat
open Go Go.RowKit Go.Maps Go.PlainAid

/-- the cells of a list of calls -/
def cL (l : List Cll) : List Value := (l.map cC).flatten
theorem cL_len : ∀ l : List Cll, (cL l).length = 10 * l.length
  | [] => rfl
  | x :: l => by
    have h := cL_len l
    unfold cL at h ⊢
    rw [List.map_cons, List.flatten_cons, List.length_append, h, List.length_cons]
    show 10 + _ = _; omega
theorem cL_snoc (l : List Cll) (x : Cll) : cL (l ++ [x]) = cL l ++ cC x := by simp [cL]
theorem cL_append (l m : List Cll) : cL (l ++ m) = cL l ++ cL m := by simp [cL]
theorem cL_get (l : List Cll) (k : Nat) (hk : k < l.length) (j : Nat) (hj : j < 10) : (cL l)[k * 10 + j]? = (cC l[k])[j]? := by
  have e : l = l.take k ++ (l[k] :: l.drop (k + 1)) := by rw [← List.drop_eq_getElem_cons hk, List.take_append_drop]
  have h1 : cL l = cL (l.take k) ++ (cC l[k] ++ cL (l.drop (k + 1))) := by
    conv => lhs; rw [e]
    unfold cL
    rw [List.map_append, List.flatten_append, List.map_cons, List.flatten_cons]
  have h2 : (cL (l.take k)).length = k * 10 := by rw [cL_len, List.length_take]; omega
  rw [h1, List.getElem?_append_right (by omega), h2, Nat.add_sub_cancel_left, List.getElem?_append_left (by show j < 10; exact hj)]
/-- a list of calls in memory -/
def ArgC (w : World) (v : Value) (l : List Cll) : Prop := ∃ A c, v = .slice A l.length c ∧ l.length ≤ c ∧ (l ≠ [] → ∃ g o, A = some ⟨g, o, none⟩ ∧ g < w.heap.size ∧ ∀ k (h : k < l.length), w.rangeAt g (o + k * 10) (cC l[k]))
theorem ArgC.kp {w w' : World} {v : Value} {l : List Cll} {M : Nat → Prop} (h : ArgC w v l) (hk : Kp M w w') (hm : ∀ g, v.ownBlock = some g → ¬ M g) : ArgC w' v l := by
  obtain ⟨A, c, rfl, hc, h⟩ := h
  refine ⟨A, c, rfl, hc, fun hne => ?_⟩
  obtain ⟨g, o, rfl, h1, h2⟩ := h hne
  exact ⟨g, o, rfl, Nat.lt_of_lt_of_le h1 hk.size, fun k hk' => range_kp (h2 k hk') hk (hm g rfl)⟩
theorem ArgC.no {w w' : World} {v : Value} {l : List Cll} (h : ArgC w v l) (hk : Kp No w w') : ArgC w' v l := h.kp hk fun _ _ m => m
theorem ArgC.nil (w : World) (A : Option Addr) (c : Nat) : ArgC w (.slice A 0 c) [] := ⟨A, c, rfl, Nat.zero_le _, fun h => absurd rfl h⟩
theorem ArgC.len {w : World} {v : Value} {l : List Cll} (h : ArgC w v l) : ∃ A c, v = .slice A l.length c ∧ l.length ≤ c := by
  obtain ⟨A, c, e, hc, _⟩ := h; exact ⟨A, c, e, hc⟩
theorem ArgC.at_ {w : World} {A : Option Addr} {n c : Nat} {l : List Cll} (h : ArgC w (.slice A n c) l) {k : Nat} (hk : k < l.length) : ∃ g o, A = some ⟨g, o, none⟩ ∧ g < w.heap.size ∧ w.rangeAt g (o + k * 10) (cC l[k]) := by
  obtain ⟨A', c', e, _, h⟩ := h
  obtain ⟨g, o, e1, h1, h2⟩ := h (fun e => by subst e; exact Nat.not_lt_zero _ hk)
  injection e with e2 _ _
  exact ⟨g, o, e2.trans e1, h1, h2 k hk⟩
theorem own_argC {w : World} {B n : Nat} {v : Value} {l : List Cll} (h : w.ownsRow B 32 10 v n (cL l)) (hn : n = l.length) : ArgC w v l := by
  subst hn
  obtain ⟨A, c, e, hc⟩ := own_len h
  refine ⟨A, c, e, hc, fun hne => ?_⟩
  obtain ⟨g, cap, e2, _, _, hlt⟩ := own_form h (List.length_pos_iff.2 hne)
  refine ⟨g, 0, by rw [e] at e2; injection e2, hlt, fun k hk j u hu => ?_⟩
  have hj : j < 10 := (List.getElem?_eq_some_iff.1 hu).1
  have := h.cells (g := g) (by rw [e2]; rfl) (k * 10 + j) u (by rw [cL_get l k hk j hj]; exact hu)
  rw [Addr.add_mid] at this
  rwa [Nat.add_assoc]
theorem infoCl : (Tryz.prog.info? 32).map (fun i => (i.zero, i.size, i.bytes)) = some (some (vC {}), 10, 88) := by kernel_rfl
theorem own_bkC {w : World} {B n size : Nat} {t : TypeId} {v : Value} {xs : List Value} (h : w.ownsRow B t size v n xs) : ∀ g, v.ownBlock = some g → ∃ cs, Bk w g t cs := by
  intro g hg
  rcases h.2 with ⟨e, _⟩ | ⟨g', cap, cur, e, _, hh, _⟩
  · rw [e] at hg; simp [Value.ownBlock] at hg
  · rw [e] at hg
    have : g' = g := by simpa [Value.ownBlock] using hg
    subst this
    exact ⟨cur.toList, by unfold Bk; rw [hh]⟩

theorem wpList_build1 {P : Program} {ops : Array Oper} {rest : List Oper} {o : Oper} {a : Act} {w : World} {Q : Exit → Act → World → Prop} (hgd : o.guard = none) (t : TypeId) (x : Operand) (ho : o.op = .buildSlice t 1 #[(0, x)])
    (e : TypeId) (z : Value) (size bytes : Nat) (ht : P.underlying t = some (.slice e)) (hi : (P.info? e).map (fun i => (i.zero, i.size, i.bytes)) = some (some z, size, bytes))
    (h0 : 0 < size) (h1 : size ≤ 16777216) (v : Value) (hx : a.eval x = v) (cs : List Value) (hv : v.cells = cs.toArray) (hl : cs.length = size)
    (h : wpList P ops Q rest (a.put o.dst (.slice (some ⟨w.heap.size, 0, none⟩) 1 1)) (w.alloc (.cells cs.toArray e))) : wpList P ops Q (o :: rest) a w :=
  wpList_plain hgd fun _ hK => wp_build1 t x ho e z size bytes ht hi h0 h1 v hx cs hv hl (hK _ _ h)

/-- 'm[s]' -/
theorem wp_look1 {P : Program} (w : World) {ops : Array Oper} {rest : List Oper} {o : Oper} {a : Act} {Q : Exit → Act → World → Prop} (hg : o.guard = none) (m x : Operand) (t : TypeId) (hop : o.op = Op.lookup t m x false) (k e : TypeId) (hk : P.underlying k = some (.int .i64)) (ht : P.underlying t = some (.map k e))
    (hz : (zeroValue e).run P w = .ok (vC {}) w) (b : Nat) (l : List Cll) (s : Int) (hm : a.eval m = .map (some b)) (hown : OwnM P w k b l) (hx : a.eval x = .int .i64 s) (hs : (Lit.int .i64 s).wf = true)
    (hK : wpList P ops Q rest (a.put o.dst (vC ((getC l s).getD {}))) w) : wpList P ops Q (o :: rest) a w := by
  refine wpList_plain hg fun K' hK' => ?_
  obtain ⟨v, ps, hrun, hv⟩ := World.ownsMap.lookup hown (int_keyed hk) ht hz (RC_mk {}) (key_i64 hk hs)
  rw [RC_look hv] at hrun
  unfold Oper.wp
  simp [execOp, hop, hm, hx, hrun, Result.andThen]
  exact hK' _ _ hK
end Go.Proofs.YtkiaclldjofdoaaGreat
