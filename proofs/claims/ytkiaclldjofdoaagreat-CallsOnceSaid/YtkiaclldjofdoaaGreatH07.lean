/- Several texts of this claim in one. No condition beyond what each theorem states. -/
import Derived.Test.YtkiaclldjofdoaaGreatH06
import Derived.Laws.StructEq
import Derived.StillTailTactics
import Derived.Test.YtkiaclldjofdoaaGreatH03
/- Calls compared; the document's Same and New by contract. No condition beyond what each theorem states. -/
namespace Go.Proofs.YtkiaclldjofdoaaGreat
open Go Go.RowKit Go.Maps Go.PlainAid

set_option maxRecDepth 100000 in
set_option maxHeartbeats 4000000 in
theorem equalIn_call (a b : Cll) (w : World) : (Op.equalIn 10000 32 (vC a) (vC b)).run Tryz.prog w = .ok (decide (a = b)) w := by
  have hS : Tryz.prog.underlying 32 = some (.struct (Tryz.prog.fieldsOf 32)) := by kernel_rfl
  have hp : Tryz.prog.stoodInHeld 32 = false := by kernel_rfl
  simp only [vC, cC]
  rw [show (10000 : Nat) = 9999 + 1 from rfl, run_equalIn_agg w 9999 32 _ _ hS hp]
  simp only [Program.fieldsOf, Tryz.underlying32]
  go_simp
  obtain ⟨k1, k2, k3, k4, k5, k6, k7, k8, k9, k10⟩ := a
  obtain ⟨j1, j2, j3, j4, j5, j6, j7, j8, j9, j10⟩ := b
  simp only [Cll.mk.injEq]
  rcases Decidable.em (¬ k1 = j1) with e | e
  · rw [if_neg e]; simp [e]
  obtain rfl := Decidable.not_not.1 e; clear e; rw [if_pos rfl]
  rcases Decidable.em (¬ k2 = j2) with e | e
  · rw [if_neg e]; simp [e]
  obtain rfl := Decidable.not_not.1 e; clear e; rw [if_pos rfl]
  rcases Decidable.em (¬ k3 = j3) with e | e
  · rw [if_neg e]; simp [e]
  obtain rfl := Decidable.not_not.1 e; clear e; rw [if_pos rfl]
  rcases Decidable.em (¬ k4 = j4) with e | e
  · rw [if_neg e]; simp [e]
  obtain rfl := Decidable.not_not.1 e; clear e; rw [if_pos rfl]
  rcases Decidable.em (¬ k5 = j5) with e | e
  · rw [if_neg e]; simp [e]
  obtain rfl := Decidable.not_not.1 e; clear e; rw [if_pos rfl]
  rcases Decidable.em (¬ k6 = j6) with e | e
  · rw [if_neg e]; simp [e]
  obtain rfl := Decidable.not_not.1 e; clear e; rw [if_pos rfl]
  rcases Decidable.em (¬ k7 = j7) with e | e
  · rw [if_neg e]; simp [e]
  obtain rfl := Decidable.not_not.1 e; clear e; rw [if_pos rfl]
  rcases Decidable.em (¬ k8 = j8) with e | e
  · rw [if_neg e]; simp [e]
  obtain rfl := Decidable.not_not.1 e; clear e; rw [if_pos rfl]
  rcases Decidable.em (¬ k9 = j9) with e | e
  · rw [if_neg e]; simp [e]
  obtain rfl := Decidable.not_not.1 e; clear e; rw [if_pos rfl]
  by_cases e : k10 = j10
  · simp [e]
  · simp [e]
theorem call_eq (a b : Cll) (w : World) : (binOp .eql 32 (.agg (cC a).toArray) (.agg (cC b).toArray)).run Tryz.prog w = .ok (.bool (decide (a = b))) w := by
  have := equalIn_call a b w
  unfold vC at this
  rw [run_eql_struct, this]
  rfl
theorem call_ne (a b : Cll) (w : World) : (binOp .neq 32 (.agg (cC a).toArray) (.agg (cC b).toArray)).run Tryz.prog w = .ok (.bool (!decide (a = b))) w := by
  have := equalIn_call a b w
  unfold vC at this
  rw [run_neq_struct, this]
  rfl

theorem rnew_bad (boot : Int) (W : World) (h : boot < 1 ∨ 1099511627776 < boot) : Calls Tryz.prog 12 #[.int .i64 boot] W fun e w' => e = .returned (.tuple #[.agg (rC 0 0 (.slice none 0 0)).toArray, .int .i64 2]) ∧ Kp No W w' := by
  have HK := Lib.hid ((Kp.refl No W).alloc (.cells #[.int .i64 0, .int .i64 0, .slice none 0 0] 39))
  have HZ := Lib.hid (Bk.new W 39 [.int .i64 0, .int .i64 0, .slice none 0 0])
  unfold rC
  go_enter Tryz.func12, Tryz.ntmps12
  by_cases h1 : boot < 1
  · go_wp2
    exact bodyPost_ret (res_ct rfl _ _ rfl HZ.out.all_ Tryz.underlying39 rfl infoR) rfl ⟨rfl, HK.out⟩
  · have h2 : 1099511627776 < boot := by omega
    clear h
    go_wp2
    exact bodyPost_ret (res_ct rfl _ _ rfl HZ.out.all_ Tryz.underlying39 rfl infoR) rfl ⟨rfl, HK.out⟩
theorem rnew_good (boot : Int) (W : World) (h1 : 1 ≤ boot) (h2 : boot ≤ 1099511627776) : Calls Tryz.prog 12 #[.int .i64 boot] W fun e w' => e = .returned (.tuple #[.agg (rC boot 1 (.slice none 0 0)).toArray, .int .i64 0]) ∧ Kp No W w' := by
  have HK := Lib.hid ((Kp.refl No W).alloc (.cells #[.int .i64 boot, .int .i64 1, .slice none 0 0] 39))
  have HZ := Lib.hid (Bk.new W 39 [.int .i64 boot, .int .i64 1, .slice none 0 0])
  unfold rC
  go_enter Tryz.func12, Tryz.ntmps12
  go_wp2
  exact bodyPost_ret (res_ct rfl _ _ rfl HZ.out.all_ Tryz.underlying39 rfl infoR) rfl ⟨rfl, HK.out⟩

set_option maxRecDepth 100000 in
set_option maxHeartbeats 4000000 in
theorem rsame_any14 (v1 v2 : Value) (l m : List Cll) (W : World) (h1 : ArgC W v1 l) (h2 : ArgC W v2 m) (hl : l.length ≤ maxLen) (hm : m.length ≤ maxLen) :
    Calls Tryz.prog 25 #[v1, v2] W fun e w' => e = .returned (.bool (decide (l = m))) ∧ Kp No W w' := by
  obtain ⟨Q, hQ⟩ : ∃ Q : Ending → World → Prop, Q = fun e w' => e = .returned (.bool (decide (l = m))) ∧ Kp No W w' := ⟨_, rfl⟩
  rw [← hQ]
  have HQ := Lib.hid hQ; clear hQ
  obtain ⟨A, c, rfl, _⟩ := h1.len
  obtain ⟨B, d, rfl, _⟩ := h2.len
  have H1 := Lib.hid h1; have H2 := Lib.hid h2
  unfold maxLen at hl; have hm0 := hm; unfold maxLen at hm0
  clear h1 h2
  by_cases hn : l.length = m.length
  · have HN := Lib.hid hn
    have hl2 : l.length ≤ 9223372036854775807 := by omega
    rw [← hn]
    have H2 := Lib.hid (show ArgC W (.slice B l.length d) m by rw [hn]; exact H2.out)
    clear hn hm hm0 hl
    go_enter Tryz.func25, Tryz.ntmps25
    go_wp2
    go_loopw [5] (fun i wr => ∃ j : Nat, j ≤ l.length ∧ i = .int .i64 j ∧ (∀ k : Nat, k < j → l[k]? = m[k]?) ∧ Kp No W wr) (fun i _ => l.length - (Go.RowKit.intOf i).toNat)
    case atStart => exact ⟨0, Nat.zero_le _, rfl, (fun k g => absurd g (Nat.not_lt_zero _)), Kp.refl _ _⟩
    case round =>
      obtain ⟨j, hj, rfl, hno, hk⟩ := hrel
      have HNO := Lib.hid hno; have HK := Lib.hid hk
      clear hno hk
      by_cases hlt : j < l.length
      · have hk0 : (0 : Int) ≤ (j : Int) := by omega
        have hk1 : (j : Int) < (l.length : Int) := by omega
        obtain ⟨g1, o1, hA, _, r1⟩ := (H1.out.no HK.out).at_ hlt
        obtain ⟨g2, o2, hB, _, r2⟩ := (H2.out.no HK.out).at_ (show j < m.length by have := HN.out; omega)
        subst hA hB
        obtain ⟨x, hx⟩ : ∃ x, x = l[j] := ⟨_, rfl⟩
        obtain ⟨y, hy⟩ : ∃ y, y = m[j]'(by have := HN.out; omega) := ⟨_, rfl⟩
        have HX := Lib.hid (show l[j]? = some x by rw [List.getElem?_eq_getElem hlt, hx])
        have HY := Lib.hid (show m[j]? = some y by rw [List.getElem?_eq_getElem (by have := HN.out; omega), hy])
        rw [← hx] at r1
        rw [← hy] at r2
        have hne := fun w => call_ne x y w
        have HT1 := Lib.hid (Ten.of x); have HT2 := Lib.hid (Ten.of y)
        generalize cC x = X at *
        generalize cC y = Y at *
        have R1 := Lib.hid r1; have R2 := Lib.hid r2
        have HI1 := Lib.hid HT1.out.infoL; have HI2 := Lib.hid HT2.out.infoL
        clear hlt hx hy r1 r2
        go_upto_region 6 with (fail)
        refine wp_region_still_lit (by kernel_rfl) (by kernel_rfl) ?_
        change wpStill _ _ wr.drew _ _ _
        have R1 := Lib.hid (range_kp R1.out (Kp.refl No wr).drew id); have R2 := Lib.hid (range_kp R2.out (Kp.refl No wr).drew id)
        have HK2 := Lib.hid HK.out.drew
        still_step
        still_step
        still_step
        refine still_load_mid rfl _ _ rfl g1 (o1 + j * 10) rfl X _ R1.out Tryz.underlying32 rfl HI1.out ?_
        still_step
        still_step
        still_step
        refine still_load_mid rfl _ _ rfl g2 (o2 + j * 10) rfl Y _ R2.out Tryz.underlying32 rfl HI2.out ?_
        still_step
        refine wpStill_nil ?_
        change Exit.then _ _ Exit.normal _ wr.drew
        clear hne
        by_cases hxy : x = y
        · have hd : (!decide (x = y)) = false := by rw [decide_eq_true hxy]; rfl
          rw [hd]
          have HXY := Lib.hid hxy
          clear hd hxy
          go_wp2
          go_roundw
          case rel =>
            refine ⟨j + 1, by omega, by go_num, fun k hk => ?_, HK2.out⟩
            rcases Nat.lt_or_ge k j with h | h
            · exact HNO.out k h
            · obtain rfl : k = j := by omega
              rw [HX.out, HY.out, HXY.out]
          case measure => simp [Go.RowKit.intOf]; omega
        · have hd : (!decide (x = y)) = true := by rw [decide_eq_false hxy]; rfl
          rw [hd]
          have HQF := Lib.hid (show Q (.returned (.bool false)) wr.drew by
            rw [HQ.out]
            refine ⟨?_, HK2.out⟩
            have : ¬ l = m := fun e => by
              have h1 := HX.out; have h2 := HY.out
              rw [e, h2] at h1
              injection h1 with h1
              exact hxy h1.symm
            rw [decide_eq_false this])
          clear hd hxy
          go_wp2
          exact HQF.out
      · have hk1 : ¬ (j : Int) < (l.length : Int) := by omega
        have hjl : j = l.length := by omega
        have HQF := Lib.hid (show Q (.returned (.bool true)) wr by
          rw [HQ.out]
          refine ⟨?_, HK.out⟩
          have : l = m := by
            apply List.ext_getElem?
            intro k
            rcases Nat.lt_or_ge k j with h | h
            · exact HNO.out k h
            · rw [List.getElem?_eq_none (by omega), List.getElem?_eq_none (by have := HN.out; omega)]
          rw [decide_eq_true this])
        clear hlt
        go_wp2
        exact HQF.out
  · have hn2 : ¬ (l.length : Int) = (m.length : Int) := by omega
    have hn3 : ((l.length : Int) != (m.length : Int)) = true := by rw [bne_iff_ne]; exact hn2
    have HQF := Lib.hid (show Q (.returned (.bool false)) W by
      rw [HQ.out]
      refine ⟨?_, Kp.refl _ _⟩
      have : ¬ l = m := fun e => hn (by rw [e])
      rw [decide_eq_false this])
    clear hn
    go_enter Tryz.func25, Tryz.ntmps25
    go_wp2
    exact HQF.out
end Go.Proofs.YtkiaclldjofdoaaGreat

/- The document's Close by contract. No condition beyond what each theorem states. -/
namespace Go.Proofs.YtkiaclldjofdoaaGreat
open Go Go.RowKit Go.Maps Go.PlainAid

/-- results: a struct in a cell, another, and a slot -/
theorem res_cct {P : Program} {fn : Func} {s r u : Tmp} {t t' : TypeId} (h : fn.results = #[.cell s t, .cell r t', .tmp u]) (tmps : Array Value) (w : World) {g g' : Nat} {cs cs' : List Value} {d d' : TypeDesc} (hp : tmps.getD s undef = .pointer (some ⟨g, 0, none⟩)) (hp' : tmps.getD r undef = .pointer (some ⟨g', 0, none⟩)) (hc : w.rangeAt g 0 cs) (hc' : w.rangeAt g' 0 cs')
    (hu : P.underlying t = some d) (hd : d.isRow = true) (hi : (P.info? t).map (·.size) = some cs.length) (hu' : P.underlying t' = some d') (hd' : d'.isRow = true) (hi' : (P.info? t').map (·.size) = some cs'.length) : (results fn tmps).run P w = .ok (.tuple #[.agg cs.toArray, .agg cs'.toArray, tmps.getD u undef]) w := by
  simp only [results, h, Array.mapM_eq_mapM_toList]
  have hp2 : tmps[s]?.getD undef = .pointer (some ⟨g, 0, none⟩) := by simpa using hp
  have hp3 : tmps[r]?.getD undef = .pointer (some ⟨g', 0, none⟩) := by simpa using hp'
  simp [hp2, hp3, asAddr, run_loadVar_mid w g 0 t cs d hc hu hd hi, run_loadVar_mid w g' 0 t' cs' d' hc' hu' hd' hi']
/-- three cells as a variable -/
structure Thr (C : List Value) : Prop where
  len : C.length = 3
  one : C.toArray.all (·.oneCell') = true
theorem Thr.of (boot next : Int) (A : Option Addr) (n c : Nat) : Thr (rC boot next (.slice A n c)) := ⟨rfl, by simp [rC, Value.oneCell']⟩
theorem Thr.info {C : List Value} (h : Thr C) : (Tryz.prog.info? 39).map (·.size) = some C.toArray.size := by rw [List.size_toArray, h.len]; exact infoR
theorem Thr.infoL {C : List Value} (h : Thr C) : (Tryz.prog.info? 39).map (·.size) = some C.length := by rw [h.len]; exact infoR
theorem Bk.there3 {w : World} {g : Nat} {t : TypeId} {cs C : List Value} (h : Bk w g t cs) (hl : cs.length = 3) (hC : Thr C) : w.there g 0 C.toArray.size := by
  rw [List.size_toArray, hC.len]; exact h.there 0 3 (by omega)
/-- the calls but that of a number -/
def outL (l : List Cll) (s : Int) : List Cll := l.filter fun x => decide (x.seq ≠ s)
theorem outL_snoc (l : List Cll) (s : Int) (j : Nat) (h : j < l.length) : outL (l.take (j + 1)) s = outL (l.take j) s ++ (if l[j].seq = s then [] else [l[j]]) := by
  unfold outL
  rw [List.take_succ_eq_append_getElem h, List.filter_append]
  congr 1
  by_cases e : l[j].seq = s <;> simp [e]
theorem outL_len (l : List Cll) (s : Int) (j : Nat) : (outL (l.take j) s).length ≤ j := by
  unfold outL
  exact Nat.le_trans (List.length_filter_le _ _) (by rw [List.length_take]; omega)
/-- the document's answer: calls, a call, whether -/
def RefR (boot next : Int) (l' : List Cll) (x : Cll) (ok : Bool) (W : World) (e : Ending) (w' : World) : Prop :=
  ∃ sv', e = .returned (.tuple #[.agg (rC boot next sv').toArray, vC x, .bool ok]) ∧ ArgC w' sv' l' ∧ Kp No W w'
/-- .. where the calls may be as they were -/
def Two12 (s : Nat) : Nat → Prop := fun k => k = s + 1 ∨ k = s + 2

set_option maxRecDepth 100000 in
set_option maxHeartbeats 4000000 in
theorem rclose_any (boot next : Int) (sv : Value) (l : List Cll) (s : Int) (W : World) (hv : ArgC W sv l) (hl : l.length ≤ 1000) :
    Calls Tryz.prog 17 #[.agg (rC boot next sv).toArray, .int .i64 s] W (RefR boot next (outL l s) (atC l s) (getC l s).isSome W) := by
  obtain ⟨Q, hQ⟩ : ∃ Q : Ending → World → Prop, Q = RefR boot next (outL l s) (atC l s) (getC l s).isSome W := ⟨_, rfl⟩
  rw [← hQ]
  have HQ := Lib.hid hQ; clear hQ
  obtain ⟨A, c, rfl, hcl⟩ := hv.len
  obtain ⟨w1, hw1⟩ : ∃ w1, w1 = ((W.alloc (.cells #[.int .i64 boot, .int .i64 next, .slice A l.length c] 39)).alloc (.cells #[.int .i64 0, .int .i64 0, .slice none 0 0] 39)).alloc (.cells #[.int .i64 0, .int .i64 0, .int .i64 0, .string ⟨#[]⟩, .int .i64 0, .int .i64 0, .int .i64 0, .bool false, .int .i64 0, .int .i64 0] 32) := ⟨_, rfl⟩
  have HK1 := Lib.hid (show Kp No W w1 by rw [hw1]; exact (((Kp.refl No W).alloc _).alloc _).alloc _)
  have HB1 := Lib.hid (show Bk w1 W.heap.size 39 [.int .i64 boot, .int .i64 next, .slice A l.length c] by rw [hw1]; exact ((Bk.new' rfl rfl).alloc _).alloc _)
  have HZ41 := Lib.hid (show Bk w1 (W.heap.size + 1) 39 [.int .i64 0, .int .i64 0, .slice none 0 0] by rw [hw1]; exact (Bk.new' (by simp) rfl).alloc _)
  have HZ51 := Lib.hid (show Bk w1 (W.heap.size + 2) 32 (cC {}) by rw [hw1]; exact Bk.new' (by simp) rfl)
  have HV := Lib.hid (hv.no HK1.out)
  have HW1 := Lib.hid hw1
  have pg := rget_any boot next (.slice A l.length c) l s w1 HV.out (by unfold maxLen; omega)
  have hl2 : l.length ≤ 9223372036854775807 := by omega
  have HL := Lib.hid hl
  clear hv hcl hw1 hl
  unfold rC at pg ⊢
  obtain ⟨C, hC⟩ : ∃ C, C = cC (atC l s) := ⟨_, rfl⟩
  have HTC := Lib.hid (show Ten C by rw [hC]; exact Ten.of _)
  have HVX := Lib.hid (show vC (atC l s) = .agg C.toArray by rw [hC]; rfl)
  rw [HVX.out] at pg
  have HIC := Lib.hid HTC.out.info; have HOC := Lib.hid HTC.out.one; have HLC := Lib.hid HTC.out.infoL
  clear hC
  generalize hok : (getC l s).isSome = ok at *
  clear hok
  go_enter Tryz.func17, Tryz.ntmps17
  go_upto_region 1 with (fail)
  rw [← HW1.out]
  clear HW1
  have y0 : w1.cell? ⟨W.heap.size, 0, none⟩ = some (.int .i64 boot) := HB1.out.cell 0
  have y1 : w1.cell? ⟨W.heap.size, 1, none⟩ = some (.int .i64 next) := HB1.out.cell 1
  have y2 : w1.cell? ⟨W.heap.size, 2, none⟩ = some (.slice A l.length c) := HB1.out.cell 2
  go_wp2_with fail
  refine pg.mono ?_
  rintro e w3 ⟨rfl, k3⟩
  have HK3 := Lib.hid k3
  have hs3 : W.heap.size + 3 ≤ w3.heap.size := by have := HZ51.out.lt; have := k3.size; omega
  clear pg k3 y0 y1 y2
  have HT6 := Lib.hid (show (w3.alloc (.cells (cC {}).toArray 32)).there w3.heap.size 0 C.toArray.size from (Bk.new w3 _ _).thereC rfl HTC.out)
  have HB4 := Lib.hid (show Bk ((w3.alloc (.cells (cC {}).toArray 32)).setCells w3.heap.size 0 C) w3.heap.size 32 C from (Bk.new w3 _ (cC {})).put HTC.out.len)
  have HK4 := Lib.hid (show Kp No w3 ((w3.alloc (.cells (cC {}).toArray 32)).setCells w3.heap.size 0 C) from ((Kp.refl No w3).alloc _).sets C 0 (.inr (Nat.le_refl _)))
  have e0 : (cC {}).toArray = #[.int .i64 0, .int .i64 0, .int .i64 0, .string ⟨#[]⟩, .int .i64 0, .int .i64 0, .int .i64 0, .bool false, .int .i64 0, .int .i64 0] := rfl
  rw [e0] at HT6 HB4 HK4
  clear e0
  go_upto_region 2 with (with_reducible refine wpList_store_mid rfl _ _ _ rfl w3.heap.size 0 C.toArray rfl rfl HT6.out HIC.out HOC.out ?_)
  generalize World.setCells _ w3.heap.size 0 C = w4 at *
  have HK14 := Lib.hid (HK3.out.trans HK4.out)
  have hs4 : w3.heap.size < w4.heap.size := HB4.out.lt
  go_wp2
  go_loopw [10, 9] (fun i o wr => ∃ j : Nat, j ≤ l.length ∧ i = .int .i64 j ∧ wr.ownsRow w4.heap.size 32 10 o (outL (l.take j) s).length (cL (outL (l.take j) s)) ∧ Kp No w4 wr) (fun i _ _ => l.length - (Go.RowKit.intOf i).toNat)
  case atStart => exact ⟨0, Nat.zero_le _, rfl, nil_own _ _ _ _, Kp.refl _ _⟩
  case round =>
    obtain ⟨j, hj, rfl, ho, hk⟩ := hrel
    have HO := Lib.hid ho; have HK := Lib.hid hk
    clear ho hk
    have y2 : wr.cell? ⟨W.heap.size, 2, none⟩ = some (.slice A l.length c) := (HB1.out.no (HK14.out.trans HK.out)).cell 2
    by_cases hlt : j < l.length
    · have hk0 : (0 : Int) ≤ (j : Int) := by omega
      have hk1 : (j : Int) < (l.length : Int) := by omega
      obtain ⟨g, o, hA, hgl, hr⟩ := (HV.out.no (HK14.out.trans HK.out)).at_ hlt
      subst hA
      have HR := Lib.hid hr
      have HS := Lib.hid (outL_snoc l s j hlt)
      have hml := outL_len l s j
      obtain ⟨x, hx⟩ : ∃ x, x = l[j] := ⟨_, rfl⟩
      have x0 := hr 0 _ rfl
      simp only [Nat.add_zero] at x0
      rw [← hx] at x0 HR HS
      clear hlt hr hgl hx
      by_cases hid : x.seq = s
      · rw [if_pos hid, List.append_nil] at HS
        go_wp2
        go_roundw
        case rel => exact ⟨j + 1, by omega, by go_num, by rw [HS.out]; exact HO.out, HK.out⟩
        case measure => simp [Go.RowKit.intOf]; omega
      · rw [if_neg hid] at HS
        have hid2 : (x.seq == s) = false := by rw [beq_eq_false_iff_ne]; exact hid
        obtain ⟨m, hm⟩ : ∃ m, m = outL (l.take j) s := ⟨_, rfl⟩
        rw [← hm] at HO HS hml
        clear hm
        obtain ⟨Ao, co, hao, _⟩ := own_len HO.out
        subst hao
        have hsz : w4.heap.size ≤ wr.heap.size := HK.out.size
        have hmb : m.length + 1 ≤ 1001 := by have := HL.out; omega
        obtain ⟨X, hX⟩ : ∃ X, X = cC x := ⟨_, rfl⟩
        have HTX := Lib.hid (show Ten X by rw [hX]; exact Ten.of _)
        have HXC := Lib.hid (show cL [x] = X by rw [hX]; simp [cL])
        rw [← hX] at HR
        clear hX
        have HIL := Lib.hid HTX.out.infoL; have HXL := Lib.hid HTX.out.len
        have HXO := Lib.hid (show ∀ u ∈ X, u.oneCell' = true from fun u hu => (Array.all_eq_true_iff_forall_mem.1 HTX.out.one) u (by simpa using hu))
        go_wp2_with (first
          | (with_reducible refine wpList_load_mid rfl _ _ rfl g (o + j * 10) rfl X _ HR.out Tryz.underlying32 rfl HIL.out ?_)
          | (with_reducible refine wpList_build1 rfl 37 _ rfl 32 _ 10 88 Tryz.underlying37 infoCl (by omega) (by omega) (.agg X.toArray) rfl X rfl HXL.out ?_)
          | (at_builtin; go_must (refine wpList_app1 _ rfl _ _ 37 rfl w4.heap.size 32 _ 10 88 Tryz.underlying37 infoCl rfl (by omega) _ m.length (cL m) rfl (HO.out.alloc _) _ _ X rfl (Bk.new' rfl rfl) HXL.out HXO.out (by omega) (by omega) (by simp; omega) ?_); intro g5 c5 w5 hown5 hk5 hat5))
        have HO5 := Lib.hid hown5; have HK5 := Lib.hid hk5
        clear hown5 hk5 hat5
        go_roundw
        case rel =>
          refine ⟨j + 1, by omega, by go_num, ?_, (HK.out.alloc _).then_ HK5.out fun i hi e => by have := (HO.out.lt i e).1; omega⟩
          rw [HS.out, cL_append, List.length_append, HXC.out]
          exact HO5.out
        case measure => simp [Go.RowKit.intOf]; omega
    · have hk1 : ¬ (j : Int) < (l.length : Int) := by omega
      have hjl : j = l.length := by omega
      rw [hjl, List.take_length] at HO
      clear hlt
      go_upto_region 8 with (fail)
      have HBR := Lib.hid (HB1.out.no (HK14.out.trans HK.out))
      have HZ4 := Lib.hid (HZ41.out.no (HK14.out.trans HK.out))
      have HZ5 := Lib.hid (HZ51.out.no (HK14.out.trans HK.out))
      have HB5 := Lib.hid (HB4.out.no HK.out)
      have HN0 := Lib.hid (show ¬ Two12 W.heap.size W.heap.size from fun e => by rcases e with e | e <;> omega)
      have HN7 := Lib.hid (show ¬ Two12 W.heap.size w3.heap.size from fun e => by rcases e with e | e <;> omega)
      have HN5 := Lib.hid (show ¬ One (W.heap.size + 1) (W.heap.size + 2) from fun e => by have e : W.heap.size + 2 = W.heap.size + 1 := e; omega)
      obtain ⟨Ao, co, hao, _⟩ := own_len HO.out
      subst hao
      obtain ⟨E, hE⟩ : ∃ E, E = rC boot next (.slice Ao (outL l s).length co) := ⟨_, rfl⟩
      have HE3 := Lib.hid (show Thr E by rw [hE]; exact Thr.of _ _ _ _ _)
      have HEI := Lib.hid HE3.out.info; have HEO := Lib.hid HE3.out.one; have HEL := Lib.hid HE3.out.infoL
      have HEV := Lib.hid (show (.agg #[.int .i64 boot, .int .i64 next, .slice Ao (outL l s).length co] : Value) = .agg E.toArray by rw [hE]; rfl)
      have HEE := Lib.hid hE
      clear hE
      have k8 : Kp (One (W.heap.size + 1)) (wr.drew) ((wr.drew).setCells (W.heap.size + 1) 0 E) := (Kp.refl _ _).sets E 0 (.inl rfl)
      have kd : Kp (Two12 W.heap.size) wr wr.drew := (Kp.refl _ wr).drew
      have k8' : Kp (Two12 W.heap.size) wr ((wr.drew).setCells (W.heap.size + 1) 0 E) := kd.sets E 0 (.inl (.inl rfl))
      have k9 : Kp (Two12 W.heap.size) wr (((wr.drew).setCells (W.heap.size + 1) 0 E).setCells (W.heap.size + 2) 0 C) := k8'.sets C 0 (.inl (.inr rfl))
      have hF := kd
      refine rg_begin (fun W2 => Kp (Two12 W.heap.size) wr W2) 11 (by kernel_rfl) ?_
      refine rg_take (i := 0) (v := ?vp0) (by simp only [List.getElem?_toArray, List.getElem?_cons_zero]; rfl) (by kernel_rfl) (by exact fun _ _ _ h => h) (by rfl) ?rp0 hF ?sp0
      case rp0 => (intro W hW; clear hW; go_simp; try with_reducible rfl)
      try simp only [Act.put, List.setIfInBounds_toArray, List.set_cons_zero, List.set_cons_succ]
      refine rg_take (i := 1) (v := ?vp1) (by simp only [List.getElem?_toArray, List.getElem?_cons_succ, List.getElem?_cons_zero]; rfl) (by kernel_rfl) (by exact fun _ _ _ h => h) (by rfl) ?rp1 hF ?sp1
      case rp1 => (intro W9 hW; have z : W9.cell? ⟨W.heap.size, 0, none⟩ = some (.int .i64 boot) := (HBR.out.kp hW HN0.out).cell 0; clear hW; go_simp; try with_reducible rfl)
      try simp only [Act.put, List.setIfInBounds_toArray, List.set_cons_zero, List.set_cons_succ]
      refine rg_take (i := 2) (v := ?vp2) (by simp only [List.getElem?_toArray, List.getElem?_cons_succ, List.getElem?_cons_zero]; rfl) (by kernel_rfl) (by exact fun _ _ _ h => h) (by rfl) ?rp2 hF ?sp2
      case rp2 => (intro W hW; clear hW; go_simp; try with_reducible rfl)
      try simp only [Act.put, List.setIfInBounds_toArray, List.set_cons_zero, List.set_cons_succ]
      refine rg_take (i := 3) (v := ?vp3) (by simp only [List.getElem?_toArray, List.getElem?_cons_succ, List.getElem?_cons_zero]; rfl) (by kernel_rfl) (by exact fun _ _ _ h => h) (by rfl) ?rp3 hF ?sp3
      case rp3 => (intro W9 hW; have z : W9.cell? ⟨W.heap.size, 1, none⟩ = some (.int .i64 next) := (HBR.out.kp hW HN0.out).cell 1; clear hW; go_simp; try with_reducible rfl)
      try simp only [Act.put, List.setIfInBounds_toArray, List.set_cons_zero, List.set_cons_succ]
      refine rg_take (i := 4) (v := ?vp4) (by simp only [List.getElem?_toArray, List.getElem?_cons_succ, List.getElem?_cons_zero]; rfl) (by kernel_rfl) (by exact fun _ _ _ h => h) (by rfl) ?rp4 hF ?sp4
      case rp4 => (intro W hW; clear hW; go_simp; try with_reducible rfl)
      try simp only [Act.put, List.setIfInBounds_toArray, List.set_cons_zero, List.set_cons_succ]
      refine rg_take (i := 5) (v := ?vp5) (by simp only [List.getElem?_toArray, List.getElem?_cons_succ, List.getElem?_cons_zero]; rfl) (by kernel_rfl) (by exact fun _ _ _ h => h) (by rfl) ?rp5 hF ?sp5
      case rp5 => (intro W hW; clear hW; go_simp; try with_reducible rfl)
      try simp only [Act.put, List.setIfInBounds_toArray, List.set_cons_zero, List.set_cons_succ]
      refine rg_take (i := 6) (v := ?vp6) (by simp only [List.getElem?_toArray, List.getElem?_cons_succ, List.getElem?_cons_zero]; rfl) (by kernel_rfl) (by exact fun _ _ _ h => h) (by rfl) ?rp6 hF ?sp6
      case rp6 => (intro W9 hW; refine exec_load_mid W9 32 (.tmp 7) ?_ w3.heap.size 0 ?_ C _ ((HB5.out.kp hW HN7.out).all_) Tryz.underlying32 ?_ HLC.out; exact rfl; exact rfl; exact rfl)
      try simp only [Act.put, List.setIfInBounds_toArray, List.set_cons_zero, List.set_cons_succ]
      refine rg_take (i := 7) (v := ?vp7) (by simp only [List.getElem?_toArray, List.getElem?_cons_succ, List.getElem?_cons_zero]; rfl) (by kernel_rfl) (by exact fun _ _ _ h => h) (by rfl) ?rp7 hF ?sp7
      case rp7 => (intro W hW; clear hW; go_simp; try with_reducible rfl)
      try simp only [Act.put, List.setIfInBounds_toArray, List.set_cons_zero, List.set_cons_succ]
      refine rg_one (i := 8) (oi := ?op8) ?ap8 ?bp8 ?cp8 ?dp8
      case ap8 => (simp only [List.getElem?_toArray, List.getElem?_cons_succ, List.getElem?_cons_zero]; rfl)
      case bp8 => kernel_rfl
      case cp8 => rfl
      intro K hK
      (refine wp_store_mid _ _ _ rfl (W.heap.size + 1) 0 E.toArray rfl HEV.out (HZ4.out.drew.there3 rfl HE3.out) HEI.out HEO.out ?_)
      refine rg_use hK (k8') (fun hF => ?_)
      clear hK K
      try simp only [Act.put]
      refine rg_one (i := 9) (oi := ?op9) ?ap9 ?bp9 ?cp9 ?dp9
      case ap9 => (simp only [List.getElem?_toArray, List.getElem?_cons_succ, List.getElem?_cons_zero]; rfl)
      case bp9 => kernel_rfl
      case cp9 => rfl
      intro K hK
      (refine wp_store_mid _ _ _ rfl (W.heap.size + 2) 0 C.toArray rfl rfl ((HZ5.out.drew.kp k8 HN5.out).thereC rfl HTC.out) HIC.out HOC.out ?_)
      refine rg_use hK (k9) (fun hF => ?_)
      clear hK K
      try simp only [Act.put]
      refine rg_take (i := 10) (v := ?vp10) (by simp only [List.getElem?_toArray, List.getElem?_cons_succ, List.getElem?_cons_zero]; rfl) (by kernel_rfl) (by exact fun _ _ _ h => h) (by rfl) ?rp10 hF ?sp10
      case rp10 => (intro W hW; clear hW; go_simp; try with_reducible rfl)
      try simp only [Act.put, List.setIfInBounds_toArray, List.set_cons_zero, List.set_cons_succ]
      refine rg_done (by kernel_rfl) ?_
      have HZ4f := Lib.hid (((HZ4.out.drew).put (C := E) (by rw [HE3.out.len]; rfl)).setsFar (show W.heap.size + 1 ≠ W.heap.size + 2 by omega) C 0)
      have HZ5f := Lib.hid (((HZ5.out.drew).kp k8 HN5.out).put (C := C) (by rw [HTC.out.len]; rfl))
      have HQF := Lib.hid (show Q (.returned (.tuple #[.agg E.toArray, .agg C.toArray, .bool ok])) (((wr.drew).setCells (W.heap.size + 1) 0 E).setCells (W.heap.size + 2) 0 C) by
        have hkk : Kp No W (((wr.drew).setCells (W.heap.size + 1) 0 E).setCells (W.heap.size + 2) 0 C) := (HK1.out.trans (HK14.out.trans HK.out)).then_ k9 fun i hi e => by rcases e with e | e <;> omega
        rw [HQ.out]
        refine ⟨.slice Ao (outL l s).length co, ?_, ?_, hkk⟩
        · rw [HEE.out, ← HVX.out]
        · exact own_argC (own_kp HO.out k9 fun g e q => by have := (HO.out.lt g e).1; rcases q with q | q <;> omega) rfl)
      clear k8 k8' kd k9
      go_wp2
      exact bodyPost_ret (res_cct (s := 4) (r := 5) (u := 6) rfl _ _ rfl rfl HZ4f.out.all_ HZ5f.out.all_ Tryz.underlying39 rfl HEL.out Tryz.underlying32 rfl HLC.out) rfl HQF.out
end Go.Proofs.YtkiaclldjofdoaaGreat

/- The document's Again by contract. No condition beyond what each theorem states. -/
namespace Go.Proofs.YtkiaclldjofdoaaGreat
open Go Go.RowKit Go.Maps Go.PlainAid

/-- the calls with one of them sent once more -/
def agL (l : List Cll) (s : Int) : List Cll := match getC l s with | some x => l.map (fun z => if z.seq = (againX x).seq then againX x else z) | none => l

set_option maxRecDepth 100000 in
set_option maxHeartbeats 4000000 in
theorem ragain_any (boot next : Int) (sv : Value) (l : List Cll) (s : Int) (W : World) (hv : ArgC W sv l) (hl : l.length ≤ 1000) :
    Calls Tryz.prog 15 #[.agg (rC boot next sv).toArray, .int .i64 s] W (RefR boot next (agL l s) (againV l s) (getC l s).isSome W) := by
  obtain ⟨Q, hQ⟩ : ∃ Q : Ending → World → Prop, Q = RefR boot next (agL l s) (againV l s) (getC l s).isSome W := ⟨_, rfl⟩
  rw [← hQ]
  have HQ := Lib.hid hQ; clear hQ
  obtain ⟨A, c, rfl, hcl⟩ := hv.len
  obtain ⟨w1, hw1⟩ : ∃ w1, w1 = ((W.alloc (.cells #[.int .i64 boot, .int .i64 next, .slice A l.length c] 39)).alloc (.cells #[.int .i64 0, .int .i64 0, .slice none 0 0] 39)).alloc (.cells #[.int .i64 0, .int .i64 0, .int .i64 0, .string ⟨#[]⟩, .int .i64 0, .int .i64 0, .int .i64 0, .bool false, .int .i64 0, .int .i64 0] 32) := ⟨_, rfl⟩
  have HK1 := Lib.hid (show Kp No W w1 by rw [hw1]; exact (((Kp.refl No W).alloc _).alloc _).alloc _)
  have HB1 := Lib.hid (show Bk w1 W.heap.size 39 [.int .i64 boot, .int .i64 next, .slice A l.length c] by rw [hw1]; exact ((Bk.new' rfl rfl).alloc _).alloc _)
  have HZ41 := Lib.hid (show Bk w1 (W.heap.size + 1) 39 [.int .i64 0, .int .i64 0, .slice none 0 0] by rw [hw1]; exact (Bk.new' (by simp) rfl).alloc _)
  have HZ51 := Lib.hid (show Bk w1 (W.heap.size + 2) 32 (cC {}) by rw [hw1]; exact Bk.new' (by simp) rfl)
  have HV := Lib.hid (hv.no HK1.out)
  have HW1 := Lib.hid hw1
  have HV0 := Lib.hid hv
  have pg := rget_any boot next (.slice A l.length c) l s w1 HV.out (by unfold maxLen; omega)
  have hl2 : l.length ≤ 9223372036854775807 := by omega
  have HL := Lib.hid hl
  clear hv hcl hw1 hl
  unfold rC at pg ⊢
  cases hg : getC l s with
  | none =>
    have e0 : atC l s = {} := by unfold atC; rw [hg]; rfl
    have e1 : againV l s = {} := by unfold againV; rw [hg]
    have e2 : agL l s = l := by unfold agL; rw [hg]
    have HGV := Lib.hid (show (getC l s).isSome = false by rw [hg]; rfl)
    rw [e0, hg] at pg
    rw [e1, e2, HGV.out] at HQ
    clear e0 e1 e2 hg
    obtain ⟨C, hC⟩ : ∃ C, C = cC {} := ⟨_, rfl⟩
    have HTC := Lib.hid (show Ten C by rw [hC]; exact Ten.of _)
    have HVX := Lib.hid (show vC {} = .agg C.toArray by rw [hC]; rfl)
    rw [HVX.out] at pg
    have HIC := Lib.hid HTC.out.info; have HOC := Lib.hid HTC.out.one; have HLC := Lib.hid HTC.out.infoL
    clear hC
    go_enter Tryz.func15, Tryz.ntmps15
    go_upto_region 1 with (fail)
    rw [← HW1.out]
    clear HW1
    have y0 : w1.cell? ⟨W.heap.size, 0, none⟩ = some (.int .i64 boot) := HB1.out.cell 0
    have y1 : w1.cell? ⟨W.heap.size, 1, none⟩ = some (.int .i64 next) := HB1.out.cell 1
    have y2 : w1.cell? ⟨W.heap.size, 2, none⟩ = some (.slice A l.length c) := HB1.out.cell 2
    go_wp2_with fail
    refine pg.mono ?_
    rintro e w3 ⟨rfl, k3⟩
    have HK3 := Lib.hid k3
    have hs3 : W.heap.size + 3 ≤ w3.heap.size := by have := HZ51.out.lt; have := k3.size; omega
    clear pg k3 y0 y1 y2
    have HT6 := Lib.hid (show (w3.alloc (.cells (cC {}).toArray 32)).there w3.heap.size 0 C.toArray.size from (Bk.new w3 _ _).thereC rfl HTC.out)
    have HB4 := Lib.hid (show Bk ((w3.alloc (.cells (cC {}).toArray 32)).setCells w3.heap.size 0 C) w3.heap.size 32 C from (Bk.new w3 _ (cC {})).put HTC.out.len)
    have HK4 := Lib.hid (show Kp No w3 ((w3.alloc (.cells (cC {}).toArray 32)).setCells w3.heap.size 0 C) from ((Kp.refl No w3).alloc _).sets C 0 (.inr (Nat.le_refl _)))
    have e0 : (cC {}).toArray = #[.int .i64 0, .int .i64 0, .int .i64 0, .string ⟨#[]⟩, .int .i64 0, .int .i64 0, .int .i64 0, .bool false, .int .i64 0, .int .i64 0] := rfl
    rw [e0] at HT6 HB4 HK4
    clear e0
    go_upto_region 2 with (with_reducible refine wpList_store_mid rfl _ _ _ rfl w3.heap.size 0 C.toArray rfl rfl HT6.out HIC.out HOC.out ?_)
    generalize World.setCells _ w3.heap.size 0 C = w4 at *
    have HK14 := Lib.hid (HK3.out.trans HK4.out)
    have hs4 : w3.heap.size < w4.heap.size := HB4.out.lt
    go_upto_region 3 with (fail)
    obtain ⟨wr, hwr⟩ : ∃ wr, wr = w4 := ⟨_, rfl⟩
    rw [← hwr]
    have HKr := Lib.hid (show Kp No w4 wr by rw [hwr]; exact Kp.refl _ _)
    clear hwr
    have HBR := Lib.hid (HB1.out.no (HK14.out.trans HKr.out))
    have HZ4 := Lib.hid (HZ41.out.no (HK14.out.trans HKr.out))
    have HZ5 := Lib.hid (HZ51.out.no (HK14.out.trans HKr.out))
    have HB5 := Lib.hid (HB4.out.no HKr.out)
    have HN0 := Lib.hid (show ¬ Two12 W.heap.size W.heap.size from fun e => by rcases e with e | e <;> omega)
    have HN7 := Lib.hid (show ¬ Two12 W.heap.size w3.heap.size from fun e => by rcases e with e | e <;> omega)
    have HN5 := Lib.hid (show ¬ One (W.heap.size + 1) (W.heap.size + 2) from fun e => by have e : W.heap.size + 2 = W.heap.size + 1 := e; omega)
    obtain ⟨E, hE⟩ : ∃ E, E = rC boot next (.slice A l.length c) := ⟨_, rfl⟩
    have HE3 := Lib.hid (show Thr E by rw [hE]; exact Thr.of _ _ _ _ _)
    have HEI := Lib.hid HE3.out.info; have HEO := Lib.hid HE3.out.one; have HEL := Lib.hid HE3.out.infoL
    have HEV := Lib.hid (show (.agg #[.int .i64 boot, .int .i64 next, .slice A l.length c] : Value) = .agg E.toArray by rw [hE]; rfl)
    have HEE := Lib.hid hE
    have HBE := Lib.hid (show Bk wr W.heap.size 39 E by rw [hE]; exact HBR.out)
    clear hE
    have k8 : Kp (One (W.heap.size + 1)) (wr.drew) ((wr.drew).setCells (W.heap.size + 1) 0 E) := (Kp.refl _ _).sets E 0 (.inl rfl)
    have kd : Kp (Two12 W.heap.size) wr wr.drew := (Kp.refl _ wr).drew
    have k8' : Kp (Two12 W.heap.size) wr ((wr.drew).setCells (W.heap.size + 1) 0 E) := kd.sets E 0 (.inl (.inl rfl))
    have k9 : Kp (Two12 W.heap.size) wr (((wr.drew).setCells (W.heap.size + 1) 0 E).setCells (W.heap.size + 2) 0 C) := k8'.sets C 0 (.inl (.inr rfl))
    have hF := kd
    refine rg_begin (fun W2 => Kp (Two12 W.heap.size) wr W2) 5 (by kernel_rfl) ?_
    refine rg_take (i := 0) (v := ?vp0) (by simp only [List.getElem?_toArray, List.getElem?_cons_zero]; rfl) (by kernel_rfl) (by exact fun _ _ _ h => h) (by rfl) ?rp0 hF ?sp0
    case rp0 => (intro W9 hW; refine exec_load_mid W9 39 (.tmp 2) ?_ W.heap.size 0 ?_ E _ ((HBE.out.kp hW HN0.out).all_) Tryz.underlying39 ?_ HEL.out; exact rfl; exact rfl; exact rfl)
    try simp only [Act.put, List.setIfInBounds_toArray, List.set_cons_zero, List.set_cons_succ]
    refine rg_take (i := 1) (v := ?vp1) (by simp only [List.getElem?_toArray, List.getElem?_cons_succ, List.getElem?_cons_zero]; rfl) (by kernel_rfl) (by exact fun _ _ _ h => h) (by rfl) ?rp1 hF ?sp1
    case rp1 => (intro W9 hW; refine exec_load_mid W9 32 (.tmp 7) ?_ w3.heap.size 0 ?_ C _ ((HB5.out.kp hW HN7.out).all_) Tryz.underlying32 ?_ HLC.out; exact rfl; exact rfl; exact rfl)
    try simp only [Act.put, List.setIfInBounds_toArray, List.set_cons_zero, List.set_cons_succ]
    refine rg_one (i := 2) (oi := ?op2) ?ap2 ?bp2 ?cp2 ?dp2
    case ap2 => (simp only [List.getElem?_toArray, List.getElem?_cons_succ, List.getElem?_cons_zero]; rfl)
    case bp2 => kernel_rfl
    case cp2 => rfl
    intro K hK
    (refine wp_store_mid _ _ _ rfl (W.heap.size + 1) 0 E.toArray rfl rfl (HZ4.out.drew.there3 rfl HE3.out) HEI.out HEO.out ?_)
    refine rg_use hK (k8') (fun hF => ?_)
    clear hK K
    try simp only [Act.put]
    refine rg_one (i := 3) (oi := ?op3) ?ap3 ?bp3 ?cp3 ?dp3
    case ap3 => (simp only [List.getElem?_toArray, List.getElem?_cons_succ, List.getElem?_cons_zero]; rfl)
    case bp3 => kernel_rfl
    case cp3 => rfl
    intro K hK
    (refine wp_store_mid _ _ _ rfl (W.heap.size + 2) 0 C.toArray rfl rfl ((HZ5.out.drew.kp k8 HN5.out).thereC rfl HTC.out) HIC.out HOC.out ?_)
    refine rg_use hK (k9) (fun hF => ?_)
    clear hK K
    try simp only [Act.put]
    refine rg_take (i := 4) (v := ?vp4) (by simp only [List.getElem?_toArray, List.getElem?_cons_succ, List.getElem?_cons_zero]; rfl) (by kernel_rfl) (by exact fun _ _ _ h => h) (by rfl) ?rp4 hF ?sp4
    case rp4 => (intro W hW; clear hW; go_simp; try with_reducible rfl)
    try simp only [Act.put, List.setIfInBounds_toArray, List.set_cons_zero, List.set_cons_succ]
    refine rg_done (by kernel_rfl) ?_
    have HZ4f := Lib.hid (((HZ4.out.drew).put (C := E) (by rw [HE3.out.len]; rfl)).setsFar (show W.heap.size + 1 ≠ W.heap.size + 2 by omega) C 0)
    have HZ5f := Lib.hid (((HZ5.out.drew).kp k8 HN5.out).put (C := C) (by rw [HTC.out.len]; rfl))
    have HQF := Lib.hid (show Q (.returned (.tuple #[.agg E.toArray, .agg C.toArray, .bool false])) (((wr.drew).setCells (W.heap.size + 1) 0 E).setCells (W.heap.size + 2) 0 C) by
      have hkk : Kp No W (((wr.drew).setCells (W.heap.size + 1) 0 E).setCells (W.heap.size + 2) 0 C) := (HK1.out.trans (HK14.out.trans HKr.out)).then_ k9 fun i hi e => by rcases e with e | e <;> omega
      rw [HQ.out]
      refine ⟨.slice A l.length c, ?_, ?_, hkk⟩
      · rw [HEE.out, ← HVX.out]
      · exact HV0.out.no hkk)
    clear k8 k8' kd k9
    go_wp2
    exact bodyPost_ret (res_cct (s := 4) (r := 5) (u := 6) rfl _ _ rfl rfl HZ4f.out.all_ HZ5f.out.all_ Tryz.underlying39 rfl HEL.out Tryz.underlying32 rfl HLC.out) rfl HQF.out
  | some x =>
    have e0 : atC l s = x := by unfold atC; rw [hg]; rfl
    have e1 : againV l s = againX x := by unfold againV; rw [hg]
    obtain ⟨_, hxs⟩ := getC_mem hg
    have e2 : agL l s = l.map (fun z => if z.seq = s then againX x else z) := by
      unfold agL; rw [hg]; show l.map (fun z => if z.seq = (againX x).seq then againX x else z) = _; rw [show (againX x).seq = s from hxs]
    have HGV := Lib.hid (show (getC l s).isSome = true by rw [hg]; rfl)
    rw [e0, hg] at pg
    rw [e1, e2, HGV.out] at HQ
    clear e0 e1 e2 hg
    obtain ⟨C, hC⟩ : ∃ C, C = cC x := ⟨_, rfl⟩
    have HTC := Lib.hid (show Ten C by rw [hC]; exact Ten.of _)
    have HVC := Lib.hid (show vC x = .agg C.toArray by rw [hC]; rfl)
    rw [HVC.out] at pg
    have HIC := Lib.hid HTC.out.info; have HOC := Lib.hid HTC.out.one
    obtain ⟨D, hD⟩ : ∃ D, D = cC (againX x) := ⟨_, rfl⟩
    have HTD := Lib.hid (show Ten D by rw [hD]; exact Ten.of _)
    have HVX := Lib.hid (show vC (againX x) = .agg D.toArray by rw [hD]; rfl)
    have HCD := Lib.hid (show C.set 9 (.int .i64 (wrap64 (x.tries + 1))) = D by rw [hC, hD]; rfl)
    have HC9 := Lib.hid (show C[9]? = some (.int .i64 x.tries) by rw [hC]; rfl)
    have HID := Lib.hid HTD.out.info; have HOD := Lib.hid HTD.out.one; have HLD := Lib.hid HTD.out.infoL
    generalize hy : againX x = y at *
    clear hy
    have HTX := Lib.hid (show Ten D by rw [hD]; exact Ten.of _)
    have HXCD := Lib.hid (show cL [y] = D by rw [hD]; simp [cL])
    have HILD := Lib.hid HTX.out.infoL; have HXLD := Lib.hid HTX.out.len
    have HXOD := Lib.hid (show ∀ u ∈ D, u.oneCell' = true from fun u hu => (Array.all_eq_true_iff_forall_mem.1 HTX.out.one) u (by simpa using hu))
    clear HTX
    clear hC hD
    generalize x.tries = t at *
    go_enter Tryz.func15, Tryz.ntmps15
    go_upto_region 1 with (fail)
    rw [← HW1.out]
    clear HW1
    have y0 : w1.cell? ⟨W.heap.size, 0, none⟩ = some (.int .i64 boot) := HB1.out.cell 0
    have y1 : w1.cell? ⟨W.heap.size, 1, none⟩ = some (.int .i64 next) := HB1.out.cell 1
    have y2 : w1.cell? ⟨W.heap.size, 2, none⟩ = some (.slice A l.length c) := HB1.out.cell 2
    go_wp2_with fail
    refine pg.mono ?_
    rintro e w3 ⟨rfl, k3⟩
    have HK3 := Lib.hid k3
    have hs3 : W.heap.size + 3 ≤ w3.heap.size := by have := HZ51.out.lt; have := k3.size; omega
    clear pg k3 y0 y1 y2
    have HT6 := Lib.hid (show (w3.alloc (.cells (cC {}).toArray 32)).there w3.heap.size 0 C.toArray.size from (Bk.new w3 _ _).thereC rfl HTC.out)
    have HB4 := Lib.hid (show Bk ((w3.alloc (.cells (cC {}).toArray 32)).setCells w3.heap.size 0 C) w3.heap.size 32 C from (Bk.new w3 _ (cC {})).put HTC.out.len)
    have HK4 := Lib.hid (show Kp No w3 ((w3.alloc (.cells (cC {}).toArray 32)).setCells w3.heap.size 0 C) from ((Kp.refl No w3).alloc _).sets C 0 (.inr (Nat.le_refl _)))
    have e0 : (cC {}).toArray = #[.int .i64 0, .int .i64 0, .int .i64 0, .string ⟨#[]⟩, .int .i64 0, .int .i64 0, .int .i64 0, .bool false, .int .i64 0, .int .i64 0] := rfl
    rw [e0] at HT6 HB4 HK4
    clear e0
    go_upto_region 2 with (with_reducible refine wpList_store_mid rfl _ _ _ rfl w3.heap.size 0 C.toArray rfl rfl HT6.out HIC.out HOC.out ?_)
    generalize World.setCells _ w3.heap.size 0 C = w4 at *
    have HK14 := Lib.hid (HK3.out.trans HK4.out)
    have hs4 : w3.heap.size < w4.heap.size := HB4.out.lt
    have x9 : w4.cell? ⟨w3.heap.size, 9, none⟩ = some (.int .i64 t) := (HB4.out.cell 9).trans HC9.out
    have f9 := HB4.out.frozen 9
    go_upto_region 5 with (fail)
    have HB6 := Lib.hid (show Bk (w4.setCell ⟨w3.heap.size, 9, none⟩ (.int .i64 (wrap64 (t + 1)))) w3.heap.size 32 D by rw [← HCD.out]; exact HB4.out.set_ 9 _)
    have HKY := Lib.hid (show Kp No w3 (w4.setCell ⟨w3.heap.size, 9, none⟩ (.int .i64 (wrap64 (t + 1)))) from HK4.out.set (.inr (Nat.le_refl _)) 9 _)
    clear HK14 HK4
    generalize World.setCell w4 _ (.int .i64 (wrap64 (t + 1))) = w6 at *
    have HK14 := Lib.hid (HK3.out.trans HKY.out)
    have hs6 : w3.heap.size < w6.heap.size := HB6.out.lt
    clear x9 f9 hs4
    go_wp2
    go_loopw [10, 9] (fun i o wr => ∃ j : Nat, j ≤ l.length ∧ i = .int .i64 j ∧ wr.ownsRow w6.heap.size 32 10 o ((l.take j).map (fun z => if z.seq = s then y else z)).length (cL ((l.take j).map (fun z => if z.seq = s then y else z))) ∧ Kp No w6 wr) (fun i _ _ => l.length - (Go.RowKit.intOf i).toNat)
    case atStart => exact ⟨0, Nat.zero_le _, rfl, nil_own _ _ _ _, Kp.refl _ _⟩
    case round =>
      obtain ⟨j, hj, rfl, ho, hk⟩ := hrel
      have HO := Lib.hid ho; have HK := Lib.hid hk
      clear ho hk
      have y2 : wr.cell? ⟨W.heap.size, 2, none⟩ = some (.slice A l.length c) := (HB1.out.no (HK14.out.trans HK.out)).cell 2
      by_cases hlt : j < l.length
      · have hk0 : (0 : Int) ≤ (j : Int) := by omega
        have hk1 : (j : Int) < (l.length : Int) := by omega
        obtain ⟨g, o, hA, hgl, hr⟩ := (HV.out.no (HK14.out.trans HK.out)).at_ hlt
        subst hA
        have HRX := Lib.hid hr
        have HS := Lib.hid (show (l.take (j + 1)).map (fun z => if z.seq = s then y else z) = (l.take j).map (fun z => if z.seq = s then y else z) ++ [if l[j].seq = s then y else l[j]] by rw [List.take_succ_eq_append_getElem hlt, List.map_append]; rfl)
        have HLM := Lib.hid (show ((l.take j).map (fun z => if z.seq = s then y else z)).length ≤ j by rw [List.length_map, List.length_take]; omega)
        obtain ⟨x2, hx⟩ : ∃ x2, x2 = l[j] := ⟨_, rfl⟩
        have x0 := hr 0 _ rfl
        simp only [Nat.add_zero] at x0
        rw [← hx] at x0 HRX HS
        clear hlt hr hgl hx
        obtain ⟨m, hm⟩ : ∃ m, m = (l.take j).map (fun z => if z.seq = s then y else z) := ⟨_, rfl⟩
        rw [← hm] at HO HS HLM
        clear hm
        have HRD := Lib.hid ((HB6.out.no HK.out).all_)
        by_cases hid : x2.seq = s
        · rw [if_pos hid] at HS
          have hid2 : (x2.seq == s) = true := by rw [beq_iff_eq]; exact hid
          obtain ⟨Ao, co, hao, _⟩ := own_len HO.out
          subst hao
          have hsz : w6.heap.size ≤ wr.heap.size := HK.out.size
          have hmb : m.length + 1 ≤ 1001 := by have := HLM.out; have := HL.out; omega
          go_wp2_with (first
            | (with_reducible refine wpList_load_mid rfl _ _ rfl w3.heap.size 0 rfl D _ HRD.out Tryz.underlying32 rfl HILD.out ?_)
            | (with_reducible refine wpList_build1 rfl 37 _ rfl 32 _ 10 88 Tryz.underlying37 infoCl (by omega) (by omega) (.agg D.toArray) rfl D rfl HXLD.out ?_)
            | (at_builtin; go_must (refine wpList_app1 _ rfl _ _ 37 rfl w6.heap.size 32 _ 10 88 Tryz.underlying37 infoCl rfl (by omega) _ m.length (cL m) rfl (HO.out.alloc _) _ _ D rfl (Bk.new' rfl rfl) HXLD.out HXOD.out (by omega) (by omega) (by simp; omega) ?_); intro g5 c5 w5 hown5 hk5 hat5))
          have HO5 := Lib.hid hown5; have HK5 := Lib.hid hk5
          clear hown5 hk5 hat5
          go_roundw
          case rel =>
            refine ⟨j + 1, by omega, by go_num, ?_, (HK.out.alloc _).then_ HK5.out fun i hi e => by have := (HO.out.lt i e).1; omega⟩
            rw [HS.out, cL_append, List.length_append, HXCD.out]
            exact HO5.out
          case measure => simp [Go.RowKit.intOf]; omega
        · rw [if_neg hid] at HS
          have hid2 : (x2.seq == s) = false := by rw [beq_eq_false_iff_ne]; exact hid
          obtain ⟨X, hX⟩ : ∃ X, X = cC x2 := ⟨_, rfl⟩
          rw [← hX] at HRX
          have HTX := Lib.hid (show Ten X by rw [hX]; exact Ten.of _)
          have HXCX := Lib.hid (show cL [x2] = X by rw [hX]; simp [cL])
          have HILX := Lib.hid HTX.out.infoL; have HXLX := Lib.hid HTX.out.len
          have HXOX := Lib.hid (show ∀ u ∈ X, u.oneCell' = true from fun u hu => (Array.all_eq_true_iff_forall_mem.1 HTX.out.one) u (by simpa using hu))
          clear HTX
          clear hX
          obtain ⟨Ao, co, hao, _⟩ := own_len HO.out
          subst hao
          have hsz : w6.heap.size ≤ wr.heap.size := HK.out.size
          have hmb : m.length + 1 ≤ 1001 := by have := HLM.out; have := HL.out; omega
          go_wp2_with (first
            | (with_reducible refine wpList_load_mid rfl _ _ rfl g (o + j * 10) rfl X _ HRX.out Tryz.underlying32 rfl HILX.out ?_)
            | (with_reducible refine wpList_build1 rfl 37 _ rfl 32 _ 10 88 Tryz.underlying37 infoCl (by omega) (by omega) (.agg X.toArray) rfl X rfl HXLX.out ?_)
            | (at_builtin; go_must (refine wpList_app1 _ rfl _ _ 37 rfl w6.heap.size 32 _ 10 88 Tryz.underlying37 infoCl rfl (by omega) _ m.length (cL m) rfl (HO.out.alloc _) _ _ X rfl (Bk.new' rfl rfl) HXLX.out HXOX.out (by omega) (by omega) (by simp; omega) ?_); intro g5 c5 w5 hown5 hk5 hat5))
          have HO5 := Lib.hid hown5; have HK5 := Lib.hid hk5
          clear hown5 hk5 hat5
          go_roundw
          case rel =>
            refine ⟨j + 1, by omega, by go_num, ?_, (HK.out.alloc _).then_ HK5.out fun i hi e => by have := (HO.out.lt i e).1; omega⟩
            rw [HS.out, cL_append, List.length_append, HXCX.out]
            exact HO5.out
          case measure => simp [Go.RowKit.intOf]; omega
      · have hk1 : ¬ (j : Int) < (l.length : Int) := by omega
        have hjl : j = l.length := by omega
        rw [hjl, List.take_length] at HO
        clear hlt
        obtain ⟨M, hM⟩ : ∃ M, M = l.map (fun z => if z.seq = s then y else z) := ⟨_, rfl⟩
        rw [← hM] at HO HQ
        clear hM
        go_upto_region 12 with (fail)
        have HBR := Lib.hid (HB1.out.no (HK14.out.trans HK.out))
        have HZ4 := Lib.hid (HZ41.out.no (HK14.out.trans HK.out))
        have HZ5 := Lib.hid (HZ51.out.no (HK14.out.trans HK.out))
        have HB5 := Lib.hid (HB6.out.no HK.out)
        have HN0 := Lib.hid (show ¬ Two12 W.heap.size W.heap.size from fun e => by rcases e with e | e <;> omega)
        have HN7 := Lib.hid (show ¬ Two12 W.heap.size w3.heap.size from fun e => by rcases e with e | e <;> omega)
        have HN5 := Lib.hid (show ¬ One (W.heap.size + 1) (W.heap.size + 2) from fun e => by have e : W.heap.size + 2 = W.heap.size + 1 := e; omega)
        obtain ⟨Ao, co, hao, _⟩ := own_len HO.out
        subst hao
        obtain ⟨E, hE⟩ : ∃ E, E = rC boot next (.slice Ao M.length co) := ⟨_, rfl⟩
        have HE3 := Lib.hid (show Thr E by rw [hE]; exact Thr.of _ _ _ _ _)
        have HEI := Lib.hid HE3.out.info; have HEO := Lib.hid HE3.out.one; have HEL := Lib.hid HE3.out.infoL
        have HEV := Lib.hid (show (.agg #[.int .i64 boot, .int .i64 next, .slice Ao M.length co] : Value) = .agg E.toArray by rw [hE]; rfl)
        have HEE := Lib.hid hE
        clear hE
        have k8 : Kp (One (W.heap.size + 1)) (wr.drew) ((wr.drew).setCells (W.heap.size + 1) 0 E) := (Kp.refl _ _).sets E 0 (.inl rfl)
        have kd : Kp (Two12 W.heap.size) wr wr.drew := (Kp.refl _ wr).drew
        have k8' : Kp (Two12 W.heap.size) wr ((wr.drew).setCells (W.heap.size + 1) 0 E) := kd.sets E 0 (.inl (.inl rfl))
        have k9 : Kp (Two12 W.heap.size) wr (((wr.drew).setCells (W.heap.size + 1) 0 E).setCells (W.heap.size + 2) 0 D) := k8'.sets D 0 (.inl (.inr rfl))
        have hF := kd
        refine rg_begin (fun W2 => Kp (Two12 W.heap.size) wr W2) 10 (by kernel_rfl) ?_
        refine rg_take (i := 0) (v := ?vq0) (by simp only [List.getElem?_toArray, List.getElem?_cons_zero]; rfl) (by kernel_rfl) (by exact fun _ _ _ h => h) (by rfl) ?rq0 hF ?sq0
        case rq0 => (intro W hW; clear hW; go_simp; try with_reducible rfl)
        try simp only [Act.put, List.setIfInBounds_toArray, List.set_cons_zero, List.set_cons_succ]
        refine rg_take (i := 1) (v := ?vq1) (by simp only [List.getElem?_toArray, List.getElem?_cons_succ, List.getElem?_cons_zero]; rfl) (by kernel_rfl) (by exact fun _ _ _ h => h) (by rfl) ?rq1 hF ?sq1
        case rq1 => (intro W9 hW; have z : W9.cell? ⟨W.heap.size, 0, none⟩ = some (.int .i64 boot) := (HBR.out.kp hW HN0.out).cell 0; clear hW; go_simp; try with_reducible rfl)
        try simp only [Act.put, List.setIfInBounds_toArray, List.set_cons_zero, List.set_cons_succ]
        refine rg_take (i := 2) (v := ?vq2) (by simp only [List.getElem?_toArray, List.getElem?_cons_succ, List.getElem?_cons_zero]; rfl) (by kernel_rfl) (by exact fun _ _ _ h => h) (by rfl) ?rq2 hF ?sq2
        case rq2 => (intro W hW; clear hW; go_simp; try with_reducible rfl)
        try simp only [Act.put, List.setIfInBounds_toArray, List.set_cons_zero, List.set_cons_succ]
        refine rg_take (i := 3) (v := ?vq3) (by simp only [List.getElem?_toArray, List.getElem?_cons_succ, List.getElem?_cons_zero]; rfl) (by kernel_rfl) (by exact fun _ _ _ h => h) (by rfl) ?rq3 hF ?sq3
        case rq3 => (intro W9 hW; have z : W9.cell? ⟨W.heap.size, 1, none⟩ = some (.int .i64 next) := (HBR.out.kp hW HN0.out).cell 1; clear hW; go_simp; try with_reducible rfl)
        try simp only [Act.put, List.setIfInBounds_toArray, List.set_cons_zero, List.set_cons_succ]
        refine rg_take (i := 4) (v := ?vq4) (by simp only [List.getElem?_toArray, List.getElem?_cons_succ, List.getElem?_cons_zero]; rfl) (by kernel_rfl) (by exact fun _ _ _ h => h) (by rfl) ?rq4 hF ?sq4
        case rq4 => (intro W hW; clear hW; go_simp; try with_reducible rfl)
        try simp only [Act.put, List.setIfInBounds_toArray, List.set_cons_zero, List.set_cons_succ]
        refine rg_take (i := 5) (v := ?vq5) (by simp only [List.getElem?_toArray, List.getElem?_cons_succ, List.getElem?_cons_zero]; rfl) (by kernel_rfl) (by exact fun _ _ _ h => h) (by rfl) ?rq5 hF ?sq5
        case rq5 => (intro W hW; clear hW; go_simp; try with_reducible rfl)
        try simp only [Act.put, List.setIfInBounds_toArray, List.set_cons_zero, List.set_cons_succ]
        refine rg_take (i := 6) (v := ?vq6) (by simp only [List.getElem?_toArray, List.getElem?_cons_succ, List.getElem?_cons_zero]; rfl) (by kernel_rfl) (by exact fun _ _ _ h => h) (by rfl) ?rq6 hF ?sq6
        case rq6 => (intro W9 hW; refine exec_load_mid W9 32 (.tmp 7) ?_ w3.heap.size 0 ?_ D _ ((HB5.out.kp hW HN7.out).all_) Tryz.underlying32 ?_ HLD.out; exact rfl; exact rfl; exact rfl)
        try simp only [Act.put, List.setIfInBounds_toArray, List.set_cons_zero, List.set_cons_succ]
        refine rg_one (i := 7) (oi := ?oq7) ?aq7 ?bq7 ?cq7 ?dq7
        case aq7 => (simp only [List.getElem?_toArray, List.getElem?_cons_succ, List.getElem?_cons_zero]; rfl)
        case bq7 => kernel_rfl
        case cq7 => rfl
        intro K hK
        (refine wp_store_mid _ _ _ rfl (W.heap.size + 1) 0 E.toArray rfl HEV.out (HZ4.out.drew.there3 rfl HE3.out) HEI.out HEO.out ?_)
        refine rg_use hK (k8') (fun hF => ?_)
        clear hK K
        try simp only [Act.put]
        refine rg_one (i := 8) (oi := ?oq8) ?aq8 ?bq8 ?cq8 ?dq8
        case aq8 => (simp only [List.getElem?_toArray, List.getElem?_cons_succ, List.getElem?_cons_zero]; rfl)
        case bq8 => kernel_rfl
        case cq8 => rfl
        intro K hK
        (refine wp_store_mid _ _ _ rfl (W.heap.size + 2) 0 D.toArray rfl rfl ((HZ5.out.drew.kp k8 HN5.out).thereC rfl HTD.out) HID.out HOD.out ?_)
        refine rg_use hK (k9) (fun hF => ?_)
        clear hK K
        try simp only [Act.put]
        refine rg_take (i := 9) (v := ?vq9) (by simp only [List.getElem?_toArray, List.getElem?_cons_succ, List.getElem?_cons_zero]; rfl) (by kernel_rfl) (by exact fun _ _ _ h => h) (by rfl) ?rq9 hF ?sq9
        case rq9 => (intro W hW; clear hW; go_simp; try with_reducible rfl)
        try simp only [Act.put, List.setIfInBounds_toArray, List.set_cons_zero, List.set_cons_succ]
        refine rg_done (by kernel_rfl) ?_
        have HZ4f := Lib.hid (((HZ4.out.drew).put (C := E) (by rw [HE3.out.len]; rfl)).setsFar (show W.heap.size + 1 ≠ W.heap.size + 2 by omega) D 0)
        have HZ5f := Lib.hid (((HZ5.out.drew).kp k8 HN5.out).put (C := D) (by rw [HTD.out.len]; rfl))
        have HQF := Lib.hid (show Q (.returned (.tuple #[.agg E.toArray, .agg D.toArray, .bool true])) (((wr.drew).setCells (W.heap.size + 1) 0 E).setCells (W.heap.size + 2) 0 D) by
          have hkk : Kp No W (((wr.drew).setCells (W.heap.size + 1) 0 E).setCells (W.heap.size + 2) 0 D) := (HK1.out.trans (HK14.out.trans HK.out)).then_ k9 fun i hi e => by rcases e with e | e <;> omega
          rw [HQ.out]
          refine ⟨.slice Ao M.length co, ?_, ?_, hkk⟩
          · rw [HEE.out, ← HVX.out]
          · exact own_argC (own_kp HO.out k9 fun g e q => by have := (HO.out.lt g e).1; rcases q with q | q <;> omega) rfl)
        clear k8 k8' kd k9
        go_wp2
        exact bodyPost_ret (res_cct (s := 4) (r := 5) (u := 6) rfl _ _ rfl rfl HZ4f.out.all_ HZ5f.out.all_ Tryz.underlying39 rfl HEL.out Tryz.underlying32 rfl HLD.out) rfl HQF.out
end Go.Proofs.YtkiaclldjofdoaaGreat
