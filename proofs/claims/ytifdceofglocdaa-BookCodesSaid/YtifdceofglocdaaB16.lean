/- Several texts of this claim in one. No condition beyond what each theorem states. -/
import Derived.Test.YtifdceofglocdaaB01
import Derived.OrdersHeld
import Derived.RegionTactic
import Derived.Test.YtifdceofglocdaaB13
import Derived.StillTailTactics
import Derived.Deep.RegionHeld3
import Derived.BigQuiet
/- A region that draws its order, whose last operation comes behind all others: loads of cells that stand till then may be taken first. -/
namespace Go.Proofs.Ytifdceofglocdaa
open Go.RowKit
section
variable {P : Program} {ops : Array Oper} {Q : Exit → Act → World → Prop} {md : Region.Mode} {F : World → Prop} {d : Nat}

/-- whatever order is picked, and F holds behind every operation but number d -/
def wpAnyD (P : Program) (md : Region.Mode) (ops : Array Oper) (Q : Exit → Act → World → Prop) (F : World → Prop) (d : Nat) : Nat → Array Bool → Act → World → Prop
  | 0, listed, a, w => Region.ready md ops listed = [] ∧ Q .normal a w
  | fuel + 1, listed, a, w =>
    (Region.ready md ops listed = [] → Q .normal a w) ∧
    ∀ i ∈ Region.ready md ops listed, wpOp P ops Q i (fun a' w' => (i ≠ d → F w') ∧ wpAnyD P md ops Q F d fuel (listed.setIfInBounds i true) a' w') a w

theorem wpAny_of_D : ∀ (fuel : Nat) (listed : Array Bool) (a : Act) (w : World), wpAnyD P md ops Q F d fuel listed a w → wpAny P md ops Q fuel listed a w
  | 0, _, _, _, h => h
  | fuel + 1, _, _, _, h => ⟨h.1, fun i hi => wpOp_mono (fun a' w' h' => wpAny_of_D fuel _ a' w' h'.2) (h.2 i hi)⟩

theorem wpAnyD_first {i : Nat} {oi : Oper} {v : Value} (hi : ops[i]? = some oi) (hsel : ∀ (j : Nat) (o : Oper) cs b, ops[j]? = some o → o.op ≠ .select cs b)
    (hQ : ∀ c a w, Q (.panic c) (a.put oi.dst v) w → Q (.panic c) a w)
    (hd : ∀ listed : Array Bool, d ∈ Region.ready md ops listed → listed.getD i true = true) :
    ∀ (fuel : Nat) (listed : Array Bool) (a : Act) (w : World),
      (∀ j oj, ops[j]? = some oj → j ≠ i → listed.getD j true = false → (∀ e ∈ oj.after, Region.binds md e = true → e.on ≠ i) → oi.apart ops oj = true) →
      i ∈ Region.ready md ops listed → YieldsIf P ops F oi v a → F w →
      wpAnyD P md ops Q F d fuel (listed.setIfInBounds i true) (a.put oi.dst v) w → wpAnyD P md ops Q F d (fuel + 1) listed a w := by
  intro fuel
  induction fuel with
  | zero =>
    intro listed a w _ hr hy hS H
    refine ⟨fun h => (by rw [h] at hr; cases hr), fun j hj => ?_⟩
    by_cases hji : j = i
    · subst hji; exact hy.wpOp hi hS ⟨fun _ => hS, H⟩
    · have := ready_mono hj hji
      rw [H.1] at this
      cases this
  | succ fuel ih =>
    intro listed a w hfree hr hy hS H
    refine ⟨fun h => (by rw [h] at hr; cases hr), fun j hj => ?_⟩
    by_cases hji : j = i
    · subst hji; exact hy.wpOp hi hS ⟨fun _ => hS, H⟩
    · have h1 := H.2 j (ready_mono hj hji)
      obtain ⟨hjun, oj, hoj, hall⟩ := mem_ready.1 hj
      have hiun : listed.getD i true = false := (mem_ready.1 hr).1
      have hjd : j ≠ d := fun e => by
        subst e
        have := hd listed hj
        rw [this] at hiun; cases hiun
      have hnot : ∀ e ∈ oj.after, Region.binds md e = true → e.on ≠ i := fun e he hb heq => by
        have h0 := hall e he hb
        rw [heq] at h0
        have h1 := hiun
        simp only [Array.getD_eq_getD_getElem?] at h0 h1
        rcases Nat.lt_or_ge i listed.size with h' | h'
        · simp [h'] at h0 h1; rw [h0] at h1; cases h1
        · simp [Array.getElem?_eq_none h'] at h1
      have h2 := wpOp_putIf hoj (hfree j oj hoj hji hjun hnot) (fun cs b => hsel i oi cs b hi) (fun cs b => hsel j oj cs b hoj) hQ hy h1
      have hfree' : ∀ k ok, ops[k]? = some ok → k ≠ i → (listed.setIfInBounds j true).getD k true = false →
          (∀ e ∈ ok.after, Region.binds md e = true → e.on ≠ i) → oi.apart ops ok = true := fun k ok hk hki hun hno => by
        refine hfree k ok hk hki ?_ hno
        by_cases hjk : j = k
        · subst hjk; exact hjun
        · rw [getD_set_ne true hjk] at hun; exact hun
      refine wpOp_mono (fun a' w' h3 => ⟨h3.2.1, ih (listed.setIfInBounds j true) a' w' hfree' (ready_mono hr (Ne.symm hji)) h3.1 (h3.2.1 hjd) ?_⟩) h2
      rw [Array.setIfInBounds_comm _ _ hji]
      exact h3.2.2

/-- does number d wait for number i? -/
def waits (md : Region.Mode) (ops : Array Oper) (d i : Nat) : Bool :=
  match ops[d]? with
  | none => true
  | some o => o.after.any fun e => Region.binds md e && e.on == i
theorem waits_spec {i : Nat} (h : waits md ops d i = true) (_hi : i < ops.size) (listed : Array Bool) (hr : d ∈ Region.ready md ops listed) : listed.getD i true = true := by
  obtain ⟨_, o, ho, hall⟩ := mem_ready.1 hr
  unfold waits at h
  rw [ho] at h
  obtain ⟨n, hn, he⟩ := Array.any_eq_true.1 h
  simp only [Bool.and_eq_true, beq_iff_eq] at he
  have := hall _ (Array.getElem_mem hn) he.1
  rw [he.2] at this
  simp only [Array.getD_eq_getD_getElem?] at this ⊢
  cases hx : listed[i]? with
  | none => rfl
  | some b => rw [hx] at this; exact this

/-- begin: F holds, and a draw does not touch it -/
theorem rg_begin {id : Nat} {a : Act} {w : World} (F : World → Prop) (d : Nat) (hm : P.follows .mixedOrders = true) (h : wpAnyD P .any ops Q F d ops.size (Array.replicate ops.size false) a w.drew) : (Code.region id ops true).wp P Q a w :=
  wp_region_any hm (wpAny_of_D _ _ _ _ h)
/-- take number i first -/
theorem rg_take {i : Nat} {oi : Oper} {v : Value} {fuel : Nat} {listed : Array Bool} {a : Act} {w : World} (hi : ops[i]? = some oi)
    (hs : (Region.noSelect ops && Region.free md ops listed i && (Region.ready md ops listed).contains i && waits md ops d i) = true)
    (hQ : ∀ c a w, Q (.panic c) (a.put oi.dst v) w → Q (.panic c) a w) (hy : Region.wanted oi (yielded ops a.tmps) = true) (hv : ∀ w, F w → (execOp a.eval oi).run P w = .ok (.value v) w) (hS : F w)
    (h : wpAnyD P md ops Q F d fuel (listed.setIfInBounds i true) (a.put oi.dst v) w) : wpAnyD P md ops Q F d (fuel + 1) listed a w := by
  simp only [Bool.and_eq_true] at hs
  obtain ⟨⟨⟨h1, h2⟩, h3⟩, h4⟩ := hs
  exact wpAnyD_first hi (Region.noSelect_spec h1) hQ (waits_spec h4 (Array.getElem?_eq_some_iff.1 hi).1) fuel listed a w (Region.free_spec hi h2) (by simpa using h3) (.inl ⟨hy, hv⟩) hS h
/-- a guarded operation that is passed over -/
theorem rg_pass {i : Nat} {oi : Oper} {fuel : Nat} {listed : Array Bool} {a : Act} {w : World} (hi : ops[i]? = some oi)
    (hs : (Region.noSelect ops && Region.free md ops listed i && (Region.ready md ops listed).contains i && waits md ops d i) = true)
    (hQ : ∀ c a w, Q (.panic c) (a.put oi.dst undef) w → Q (.panic c) a w) (hy : Region.wanted oi (yielded ops a.tmps) = false) (hS : F w)
    (h : wpAnyD P md ops Q F d fuel (listed.setIfInBounds i true) (a.put oi.dst undef) w) : wpAnyD P md ops Q F d (fuel + 1) listed a w := by
  simp only [Bool.and_eq_true] at hs
  obtain ⟨⟨⟨h1, h2⟩, h3⟩, h4⟩ := hs
  exact wpAnyD_first hi (Region.noSelect_spec h1) hQ (waits_spec h4 (Array.getElem?_eq_some_iff.1 hi).1) fuel listed a w (Region.free_spec hi h2) (by simpa using h3) (.inr ⟨hy, rfl⟩) hS h
/-- the one that may come up -/
theorem rg_one {i : Nat} {oi : Oper} {fuel : Nat} {listed : Array Bool} {a : Act} {w : World} (hi : ops[i]? = some oi) (hr : (Region.ready md ops listed == [i]) = true) (hy : Region.wanted oi (yielded ops a.tmps) = true)
    (h : ∀ K : Act → World → Prop, (∀ a w, (i ≠ d → F w) → wpAnyD P md ops Q F d fuel (listed.setIfInBounds i true) a w → K a w) → Oper.wp P oi a w K Q) : wpAnyD P md ops Q F d (fuel + 1) listed a w := by
  have hr' : Region.ready md ops listed = [i] := by simpa using hr
  refine ⟨fun h0 => (by rw [hr'] at h0; cases h0), fun j hj => ?_⟩
  rw [hr'] at hj
  obtain rfl : j = i := by simpa using hj
  unfold wpOp
  simp only [hi, hy, if_true]
  exact .inl (h _ fun a w h1 h2 => ⟨h1, h2⟩)
theorem rg_use {i d : Nat} {F : World → Prop} {X K : Act → World → Prop} {a : Act} {w : World} (hK : ∀ a w, (i ≠ d → F w) → X a w → K a w) (hF : F w) (h : F w → X a w) : K a w := hK a w (fun _ => hF) (h hF)
/-- all have come up -/
theorem rg_done {listed : Array Bool} {a : Act} {w : World} {fuel : Nat} (hr : (Region.ready md ops listed).isEmpty = true) (h : Q .normal a w) : wpAnyD P md ops Q F d fuel listed a w := by
  have hr' : Region.ready md ops listed = [] := by simpa using hr
  cases fuel with
  | zero => exact ⟨hr', h⟩
  | succ n => exact ⟨fun _ => h, by rw [hr']; simp⟩
end
end Go.Proofs.Ytifdceofglocdaa

/- What a record does to a book of its own: book.change by contract (kind 1). No condition beyond what each theorem states. -/
namespace Go.Proofs.Ytifdceofglocdaa
open Go Go.RowKit Go.PlainAid

set_option maxRecDepth 100000 in
set_option maxHeartbeats 8000000 in
theorem change_1 (B g : Nat) (n k t : Int) (sv : Value) (l : List GP) (r : Rcd) (gv rv : Value) (W : World) (h : ChgH B g n k t sv l W) (hgv : ∀ W2, Kp (From B) W W2 → ArgInts W2 gv r.grant.stamp) (hrv : ∀ W2, Kp (From B) W W2 → ArgInts W2 rv r.stamp) (hr : mayR r) (hlim : limitB (bk n k t l) r.kind = 0) (hk : r.kind = 1) :
    Calls Try.prog 35 #[.pointer (some ⟨g, 0, none⟩), .agg (rC r gv rv).toArray] W (ChgR B g (bk n k t l) r W) := by
  obtain ⟨kind, ⟨gid, hol, path, mode, st, term⟩, id, stamp, next, boots, longest⟩ := r
  obtain rfl : kind = 1 := hk
  obtain ⟨A, c, rfl, _⟩ : ∃ A c, gv = .slice A st.length c ∧ st.length ≤ c := by obtain ⟨A, c, e, hc, _⟩ := hgv W (Kp.refl _ _); exact ⟨A, c, e, hc⟩
  obtain ⟨A2, c2, rfl, _⟩ : ∃ A c, rv = .slice A stamp.length c ∧ stamp.length ≤ c := by obtain ⟨A, c, e, hc, _⟩ := hrv W (Kp.refl _ _); exact ⟨A, c, e, hc⟩
  obtain ⟨A3, c3, rfl, _⟩ := own_len h.own.1
  replace hgv : ∀ W2, Kp (From B) W W2 → ArgInts W2 (.slice A st.length c) st := hgv
  replace hrv : ∀ W2, Kp (From B) W W2 → ArgInts W2 (.slice A2 stamp.length c2) stamp := hrv
  have HGV := Lib.hid hgv; have HRV := Lib.hid hrv; have HRR := Lib.hid hr; have HLIM := Lib.hid (show limitB (bk n k t l) 1 = 0 from hlim); have HH := Lib.hid h; have HSH := Lib.hid (show ∀ p ∈ l, ShG maxLen p.1 from h.sh)
  obtain ⟨Q, hQ⟩ : ∃ Q : Ending → World → Prop, Q = ChgR B g (bk n k t l) ⟨1, ⟨gid, hol, path, mode, st, term⟩, id, stamp, next, boots, longest⟩ W := ⟨_, rfl⟩
  rw [← hQ]
  have HQ := Lib.hid hQ
  obtain ⟨w1, hw1⟩ : ∃ w1, w1 = W.alloc (.cells #[.int .i64 1, .int .i64 gid, .int .i64 hol, .string ⟨path.toArray⟩, .int .i64 mode, .slice A st.length c, .int .i64 term, .int .i64 id, .slice A2 stamp.length c2, .int .i64 next, .int .i64 boots, .int .i64 longest] 32) := ⟨_, rfl⟩
  have HR1 := Lib.hid (show Bk w1 W.heap.size 32 [.int .i64 1, .int .i64 gid, .int .i64 hol, .string ⟨path.toArray⟩, .int .i64 mode, .slice A st.length c, .int .i64 term, .int .i64 id, .slice A2 stamp.length c2, .int .i64 next, .int .i64 boots, .int .i64 longest] by rw [hw1]; exact Bk.new' rfl rfl)
  have HK1 := Lib.hid (show Kp No W w1 by rw [hw1]; exact (Kp.refl No W).alloc _)
  have HB1 := Lib.hid (h.bk.no HK1.out)
  have pa := fun W2 (kk : Kp No w1 W2) => (at_any (.slice A3 l.length c3) l id W2 ((h.own.no (HK1.out.trans kk)).arg) (Nat.le_trans h.len (by omega)) h.sorted).mono fun e w' ⟨i, h1, h2, h3⟩ => (⟨i, h1, h2, kk.trans h3⟩ : ∃ i : Nat, e = Ending.returned (.tuple #[.int .i64 i, .bool (hasG (gsL l) id)]) ∧ AtG (gsL l) id i ∧ Kp No w1 w')
  have sk : ∀ W2, Kp No w1 W2 → W2.cell? ⟨g, 3, none⟩ = some (.slice A3 l.length c3) ∧ W2.cell? ⟨W.heap.size, 7, none⟩ = some (.int .i64 id) := fun W2 kk => ⟨(HB1.out.no kk).cell 3, (HR1.out.no kk).cell 7⟩
  have HW := Lib.hid hw1
  obtain ⟨th, hth⟩ : ∃ th, th = hasG (gsL l) id := ⟨_, rfl⟩
  rw [← hth] at pa
  have HTH := Lib.hid hth
  clear hth hgv hrv hr hlim h hQ hw1
  simp only [rC]
  go_enter Try.func35, Try.ntmps35
  go_upto_region 1 with (fail)
  rw [← HW.out]
  clear HW
  first | (go_region_held3 (fun W2 => W2.cell? ⟨g, 3, none⟩ = some (.slice A3 l.length c3) ∧ W2.cell? ⟨W.heap.size, 7, none⟩ = some (.int .i64 id)) (first | (go_keep; done) | exact sk _ (by with_reducible repeat (first | assumption | exact Kp.refl _ _ | refine Kp.drew ?_ | refine Kp.drewN ?_ _)))
    (first | (go_at_call 71; (with_reducible refine (pa _ (by with_reducible repeat (first | assumption | exact Kp.refl _ _ | refine Kp.drew ?_ | refine Kp.drewN ?_ _))).mono ?_); rintro e w6 ⟨i, rfl, hat, k6⟩))) | fail
  all_goals
    have HAT := Lib.hid hat; have HK6 := Lib.hid k6
    have HB6 := Lib.hid (HB1.out.no k6); have HR6 := Lib.hid (HR1.out.no k6)
    clear hat k6 pa sk HB1 HR1
    have z0 : w6.cell? ⟨W.heap.size, 0, none⟩ = some (.int .i64 1) := HR6.out.cell 0
    have ho := Lib.hid (HH.out.own.no (HK1.out.trans HK6.out))
    have pnw := fun W2 (kk : Kp No w6 W2) => (new_any W2).mono fun e w' ⟨h1, h3⟩ => (⟨h1, kk.trans h3⟩ : e = Ending.returned (.agg #[.int .i64 1, .int .i64 0, .int .i64 0, .slice none 0 0]) ∧ Kp No w6 w')
    have psm := fun W2 (kk : Kp No w6 W2) => (sameB_any n k t 1 0 0 (.slice A3 l.length c3) (.slice none 0 0) l [] W2 ((ho.out.no kk).arg) (ArgG.nil _ _ _) ⟨Nat.le_trans HH.out.len (by unfold maxLen; omega), HSH.out⟩ ⟨Nat.zero_le _, fun p hp => by cases hp⟩).mono fun e w' ⟨h1, h3⟩ => (⟨h1, kk.trans h3⟩ : e = Ending.returned (.bool (decide (bk n k t l = bk 1 0 0 []))) ∧ Kp No w6 w')
    have sk : ∀ W2, Kp No w6 W2 → W2.cell? ⟨g, 0, none⟩ = some (.int .i64 n) ∧ W2.cell? ⟨g, 1, none⟩ = some (.int .i64 k) ∧ W2.cell? ⟨g, 2, none⟩ = some (.int .i64 t) ∧ W2.cell? ⟨g, 3, none⟩ = some (.slice A3 l.length c3) := fun W2 kk => ⟨(HB6.out.no kk).cell 0, (HB6.out.no kk).cell 1, (HB6.out.no kk).cell 2, (HB6.out.no kk).cell 3⟩
    obtain ⟨R, hR⟩ : ∃ R, R = decide (bk n k t l = bk 1 0 0 []) := ⟨_, rfl⟩
    rw [← hR] at psm
    have HR := Lib.hid hR; clear hR
    go_upto_region 10 with (fail)
    first | (go_region_held3 (fun W2 => W2.cell? ⟨g, 0, none⟩ = some (.int .i64 n) ∧ W2.cell? ⟨g, 1, none⟩ = some (.int .i64 k) ∧ W2.cell? ⟨g, 2, none⟩ = some (.int .i64 t) ∧ W2.cell? ⟨g, 3, none⟩ = some (.slice A3 l.length c3)) (first | (go_keep; done) | exact sk _ (by with_reducible repeat (first | assumption | exact Kp.refl _ _ | refine Kp.drew ?_ | refine Kp.drewN ?_ _)))
        (first
          | (go_at_call 20; (with_reducible refine (pnw _ (by with_reducible repeat (first | assumption | exact Kp.refl _ _ | refine Kp.drew ?_ | refine Kp.drewN ?_ _))).mono ?_); rintro e w7 ⟨rfl, k7⟩)
          | (go_at_call 19; (with_reducible refine (psm _ (by with_reducible repeat (first | assumption | exact Kp.refl _ _ | refine Kp.drew ?_ | refine Kp.drewN ?_ _))).mono ?_); rintro e w8 ⟨rfl, k8⟩))) | fail
    all_goals
      have HB8 := Lib.hid (HB6.out.no k8); have HR8 := Lib.hid (HR6.out.no k8); have HK8 := Lib.hid (HK6.out.trans k8)
      have ho8 := Lib.hid (ho.out.no k8)
      clear sk psm pnw z0 k7 k8
      have z9 : w8.cell? ⟨W.heap.size, 9, none⟩ = some (.int .i64 next) := HR8.out.cell 9
      have z10 : w8.cell? ⟨W.heap.size, 10, none⟩ = some (.int .i64 boots) := HR8.out.cell 10
      have y0 : w8.cell? ⟨g, 0, none⟩ = some (.int .i64 n) := HB8.out.cell 0
      have y1 : w8.cell? ⟨g, 1, none⟩ = some (.int .i64 k) := HB8.out.cell 1
      have f0 := HB8.out.frozen 0
      have f1 := HB8.out.frozen 1
      go_upto_region 11 with (fail)
      first | go_region | fail
      all_goals
        go_wp2
        rw [HQ.out]
        have kk := (((Kp.refl (One g) w8).set (.inl (One.self g)) 0 (.int .i64 next)).set (.inl (One.self g)) 1 (.int .i64 boots)).drew
        refine ⟨((((HK1.out.trans HK8.out).from_).set (g := g) (.inl HH.out.ge) 0 _).set (g := g) (.inl HH.out.ge) 1 _).drew, ?_⟩
        by_cases hf : bk n k t l = newB
        · refine .inr ⟨{ bk n k t l with next := next, boots := boots }, .slice A3 l.length c3, l, ?_, ?_, rfl, ((HB8.out.set_ 0 _).set_ 1 _).drew, ho8.out.far kk HB8.out (by decide) (by decide)⟩
          · rw [changeB_1 rfl]; exact if_pos hf
          · rw [HR.out, decide_eq_true (show bk n k t l = bk 1 0 0 [] from hf)]; rfl
        · refine .inl ⟨?_, ?_⟩
          · rw [changeB_1 rfl]; exact if_neg hf
          · rw [HR.out, decide_eq_false (show ¬ bk n k t l = bk 1 0 0 [] from hf)]; rfl
end Go.Proofs.Ytifdceofglocdaa

/- What a record does to a book of its own: book.change by contract (kind 2). No condition beyond what each theorem states. -/
namespace Go.Proofs.Ytifdceofglocdaa
open Go Go.RowKit Go.PlainAid

set_option maxRecDepth 100000 in
set_option maxHeartbeats 8000000 in
theorem change_2 (B g : Nat) (n k t : Int) (sv : Value) (l : List GP) (r : Rcd) (gv rv : Value) (W : World) (h : ChgH B g n k t sv l W) (hgv : ∀ W2, Kp (From B) W W2 → ArgInts W2 gv r.grant.stamp) (hrv : ∀ W2, Kp (From B) W W2 → ArgInts W2 rv r.stamp) (hr : mayR r) (hlim : limitB (bk n k t l) r.kind = 0) (hk : r.kind = 2) :
    Calls Try.prog 35 #[.pointer (some ⟨g, 0, none⟩), .agg (rC r gv rv).toArray] W (ChgR B g (bk n k t l) r W) := by
  obtain ⟨kind, ⟨gid, hol, path, mode, st, term⟩, id, stamp, next, boots, longest⟩ := r
  obtain rfl : kind = 2 := hk
  obtain ⟨A, c, rfl, _⟩ : ∃ A c, gv = .slice A st.length c ∧ st.length ≤ c := by obtain ⟨A, c, e, hc, _⟩ := hgv W (Kp.refl _ _); exact ⟨A, c, e, hc⟩
  obtain ⟨A2, c2, rfl, _⟩ : ∃ A c, rv = .slice A stamp.length c ∧ stamp.length ≤ c := by obtain ⟨A, c, e, hc, _⟩ := hrv W (Kp.refl _ _); exact ⟨A, c, e, hc⟩
  obtain ⟨A3, c3, rfl, _⟩ := own_len h.own.1
  replace hgv : ∀ W2, Kp (From B) W W2 → ArgInts W2 (.slice A st.length c) st := hgv
  replace hrv : ∀ W2, Kp (From B) W W2 → ArgInts W2 (.slice A2 stamp.length c2) stamp := hrv
  have HGV := Lib.hid hgv; have HRV := Lib.hid hrv; have HRR := Lib.hid hr; have HLIM := Lib.hid (show limitB (bk n k t l) 2 = 0 from hlim); have HH := Lib.hid h; have HSH := Lib.hid (show ∀ p ∈ l, ShG maxLen p.1 from h.sh)
  obtain ⟨Q, hQ⟩ : ∃ Q : Ending → World → Prop, Q = ChgR B g (bk n k t l) ⟨2, ⟨gid, hol, path, mode, st, term⟩, id, stamp, next, boots, longest⟩ W := ⟨_, rfl⟩
  rw [← hQ]
  have HQ := Lib.hid hQ
  obtain ⟨w1, hw1⟩ : ∃ w1, w1 = W.alloc (.cells #[.int .i64 2, .int .i64 gid, .int .i64 hol, .string ⟨path.toArray⟩, .int .i64 mode, .slice A st.length c, .int .i64 term, .int .i64 id, .slice A2 stamp.length c2, .int .i64 next, .int .i64 boots, .int .i64 longest] 32) := ⟨_, rfl⟩
  have HR1 := Lib.hid (show Bk w1 W.heap.size 32 [.int .i64 2, .int .i64 gid, .int .i64 hol, .string ⟨path.toArray⟩, .int .i64 mode, .slice A st.length c, .int .i64 term, .int .i64 id, .slice A2 stamp.length c2, .int .i64 next, .int .i64 boots, .int .i64 longest] by rw [hw1]; exact Bk.new' rfl rfl)
  have HK1 := Lib.hid (show Kp No W w1 by rw [hw1]; exact (Kp.refl No W).alloc _)
  have HB1 := Lib.hid (h.bk.no HK1.out)
  have pa := fun W2 (kk : Kp No w1 W2) => (at_any (.slice A3 l.length c3) l id W2 ((h.own.no (HK1.out.trans kk)).arg) (Nat.le_trans h.len (by omega)) h.sorted).mono fun e w' ⟨i, h1, h2, h3⟩ => (⟨i, h1, h2, kk.trans h3⟩ : ∃ i : Nat, e = Ending.returned (.tuple #[.int .i64 i, .bool (hasG (gsL l) id)]) ∧ AtG (gsL l) id i ∧ Kp No w1 w')
  have sk : ∀ W2, Kp No w1 W2 → W2.cell? ⟨g, 3, none⟩ = some (.slice A3 l.length c3) ∧ W2.cell? ⟨W.heap.size, 7, none⟩ = some (.int .i64 id) := fun W2 kk => ⟨(HB1.out.no kk).cell 3, (HR1.out.no kk).cell 7⟩
  have HW := Lib.hid hw1
  obtain ⟨th, hth⟩ : ∃ th, th = hasG (gsL l) id := ⟨_, rfl⟩
  rw [← hth] at pa
  have HTH := Lib.hid hth
  clear hth hgv hrv hr hlim h hQ hw1
  simp only [rC]
  go_enter Try.func35, Try.ntmps35
  go_upto_region 1 with (fail)
  rw [← HW.out]
  clear HW
  first | (go_region_held3 (fun W2 => W2.cell? ⟨g, 3, none⟩ = some (.slice A3 l.length c3) ∧ W2.cell? ⟨W.heap.size, 7, none⟩ = some (.int .i64 id)) (first | (go_keep; done) | exact sk _ (by with_reducible repeat (first | assumption | exact Kp.refl _ _ | refine Kp.drew ?_ | refine Kp.drewN ?_ _)))
    (first | (go_at_call 71; (with_reducible refine (pa _ (by with_reducible repeat (first | assumption | exact Kp.refl _ _ | refine Kp.drew ?_ | refine Kp.drewN ?_ _))).mono ?_); rintro e w6 ⟨i, rfl, hat, k6⟩))) | fail
  all_goals
    have HAT := Lib.hid hat; have HK6 := Lib.hid k6
    have HB6 := Lib.hid (HB1.out.no k6); have HR6 := Lib.hid (HR1.out.no k6)
    clear hat k6 pa sk HB1 HR1
    have z0 : w6.cell? ⟨W.heap.size, 0, none⟩ = some (.int .i64 2) := HR6.out.cell 0
    have y2 : w6.cell? ⟨g, 2, none⟩ = some (.int .i64 t) := HB6.out.cell 2
    have z11 : w6.cell? ⟨W.heap.size, 11, none⟩ = some (.int .i64 longest) := HR6.out.cell 11
    have ho := Lib.hid (HH.out.own.no (HK1.out.trans HK6.out))
    obtain ⟨R, hR⟩ : ∃ R, R = decide (t < longest) := ⟨_, rfl⟩
    have HR := Lib.hid hR
    go_upto_region 13 with (fail)
    go_quiet (fail)
    generalize hw7 : World.drewN w6 _ = w7
    have k7 : Kp No w6 w7 := by rw [← hw7]; exact (Kp.refl No w6).drewN _
    rw [← hR]
    have HB7 := Lib.hid (HB6.out.no k7); have HO7 := Lib.hid (ho.out.no k7); have HK7 := Lib.hid ((HK1.out.trans HK6.out).trans k7)
    have z11' : w7.cell? ⟨W.heap.size, 11, none⟩ = some (.int .i64 longest) := (HR6.out.no k7).cell 11
    have y2' : w7.cell? ⟨g, 2, none⟩ = some (.int .i64 t) := HB7.out.cell 2
    have f2 := HB7.out.frozen 2
    have kk := Lib.hid (show Kp (One g) w7 (w7.setCell ⟨g, 2, none⟩ (.int .i64 longest)) from (Kp.refl (One g) w7).set (.inl (One.self g)) 2 _)
    clear k7 hw7 hR y2 z11 z0
    go_wp2
    rw [HQ.out]
    refine ⟨(HK7.out.from_).set (g := g) (.inl HH.out.ge) 2 _, ?_⟩
    by_cases hf : t < longest
    · refine .inr ⟨{ bk n k t l with longest := longest }, .slice A3 l.length c3, l, ?_, ?_, rfl, HB7.out.set_ 2 _, HO7.out.far kk.out HB7.out (by decide) (by decide)⟩
      · rw [changeB_2 rfl]; exact if_pos hf
      · rw [HR.out, decide_eq_true hf]; rfl
    · refine .inl ⟨?_, ?_⟩
      · rw [changeB_2 rfl]; exact if_neg hf
      · rw [HR.out, decide_eq_false hf]; rfl
end Go.Proofs.Ytifdceofglocdaa

/- What a record does to a book of its own: book.change by contract (kind 3). No condition beyond what each theorem states. -/
namespace Go.Proofs.Ytifdceofglocdaa
open Go Go.RowKit Go.PlainAid

set_option maxRecDepth 100000 in
set_option maxHeartbeats 8000000 in
theorem change_3 (B g : Nat) (n k t : Int) (sv : Value) (l : List GP) (r : Rcd) (gv rv : Value) (W : World) (h : ChgH B g n k t sv l W) (hgv : ∀ W2, Kp (From B) W W2 → ArgInts W2 gv r.grant.stamp) (hrv : ∀ W2, Kp (From B) W W2 → ArgInts W2 rv r.stamp) (hr : mayR r) (hlim : limitB (bk n k t l) r.kind = 0) (hk : r.kind = 3) :
    Calls Try.prog 35 #[.pointer (some ⟨g, 0, none⟩), .agg (rC r gv rv).toArray] W (ChgR B g (bk n k t l) r W) := by
  obtain ⟨kind, ⟨gid, hol, path, mode, st, term⟩, id, stamp, next, boots, longest⟩ := r
  obtain rfl : kind = 3 := hk
  obtain ⟨A, c, rfl, _⟩ : ∃ A c, gv = .slice A st.length c ∧ st.length ≤ c := by obtain ⟨A, c, e, hc, _⟩ := hgv W (Kp.refl _ _); exact ⟨A, c, e, hc⟩
  obtain ⟨A2, c2, rfl, _⟩ : ∃ A c, rv = .slice A stamp.length c ∧ stamp.length ≤ c := by obtain ⟨A, c, e, hc, _⟩ := hrv W (Kp.refl _ _); exact ⟨A, c, e, hc⟩
  obtain ⟨A3, c3, rfl, _⟩ := own_len h.own.1
  replace hgv : ∀ W2, Kp (From B) W W2 → ArgInts W2 (.slice A st.length c) st := hgv
  replace hrv : ∀ W2, Kp (From B) W W2 → ArgInts W2 (.slice A2 stamp.length c2) stamp := hrv
  have HGV := Lib.hid hgv; have HRV := Lib.hid hrv; have HRR := Lib.hid hr; have HLIM := Lib.hid (show limitB (bk n k t l) 3 = 0 from hlim); have HH := Lib.hid h; have HSH := Lib.hid (show ∀ p ∈ l, ShG maxLen p.1 from h.sh)
  obtain ⟨Q, hQ⟩ : ∃ Q : Ending → World → Prop, Q = ChgR B g (bk n k t l) ⟨3, ⟨gid, hol, path, mode, st, term⟩, id, stamp, next, boots, longest⟩ W := ⟨_, rfl⟩
  rw [← hQ]
  have HQ := Lib.hid hQ
  obtain ⟨w1, hw1⟩ : ∃ w1, w1 = W.alloc (.cells #[.int .i64 3, .int .i64 gid, .int .i64 hol, .string ⟨path.toArray⟩, .int .i64 mode, .slice A st.length c, .int .i64 term, .int .i64 id, .slice A2 stamp.length c2, .int .i64 next, .int .i64 boots, .int .i64 longest] 32) := ⟨_, rfl⟩
  have HR1 := Lib.hid (show Bk w1 W.heap.size 32 [.int .i64 3, .int .i64 gid, .int .i64 hol, .string ⟨path.toArray⟩, .int .i64 mode, .slice A st.length c, .int .i64 term, .int .i64 id, .slice A2 stamp.length c2, .int .i64 next, .int .i64 boots, .int .i64 longest] by rw [hw1]; exact Bk.new' rfl rfl)
  have HK1 := Lib.hid (show Kp No W w1 by rw [hw1]; exact (Kp.refl No W).alloc _)
  have HB1 := Lib.hid (h.bk.no HK1.out)
  have pa := fun W2 (kk : Kp No w1 W2) => (at_any (.slice A3 l.length c3) l id W2 ((h.own.no (HK1.out.trans kk)).arg) (Nat.le_trans h.len (by omega)) h.sorted).mono fun e w' ⟨i, h1, h2, h3⟩ => (⟨i, h1, h2, kk.trans h3⟩ : ∃ i : Nat, e = Ending.returned (.tuple #[.int .i64 i, .bool (hasG (gsL l) id)]) ∧ AtG (gsL l) id i ∧ Kp No w1 w')
  have sk : ∀ W2, Kp No w1 W2 → W2.cell? ⟨g, 3, none⟩ = some (.slice A3 l.length c3) ∧ W2.cell? ⟨W.heap.size, 7, none⟩ = some (.int .i64 id) := fun W2 kk => ⟨(HB1.out.no kk).cell 3, (HR1.out.no kk).cell 7⟩
  have HW := Lib.hid hw1
  obtain ⟨th, hth⟩ : ∃ th, th = hasG (gsL l) id := ⟨_, rfl⟩
  rw [← hth] at pa
  have HTH := Lib.hid hth
  clear hth hgv hrv hr hlim h hQ hw1
  simp only [rC]
  go_enter Try.func35, Try.ntmps35
  go_upto_region 1 with (fail)
  rw [← HW.out]
  clear HW
  first | (go_region_held3 (fun W2 => W2.cell? ⟨g, 3, none⟩ = some (.slice A3 l.length c3) ∧ W2.cell? ⟨W.heap.size, 7, none⟩ = some (.int .i64 id)) (first | (go_keep; done) | exact sk _ (by with_reducible repeat (first | assumption | exact Kp.refl _ _ | refine Kp.drew ?_ | refine Kp.drewN ?_ _)))
    (first | (go_at_call 71; (with_reducible refine (pa _ (by with_reducible repeat (first | assumption | exact Kp.refl _ _ | refine Kp.drew ?_ | refine Kp.drewN ?_ _))).mono ?_); rintro e w6 ⟨i, rfl, hat, k6⟩))) | fail
  all_goals
    have HAT := Lib.hid hat; have HK6 := Lib.hid k6
    have HB6 := Lib.hid (HB1.out.no k6); have HR6 := Lib.hid (HR1.out.no k6)
    clear hat k6 pa sk HB1 HR1
    have z0 : w6.cell? ⟨W.heap.size, 0, none⟩ = some (.int .i64 3) := HR6.out.cell 0
    have ho := Lib.hid (HH.out.own.no (HK1.out.trans HK6.out))
    have h3 := (mayR_3 (r := ⟨3, ⟨gid, hol, path, mode, st, term⟩, id, stamp, next, boots, longest⟩) rfl).1 HRR.out
    have hmg := mayG_sh h3.1
    have hsl : st.length ≤ 4 := hmg.2.1
    have hs1 : st ≠ [] := hmg.2.2
    have HKF := Lib.hid ((HK1.out.trans HK6.out).from_ (B := B))
    clear h3 hmg
    
    have pa := fun W2 (kk : Kp No w6 W2) => (at_any (.slice A3 l.length c3) l gid W2 ((ho.out.no kk).arg) (Nat.le_trans HH.out.len (by omega)) HH.out.sorted).mono fun e w' ⟨i, h1, h2, h3⟩ => (⟨i, h1, h2, kk.trans h3⟩ : ∃ i : Nat, e = Ending.returned (.tuple #[.int .i64 i, .bool (hasG (gsL l) gid)]) ∧ AtG (gsL l) gid i ∧ Kp No w6 w')
    obtain ⟨is, his⟩ : ∃ is, is = hasG (gsL l) gid := ⟨_, rfl⟩
    rw [← his] at pa
    have HIS := Lib.hid his
    clear his
    have sk : ∀ W2, Kp No w6 W2 → W2.cell? ⟨g, 3, none⟩ = some (.slice A3 l.length c3) ∧ W2.cell? ⟨W.heap.size, 1, none⟩ = some (.int .i64 gid) := fun W2 kk => ⟨(HB6.out.no kk).cell 3, (HR6.out.no kk).cell 1⟩
    go_upto_region 19 with (fail)
    first | (go_region_held3 (fun W2 => W2.cell? ⟨g, 3, none⟩ = some (.slice A3 l.length c3) ∧ W2.cell? ⟨W.heap.size, 1, none⟩ = some (.int .i64 gid)) (first | (go_keep; done) | exact sk _ (by with_reducible repeat (first | assumption | exact Kp.refl _ _ | refine Kp.drew ?_ | refine Kp.drewN ?_ _)))
        (first | (go_at_call 71; (with_reducible refine (pa _ (by with_reducible repeat (first | assumption | exact Kp.refl _ _ | refine Kp.drew ?_ | refine Kp.drewN ?_ _))).mono ?_); rintro e w9 ⟨j, rfl, hat9, k9⟩))) | fail
    all_goals
      have HAT9 := Lib.hid hat9; have HK9 := Lib.hid (HKF.out.trans k9.from_)
      have HB9 := Lib.hid (HB6.out.no k9); have HR9 := Lib.hid (HR6.out.no k9); have HO9 := Lib.hid (ho.out.no k9)
      have hBs : B ≤ w9.heap.size := Nat.le_trans HH.out.le HK9.out.size
      clear hat9 k9 pa sk
      obtain ⟨g2, o2, c4', eB, _⟩ := (HGV.out _ HK9.out).at_ (List.length_pos_iff.2 hs1)
      injection eB with eB _ ec
      subst eB ec
      have pt := fun W2 (kk : Kp No w9 W2) => (twin_any (⟨gid, hol, path, mode, st, term⟩, .slice (some ⟨g2, o2, none⟩) st.length c) W2 g2 o2 c rfl (HGV.out _ (HK9.out.trans kk.from_)) (by show st.length ≤ _; omega)).mono fun e w' ⟨sv, h1, h2, h3⟩ => (⟨sv, h1, own_mono h2 kk.size, kk.trans h3⟩ : ∃ sv, e = Ending.returned (.agg #[.int .i64 gid, .int .i64 hol, .string ⟨path.toArray⟩, .int .i64 mode, sv, .int .i64 term]) ∧ w'.ownsRow w9.heap.size 3 1 sv st.length (ints st) ∧ Kp No w9 w')
      simp only [pC] at pt
      have hng : ¬ (Value.slice A3 l.length c3).ownBlock = some g := own_ne HO9.out.1 HB9.out (by decide)
      have hnr : ¬ (Value.slice A3 l.length c3).ownBlock = some W.heap.size := own_ne HO9.out.1 HR9.out (by decide)
      have y9 : w9.cell? ⟨g, 3, none⟩ = some (.slice A3 l.length c3) := HB9.out.cell 3
      have sk : ∀ W2, Kp (fun k => (Value.slice A3 l.length c3).ownBlock = some k) w9 W2 → W2.cell? ⟨g, 3, none⟩ = some (.slice A3 l.length c3) ∧ W2.cell? ⟨W.heap.size, 1, none⟩ = some (.int .i64 gid) ∧ W2.cell? ⟨W.heap.size, 2, none⟩ = some (.int .i64 hol) ∧ W2.cell? ⟨W.heap.size, 3, none⟩ = some (.string ⟨path.toArray⟩) ∧ W2.cell? ⟨W.heap.size, 4, none⟩ = some (.int .i64 mode) ∧ W2.cell? ⟨W.heap.size, 5, none⟩ = some (.slice (some ⟨g2, o2, none⟩) st.length c) ∧ W2.cell? ⟨W.heap.size, 6, none⟩ = some (.int .i64 term) := fun W2 kk => ⟨(HB9.out.kp kk hng).cell 3, (HR9.out.kp kk hnr).cell 1, (HR9.out.kp kk hnr).cell 2, (HR9.out.kp kk hnr).cell 3, (HR9.out.kp kk hnr).cell 4, (HR9.out.kp kk hnr).cell 5, (HR9.out.kp kk hnr).cell 6⟩
      clear y9
      have pin : ∀ (W2 : World) (A10 : Option Addr) (c10 : Nat) (w10 : World), Kp No w9 w10 → W2 = w10.alloc (.cells #[.int .i64 gid, .int .i64 hol, .string ⟨path.toArray⟩, .int .i64 mode, .slice A10 st.length c10, .int .i64 term] 30) → Calls Try.prog 72 #[.slice A3 l.length c3, .int .i64 j, .slice (some ⟨w10.heap.size, 0, none⟩) 1 1] W2 (InsR B (.slice A3 l.length c3) l.length j (pL l) [.int .i64 gid, .int .i64 hol, .string ⟨path.toArray⟩, .int .i64 mode, .slice A10 st.length c10, .int .i64 term] W2) := fun W2 A10 c10 w10 kk e => by
        rw [e]
        have ho10 := HO9.out.no kk
        exact insert_any B (.slice A3 l.length c3) l.length j (pL l) [.int .i64 gid, .int .i64 hol, .string ⟨path.toArray⟩, .int .i64 mode, .slice A10 st.length c10, .int .i64 term] w10.heap.size _ (own_kp ho10.1 ((Kp.refl No w10).alloc _) fun _ _ q => q) (by have := HAT9.out.le; rwa [gsL_len] at this) (by have := HH.out.len; omega) (by have := kk.size; simp; omega) (Bk.new' rfl rfl) rfl (by simp [Value.oneCell']) (pL_one HO9.out) (fun e => by have := (ho10.1.lt _ e).2; omega)
      go_upto_region 20 with (fail)
      have hF := sk _ ((Kp.refl No w9).drew.of_no)
      refine rg_begin (fun W2 => W2.cell? ⟨g, 3, none⟩ = some (.slice A3 l.length c3) ∧ W2.cell? ⟨W.heap.size, 1, none⟩ = some (.int .i64 gid) ∧ W2.cell? ⟨W.heap.size, 2, none⟩ = some (.int .i64 hol) ∧ W2.cell? ⟨W.heap.size, 3, none⟩ = some (.string ⟨path.toArray⟩) ∧ W2.cell? ⟨W.heap.size, 4, none⟩ = some (.int .i64 mode) ∧ W2.cell? ⟨W.heap.size, 5, none⟩ = some (.slice (some ⟨g2, o2, none⟩) st.length c) ∧ W2.cell? ⟨W.heap.size, 6, none⟩ = some (.int .i64 term)) 13 (by kernel_rfl) ?_
      refine rg_take (i := 0) (v := ?vp0) (by simp only [List.getElem?_toArray, List.getElem?_cons_zero]; rfl) (by kernel_rfl) (by exact fun _ _ _ h => h) (by rfl) ?rp0 hF ?sp0
      case rp0 => (intro W hW; clear hW; go_simp; try with_reducible rfl)
      try simp only [Act.put, List.setIfInBounds_toArray, List.set_cons_zero, List.set_cons_succ]
      refine rg_take (i := 1) (v := ?vp1) (by simp only [List.getElem?_toArray, List.getElem?_cons_succ, List.getElem?_cons_zero]; rfl) (by kernel_rfl) (by exact fun _ _ _ h => h) (by rfl) ?rp1 hF ?sp1
      case rp1 => (intro W hW; clear hW; go_simp; try with_reducible rfl)
      try simp only [Act.put, List.setIfInBounds_toArray, List.set_cons_zero, List.set_cons_succ]
      refine rg_take (i := 2) (v := ?vp2) (by simp only [List.getElem?_toArray, List.getElem?_cons_succ, List.getElem?_cons_zero]; rfl) (by kernel_rfl) (by exact fun _ _ _ h => h) (by rfl) ?rp2 hF ?sp2
      case rp2 => (intro W hW; clear hW; go_simp; try with_reducible rfl)
      try simp only [Act.put, List.setIfInBounds_toArray, List.set_cons_zero, List.set_cons_succ]
      refine rg_take (i := 3) (v := ?vp3) (by simp only [List.getElem?_toArray, List.getElem?_cons_succ, List.getElem?_cons_zero]; rfl) (by kernel_rfl) (by exact fun _ _ _ h => h) (by rfl) ?rp3 hF ?sp3
      case rp3 => (intro W hW; clear hW; go_simp; try with_reducible rfl)
      try simp only [Act.put, List.setIfInBounds_toArray, List.set_cons_zero, List.set_cons_succ]
      refine rg_take (i := 4) (v := ?vp4) (by simp only [List.getElem?_toArray, List.getElem?_cons_succ, List.getElem?_cons_zero]; rfl) (by kernel_rfl) (by exact fun _ _ _ h => h) (by rfl) ?rp4 hF ?sp4
      case rp4 => (intro W hW; obtain ⟨f1, f2, f3, f4, f5, f6, f7⟩ := hW; go_simp; try with_reducible rfl)
      try simp only [Act.put, List.setIfInBounds_toArray, List.set_cons_zero, List.set_cons_succ]
      refine rg_take (i := 5) (v := ?vp5) (by simp only [List.getElem?_toArray, List.getElem?_cons_succ, List.getElem?_cons_zero]; rfl) (by kernel_rfl) (by exact fun _ _ _ h => h) (by rfl) ?rp5 hF ?sp5
      case rp5 => (intro W hW; clear hW; go_simp; try with_reducible rfl)
      try simp only [Act.put, List.setIfInBounds_toArray, List.set_cons_zero, List.set_cons_succ]
      refine rg_take (i := 6) (v := ?vp6) (by simp only [List.getElem?_toArray, List.getElem?_cons_succ, List.getElem?_cons_zero]; rfl) (by kernel_rfl) (by exact fun _ _ _ h => h) (by rfl) ?rp6 hF ?sp6
      case rp6 => (intro W hW; clear hW; go_simp; try with_reducible rfl)
      try simp only [Act.put, List.setIfInBounds_toArray, List.set_cons_zero, List.set_cons_succ]
      refine rg_take (i := 7) (v := ?vp7) (by simp only [List.getElem?_toArray, List.getElem?_cons_succ, List.getElem?_cons_zero]; rfl) (by kernel_rfl) (by exact fun _ _ _ h => h) (by rfl) ?rp7 hF ?sp7
      case rp7 => (intro W hW; obtain ⟨f1, f2, f3, f4, f5, f6, f7⟩ := hW; go_simp; try with_reducible rfl)
      try simp only [Act.put, List.setIfInBounds_toArray, List.set_cons_zero, List.set_cons_succ]
      refine rg_one (i := 8) (oi := ?op8) ?ap8 ?bp8 ?cp8 ?dp8
      case ap8 => (simp only [List.getElem?_toArray, List.getElem?_cons_succ, List.getElem?_cons_zero]; rfl)
      case bp8 => kernel_rfl
      case cp8 => rfl
      intro K hK
      (go_simp; (with_reducible refine (pt _ ((Kp.refl No w9).drew)).mono ?_); rintro e w10 ⟨sv, rfl, o10, k10⟩; obtain ⟨A10, c10, rfl, _⟩ := own_len o10)
      refine rg_use hK (sk _ k10.of_no) (fun hF => ?_)
      clear hK K
      try simp only [Act.put, List.setIfInBounds_toArray, List.set_cons_zero, List.set_cons_succ]
      refine rg_one (i := 9) (oi := ?op9) ?ap9 ?bp9 ?cp9 ?dp9
      case ap9 => (simp only [List.getElem?_toArray, List.getElem?_cons_succ, List.getElem?_cons_zero]; rfl)
      case bp9 => kernel_rfl
      case cp9 => rfl
      intro K hK
      go_simp
      refine rg_use hK (sk _ ((k10.alloc _).of_no)) (fun hF => ?_)
      clear hK K
      try simp only [Act.put, List.setIfInBounds_toArray, List.set_cons_zero, List.set_cons_succ]
      refine rg_one (i := 10) (oi := ?op10) ?ap10 ?bp10 ?cp10 ?dp10
      case ap10 => (simp only [List.getElem?_toArray, List.getElem?_cons_succ, List.getElem?_cons_zero]; rfl)
      case bp10 => kernel_rfl
      case cp10 => rfl
      intro K hK
      (go_simp; refine (pin _ _ _ w10 k10 rfl).mono ?_; rintro e w11 ⟨v11, rfl, o11, k11⟩; obtain ⟨A11, c11, rfl, _⟩ := own_len o11; have k11a : Kp (fun k => (Value.slice A3 l.length c3).ownBlock = some k) w9 w11 := ((k10.alloc _).of_no).trans k11; have b11 := ((HB9.out.no (k10.alloc (.cells #[.int .i64 gid, .int .i64 hol, .string ⟨path.toArray⟩, .int .i64 mode, .slice A10 st.length c10, .int .i64 term] 30))).kp k11 hng))
      refine rg_use hK (sk _ k11a) (fun hF => ?_)
      clear hK K
      try simp only [Act.put, List.setIfInBounds_toArray, List.set_cons_zero, List.set_cons_succ]
      refine rg_one (i := 11) (oi := ?op11) ?ap11 ?bp11 ?cp11 ?dp11
      case ap11 => (simp only [List.getElem?_toArray, List.getElem?_cons_succ, List.getElem?_cons_zero]; rfl)
      case bp11 => kernel_rfl
      case cp11 => rfl
      intro K hK
      go_simp
      refine rg_use hK hF (fun hF => ?_)
      clear hK K
      try simp only [Act.put, List.setIfInBounds_toArray, List.set_cons_zero, List.set_cons_succ]
      refine rg_take (i := 12) (v := ?vp12) (by simp only [List.getElem?_toArray, List.getElem?_cons_succ, List.getElem?_cons_zero]; rfl) (by kernel_rfl) (by exact fun _ _ _ h => h) (by rfl) ?rp12 hF ?sp12
      case rp12 => (intro W hW; clear hW; go_simp; try with_reducible rfl)
      try simp only [Act.put, List.setIfInBounds_toArray, List.set_cons_zero, List.set_cons_succ]
      refine rg_one (i := 13) (oi := ?op13) ?ap13 ?bp13 ?cp13 ?dp13
      case ap13 => (simp only [List.getElem?_toArray, List.getElem?_cons_succ, List.getElem?_cons_zero]; rfl)
      case bp13 => kernel_rfl
      case cp13 => rfl
      intro K hK
      (have y0 := hF.1; have yf := b11.frozen 3; go_simp)
      refine hK _ _ (fun h => absurd rfl h) ?_
      clear hK K
      try simp only [Act.put, List.setIfInBounds_toArray, List.set_cons_zero, List.set_cons_succ]
      refine rg_done (by kernel_rfl) ?_
      have HK11 := Lib.hid k11a; have HB11 := Lib.hid b11; have HO11 := Lib.hid o11; have HO10 := Lib.hid o10; have HK10 := Lib.hid k10; have HKI := Lib.hid k11
      have K12 := Lib.hid (((HK9.out.trans (k11a.mono fun i _ e => (HO9.out.1.lt i e).1)).set (g := g) (.inl HH.out.ge) 3 (.slice A11 (l.length + 1) c11)))
      have B12 := Lib.hid (b11.set_ 3 (.slice A11 (l.length + 1) c11))
      have O12 := Lib.hid (show OwnG (w11.setCell ⟨g, 3, none⟩ (.slice A11 (l.length + 1) c11)) B (.slice A11 (l.length + 1) c11) (l.take j ++ (⟨gid, hol, path, mode, st, term⟩, .slice A10 st.length c10) :: l.drop j) by
        have kg := (Kp.refl (One g) w11).set (.inl (One.self g)) 3 (.slice A11 (l.length + 1) c11)
        have hjl : j ≤ l.length := by have := HAT9.out.le; rwa [gsL_len] at this
        have ho10 := HO9.out.no (k10.alloc (.cells #[.int .i64 gid, .int .i64 hol, .string ⟨path.toArray⟩, .int .i64 mode, .slice A10 st.length c10, .int .i64 term] 30))
        refine OwnG.far ⟨?_, fun p hp => ?_⟩ kg b11 (by decide) (by decide)
        · have e : (l.take j ++ ((⟨gid, hol, path, mode, st, term⟩, .slice A10 st.length c10) : GP) :: l.drop j).length = l.length + 1 := by
            rw [List.length_append, List.length_cons, List.length_take, List.length_drop]; omega
          rw [e, pL_ins l j hjl]
          exact o11
        · rw [List.mem_append, List.mem_cons] at hp
          have hs : p = (⟨gid, hol, path, mode, st, term⟩, .slice A10 st.length c10) ∨ p ∈ l := by
            rcases hp with hp | hp | hp
            · exact .inr (List.mem_of_mem_take hp)
            · exact .inl hp
            · exact .inr (List.mem_of_mem_drop hp)
          rcases hs with rfl | hp
          · have h1 : w10.ownsRow B 3 1 (.slice A10 st.length c10) st.length (ints st) := own_mono o10 hBs
            have h2 := own_kp h1 ((Kp.refl No w10).alloc (.cells #[.int .i64 gid, .int .i64 hol, .string ⟨path.toArray⟩, .int .i64 mode, .slice A10 st.length c10, .int .i64 term] 30)) fun _ _ q => q
            exact own_kp h2 k11 (own_apart h2 ho10.1 (by decide))
          · have h2 := ho10.2 p hp
            exact own_kp h2 k11 (own_apart h2 ho10.1 (by decide)))
      have R12 := Lib.hid (((HR9.out.no (k10.alloc (.cells #[.int .i64 gid, .int .i64 hol, .string ⟨path.toArray⟩, .int .i64 mode, .slice A10 st.length c10, .int .i64 term] 30))).kp k11 hnr).far (p := ⟨g, 3, none⟩) (HR9.out.ne_ HB9.out (by decide)) (.slice A11 (l.length + 1) c11))
      have HG12 := Lib.hid (show gsL (l.take j ++ ((⟨gid, hol, path, mode, st, term⟩, .slice A10 st.length c10) : GP) :: l.drop j) = insG (gsL l) ⟨gid, hol, path, mode, st, term⟩ by
        rw [insG_at HAT9.out rfl]
        simp [gsL, List.map_take, List.map_drop])
      generalize (l.take j ++ ((⟨gid, hol, path, mode, st, term⟩, .slice A10 st.length c10) : GP) :: l.drop j) = l12 at O12 HG12
      clear k10 k11 k11a o10 o11 b11 pt pin hng hnr sk HK11 HB11 HO11 HO10 HK10 HKI
      go_upto_region 21 with (fail)
      generalize w11.setCell ⟨g, 3, none⟩ (.slice A11 (l.length + 1) c11) = w12 at *
      have B12 : Hid (Bk w12 g 25 [.int .i64 (n), .int .i64 k, .int .i64 t, .slice A11 (l.length + 1) c11]) := B12
      cases is with
      | true =>
        go_quiet (fail)
        go_wp2
        rw [HQ.out]
        refine ⟨K12.out.drewN _, .inl ⟨?_, rfl⟩⟩
        rw [changeB_3 rfl]
        exact if_pos (.inl HIS.out.symm)
      | false =>
        have pn := fun W2 (kk : Kp No w12 W2) => newest_any (.slice (some ⟨g2, o2, none⟩) st.length c) st W2 (HGV.out _ (K12.out.trans kk.from_)) (Nat.le_trans hsl (by unfold maxLen; omega))
        have y0 : w12.cell? ⟨g, 0, none⟩ = some (.int .i64 (n)) := B12.out.cell 0
        have z5 : w12.cell? ⟨W.heap.size, 5, none⟩ = some (.slice (some ⟨g2, o2, none⟩) st.length c) := R12.out.cell 5
        generalize hnw : newestS st = nw at pn
        have HNW := Lib.hid hnw
        clear hnw
        go_quiet (first | (go_at_call 47; exact Calls.quiet_of_same ((pn _ (by with_reducible repeat (first | assumption | exact Kp.refl _ _ | refine Kp.drew ?_ | refine Kp.drewN ?_ _))).mono fun _ _ ⟨h1, h2⟩ => ⟨h1, h2.symm⟩)) | fail)
        go_wp2
        rw [HQ.out]
        refine ⟨K12.out.drewN _, ?_⟩
        by_cases hf : newestS st < n
        · refine .inr ⟨{ bk n k t l with grants := insG (gsL l) ⟨gid, hol, path, mode, st, term⟩ }, _, l12, ?_, ?_, HG12.out, B12.out.drewN _, O12.out.no ((Kp.refl No _).drewN _)⟩
          · rw [changeB_3 rfl]
            exact if_neg (fun e => e.elim (fun e => by have e : hasG (gsL l) gid = true := e; rw [← HIS.out] at e; cases e) (fun e => by have e : n ≤ newestS st := e; omega))
          · rw [decide_eq_true (by rw [← HNW.out]; exact hf)]
        · refine .inl ⟨?_, ?_⟩
          · rw [changeB_3 rfl]
            exact if_pos (.inr (by show n ≤ newestS st; omega))
          · rw [decide_eq_false (by rw [← HNW.out]; exact hf)]
end Go.Proofs.Ytifdceofglocdaa
