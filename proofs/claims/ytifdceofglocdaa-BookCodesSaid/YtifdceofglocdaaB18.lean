/- Several texts of this claim in one. No condition beyond what each theorem states. -/
import Derived.Test.YtifdceofglocdaaB13
import Derived.StillTailTactics
import Derived.Deep.RegionHeld3
import Derived.BigQuiet
import Derived.Test.YtifdceofglocdaaB16
import Derived.Test.YtifdceofglocdaaB17
import Derived.Test.YtifdceofglocdaaB11
/- What a record does to a book of its own: book.change by contract (kind 6). No condition beyond what each theorem states. -/
namespace Go.Proofs.Ytifdceofglocdaa
open Go Go.RowKit Go.PlainAid

set_option maxRecDepth 100000 in
set_option maxHeartbeats 8000000 in
theorem change_6 (B g : Nat) (n k t : Int) (sv : Value) (l : List GP) (r : Rcd) (gv rv : Value) (W : World) (h : ChgH B g n k t sv l W) (hgv : ∀ W2, Kp (From B) W W2 → ArgInts W2 gv r.grant.stamp) (hrv : ∀ W2, Kp (From B) W W2 → ArgInts W2 rv r.stamp) (hr : mayR r) (hlim : limitB (bk n k t l) r.kind = 0) (hk : r.kind = 6) :
    Calls Try.prog 35 #[.pointer (some ⟨g, 0, none⟩), .agg (rC r gv rv).toArray] W (ChgR B g (bk n k t l) r W) := by
  obtain ⟨kind, ⟨gid, hol, path, mode, st, term⟩, id, stamp, next, boots, longest⟩ := r
  obtain rfl : kind = 6 := hk
  obtain ⟨A, c, rfl, _⟩ : ∃ A c, gv = .slice A st.length c ∧ st.length ≤ c := by obtain ⟨A, c, e, hc, _⟩ := hgv W (Kp.refl _ _); exact ⟨A, c, e, hc⟩
  obtain ⟨A2, c2, rfl, _⟩ : ∃ A c, rv = .slice A stamp.length c ∧ stamp.length ≤ c := by obtain ⟨A, c, e, hc, _⟩ := hrv W (Kp.refl _ _); exact ⟨A, c, e, hc⟩
  obtain ⟨A3, c3, rfl, _⟩ := own_len h.own.1
  replace hgv : ∀ W2, Kp (From B) W W2 → ArgInts W2 (.slice A st.length c) st := hgv
  replace hrv : ∀ W2, Kp (From B) W W2 → ArgInts W2 (.slice A2 stamp.length c2) stamp := hrv
  have HGV := Lib.hid hgv; have HRV := Lib.hid hrv; have HRR := Lib.hid hr; have HLIM := Lib.hid (show limitB (bk n k t l) 6 = 0 from hlim); have HH := Lib.hid h; have HSH := Lib.hid (show ∀ p ∈ l, ShG maxLen p.1 from h.sh)
  obtain ⟨Q, hQ⟩ : ∃ Q : Ending → World → Prop, Q = ChgR B g (bk n k t l) ⟨6, ⟨gid, hol, path, mode, st, term⟩, id, stamp, next, boots, longest⟩ W := ⟨_, rfl⟩
  rw [← hQ]
  have HQ := Lib.hid hQ
  obtain ⟨w1, hw1⟩ : ∃ w1, w1 = W.alloc (.cells #[.int .i64 6, .int .i64 gid, .int .i64 hol, .string ⟨path.toArray⟩, .int .i64 mode, .slice A st.length c, .int .i64 term, .int .i64 id, .slice A2 stamp.length c2, .int .i64 next, .int .i64 boots, .int .i64 longest] 32) := ⟨_, rfl⟩
  have HR1 := Lib.hid (show Bk w1 W.heap.size 32 [.int .i64 6, .int .i64 gid, .int .i64 hol, .string ⟨path.toArray⟩, .int .i64 mode, .slice A st.length c, .int .i64 term, .int .i64 id, .slice A2 stamp.length c2, .int .i64 next, .int .i64 boots, .int .i64 longest] by rw [hw1]; exact Bk.new' rfl rfl)
  have HK1 := Lib.hid (show Kp No W w1 by rw [hw1]; exact (Kp.refl No W).alloc _)
  have HB1 := Lib.hid (h.bk.no HK1.out)
  have pa := fun W2 (kk : Kp No w1 W2) => (at_any (.slice A3 l.length c3) l id W2 ((h.own.no (HK1.out.trans kk)).arg) (Nat.le_trans h.len (by omega)) h.sorted).mono fun e w' ⟨i, h1, h2, h3⟩ => (⟨i, h1, h2, kk.trans h3⟩ : ∃ i : Nat, e = Ending.returned (.tuple #[.int .i64 i, .bool (hasG (gsL l) id)]) ∧ AtG (gsL l) id i ∧ Kp No w1 w')
  have sk : ∀ W2, Kp No w1 W2 → W2.cell? ⟨g, 3, none⟩ = some (.slice A3 l.length c3) ∧ W2.cell? ⟨W.heap.size, 7, none⟩ = some (.int .i64 id) := fun W2 kk => ⟨(HB1.out.no kk).cell 3, (HR1.out.no kk).cell 7⟩
  have HW := Lib.hid hw1
  obtain ⟨th, hth⟩ : ∃ th, th = hasG (gsL l) id := ⟨_, rfl⟩
  rw [← hth] at pa
  have HTH := Lib.hid hth
  clear hth hgv hrv hr hlim h hQ hw1
  simp only [rC]
  go_enter Try.func35, Try.ntmps35
  go_upto_region 1 with (fail)
  rw [← HW.out]
  clear HW
  first | (go_region_held3 (fun W2 => W2.cell? ⟨g, 3, none⟩ = some (.slice A3 l.length c3) ∧ W2.cell? ⟨W.heap.size, 7, none⟩ = some (.int .i64 id)) (first | (go_keep; done) | exact sk _ (by with_reducible repeat (first | assumption | exact Kp.refl _ _ | refine Kp.drew ?_ | refine Kp.drewN ?_ _)))
    (first | (go_at_call 71; (with_reducible refine (pa _ (by with_reducible repeat (first | assumption | exact Kp.refl _ _ | refine Kp.drew ?_ | refine Kp.drewN ?_ _))).mono ?_); rintro e w6 ⟨i, rfl, hat, k6⟩))) | fail
  all_goals
    have HAT := Lib.hid hat; have HK6 := Lib.hid k6
    have HB6 := Lib.hid (HB1.out.no k6); have HR6 := Lib.hid (HR1.out.no k6)
    clear hat k6 pa sk HB1 HR1
    have z0 : w6.cell? ⟨W.heap.size, 0, none⟩ = some (.int .i64 6) := HR6.out.cell 0
    have ho := Lib.hid (HH.out.own.no (HK1.out.trans HK6.out))
    cases th with
    | false =>
      go_wp2
      rw [HQ.out]
      refine ⟨(HK1.out.trans HK6.out).from_, .inl ⟨?_, rfl⟩⟩
      rw [changeB_6 rfl]
      exact if_neg (fun e => by have e : hasG (gsL l) id = true := e; rw [← HTH.out] at e; cases e)
    | true =>
      obtain ⟨x, hx, hxe⟩ := (HAT.out.has HH.out.sorted).1 HTH.out.symm
      have hil : i < l.length := by have := (List.getElem?_eq_some_iff.1 hx).1; rwa [gsL_len] at this
      obtain ⟨m, hm⟩ : ∃ m, l.length = m + 1 := ⟨l.length - 1, by omega⟩
      have pd := fun W2 (kk : Kp No w6 W2) => delete_any B (.slice A3 l.length c3) m i (pL l) W2 (by rw [← hm]; exact (ho.out.no kk).1) (by omega) (by have := HH.out.len; omega) (pL_one ho.out)
      have y3 : w6.cell? ⟨g, 3, none⟩ = some (.slice A3 l.length c3) := HB6.out.cell 3
      have f3 := HB6.out.frozen 3
      have hw : IntKind.i64.wrap ((i : Int) + 1) = (i : Int) + 1 := by have := HH.out.len; rw [IntKind.wrap_i64]; omega
      have HX := Lib.hid hx; have HXE := Lib.hid hxe; have HIL := Lib.hid hil; have HM := Lib.hid hm
      clear hx hxe hil hm
      go_wp2_with fail
      refine (pd _ (Kp.refl _ _)).mono ?_
      rintro e w7 ⟨v7, rfl, o7, k7⟩
      have k7 : Kp (fun j => (Value.slice A3 l.length c3).ownBlock = some j) w6 w7 := k7
      have hng : ¬ (Value.slice A3 l.length c3).ownBlock = some g := own_ne ho.out.1 HB6.out (by decide)
      have HB7 := Lib.hid (HB6.out.kp k7 hng); have HO7 := Lib.hid o7; have HK7 := Lib.hid k7
      have y3' : w7.cell? ⟨g, 3, none⟩ = some (.slice A3 l.length c3) := HB7.out.cell 3
      have f3' := HB7.out.frozen 3
      clear k7 o7 pd y3 f3 hng
      obtain ⟨A7, c7, rfl, _⟩ := own_len HO7.out
      go_wp2
      rw [HQ.out]
      have k8 := (Kp.refl (One g) w7).set (.inl (One.self g)) 3 (.slice A7 m c7)
      have hst : ∀ p ∈ l, ∀ j, p.2.ownBlock = some j → ¬ (Value.slice A3 l.length c3).ownBlock = some j := fun p hp => own_apart (ho.out.2 p hp) ho.out.1 (by decide)
      have hml : (l.eraseIdx i).length = m := by rw [List.length_eraseIdx, if_pos HIL.out, HM.out]; rfl
      refine ⟨?_, .inr ⟨{ bk n k t l with grants := delG (gsL l) id }, .slice A7 m c7, l.eraseIdx i, ?_, rfl, ?_, HB7.out.set_ 3 _, ⟨?_, fun p hp => ?_⟩⟩⟩
      · refine (((HK1.out.trans HK6.out).from_).then_ HK7.out fun j hj e => ?_).set (g := g) (.inl HH.out.ge) 3 _
        exact ((ho.out.1).lt j e).1
      · rw [changeB_6 rfl]
        exact if_pos HTH.out.symm
      · show gsL (l.eraseIdx i) = delG (gsL l) id
        rw [delG_at HAT.out HH.out.sorted HX.out HXE.out]
        unfold gsL
        rw [List.eraseIdx_eq_take_drop_succ, List.eraseIdx_eq_take_drop_succ, List.map_append, List.map_take, List.map_drop]
      · rw [hml]
        have e := pL_erase l i HIL.out
        rw [← e] at HO7
        exact own_kp HO7.out k8 fun j e q => own_ne HO7.out HB7.out (by decide) (by rw [e, show j = g from q])
      · have hp := List.mem_of_mem_eraseIdx hp
        have o1 := own_kp (ho.out.2 p hp) HK7.out (hst p hp)
        exact own_kp o1 k8 fun j e q => own_ne o1 HB7.out (by decide) (by rw [e, show j = g from q])
end Go.Proofs.Ytifdceofglocdaa

/- What a record does to a book of its own: book.change by contract (kind 7). No condition beyond what each theorem states. -/
namespace Go.Proofs.Ytifdceofglocdaa
open Go Go.RowKit Go.PlainAid

set_option maxRecDepth 100000 in
set_option maxHeartbeats 8000000 in
theorem change_7 (B g : Nat) (n k t : Int) (sv : Value) (l : List GP) (r : Rcd) (gv rv : Value) (W : World) (h : ChgH B g n k t sv l W) (hgv : ∀ W2, Kp (From B) W W2 → ArgInts W2 gv r.grant.stamp) (hrv : ∀ W2, Kp (From B) W W2 → ArgInts W2 rv r.stamp) (hr : mayR r) (hlim : limitB (bk n k t l) r.kind = 0) (hk : r.kind = 7) :
    Calls Try.prog 35 #[.pointer (some ⟨g, 0, none⟩), .agg (rC r gv rv).toArray] W (ChgR B g (bk n k t l) r W) := by
  obtain ⟨kind, ⟨gid, hol, path, mode, st, term⟩, id, stamp, next, boots, longest⟩ := r
  obtain rfl : kind = 7 := hk
  obtain ⟨A, c, rfl, _⟩ : ∃ A c, gv = .slice A st.length c ∧ st.length ≤ c := by obtain ⟨A, c, e, hc, _⟩ := hgv W (Kp.refl _ _); exact ⟨A, c, e, hc⟩
  obtain ⟨A2, c2, rfl, _⟩ : ∃ A c, rv = .slice A stamp.length c ∧ stamp.length ≤ c := by obtain ⟨A, c, e, hc, _⟩ := hrv W (Kp.refl _ _); exact ⟨A, c, e, hc⟩
  obtain ⟨A3, c3, rfl, _⟩ := own_len h.own.1
  replace hgv : ∀ W2, Kp (From B) W W2 → ArgInts W2 (.slice A st.length c) st := hgv
  replace hrv : ∀ W2, Kp (From B) W W2 → ArgInts W2 (.slice A2 stamp.length c2) stamp := hrv
  have HGV := Lib.hid hgv; have HRV := Lib.hid hrv; have HRR := Lib.hid hr; have HLIM := Lib.hid (show limitB (bk n k t l) 7 = 0 from hlim); have HH := Lib.hid h; have HSH := Lib.hid (show ∀ p ∈ l, ShG maxLen p.1 from h.sh)
  obtain ⟨Q, hQ⟩ : ∃ Q : Ending → World → Prop, Q = ChgR B g (bk n k t l) ⟨7, ⟨gid, hol, path, mode, st, term⟩, id, stamp, next, boots, longest⟩ W := ⟨_, rfl⟩
  rw [← hQ]
  have HQ := Lib.hid hQ
  obtain ⟨w1, hw1⟩ : ∃ w1, w1 = W.alloc (.cells #[.int .i64 7, .int .i64 gid, .int .i64 hol, .string ⟨path.toArray⟩, .int .i64 mode, .slice A st.length c, .int .i64 term, .int .i64 id, .slice A2 stamp.length c2, .int .i64 next, .int .i64 boots, .int .i64 longest] 32) := ⟨_, rfl⟩
  have HR1 := Lib.hid (show Bk w1 W.heap.size 32 [.int .i64 7, .int .i64 gid, .int .i64 hol, .string ⟨path.toArray⟩, .int .i64 mode, .slice A st.length c, .int .i64 term, .int .i64 id, .slice A2 stamp.length c2, .int .i64 next, .int .i64 boots, .int .i64 longest] by rw [hw1]; exact Bk.new' rfl rfl)
  have HK1 := Lib.hid (show Kp No W w1 by rw [hw1]; exact (Kp.refl No W).alloc _)
  have HB1 := Lib.hid (h.bk.no HK1.out)
  have pa := fun W2 (kk : Kp No w1 W2) => (at_any (.slice A3 l.length c3) l id W2 ((h.own.no (HK1.out.trans kk)).arg) (Nat.le_trans h.len (by omega)) h.sorted).mono fun e w' ⟨i, h1, h2, h3⟩ => (⟨i, h1, h2, kk.trans h3⟩ : ∃ i : Nat, e = Ending.returned (.tuple #[.int .i64 i, .bool (hasG (gsL l) id)]) ∧ AtG (gsL l) id i ∧ Kp No w1 w')
  have sk : ∀ W2, Kp No w1 W2 → W2.cell? ⟨g, 3, none⟩ = some (.slice A3 l.length c3) ∧ W2.cell? ⟨W.heap.size, 7, none⟩ = some (.int .i64 id) := fun W2 kk => ⟨(HB1.out.no kk).cell 3, (HR1.out.no kk).cell 7⟩
  have HW := Lib.hid hw1
  obtain ⟨th, hth⟩ : ∃ th, th = hasG (gsL l) id := ⟨_, rfl⟩
  rw [← hth] at pa
  have HTH := Lib.hid hth
  clear hth hgv hrv hr hlim h hQ hw1
  simp only [rC]
  go_enter Try.func35, Try.ntmps35
  go_upto_region 1 with (fail)
  rw [← HW.out]
  clear HW
  first | (go_region_held3 (fun W2 => W2.cell? ⟨g, 3, none⟩ = some (.slice A3 l.length c3) ∧ W2.cell? ⟨W.heap.size, 7, none⟩ = some (.int .i64 id)) (first | (go_keep; done) | exact sk _ (by with_reducible repeat (first | assumption | exact Kp.refl _ _ | refine Kp.drew ?_ | refine Kp.drewN ?_ _)))
    (first | (go_at_call 71; (with_reducible refine (pa _ (by with_reducible repeat (first | assumption | exact Kp.refl _ _ | refine Kp.drew ?_ | refine Kp.drewN ?_ _))).mono ?_); rintro e w6 ⟨i, rfl, hat, k6⟩))) | fail
  all_goals
    have HAT := Lib.hid hat; have HK6 := Lib.hid k6
    have HB6 := Lib.hid (HB1.out.no k6); have HR6 := Lib.hid (HR1.out.no k6)
    clear hat k6 pa sk HB1 HR1
    have z0 : w6.cell? ⟨W.heap.size, 0, none⟩ = some (.int .i64 7) := HR6.out.cell 0
    have y1 : w6.cell? ⟨g, 1, none⟩ = some (.int .i64 k) := HB6.out.cell 1
    have f1 := HB6.out.frozen 1
    have hw : IntKind.i64.wrap (k + 1) = k + 1 := by
      obtain ⟨_, _, h1, h2⟩ := HH.out.heads
      rw [IntKind.wrap_i64]; omega
    go_wp2
    rw [HQ.out]
    refine ⟨((HK1.out.trans HK6.out).from_).set (g := g) (.inl HH.out.ge) 1 _, .inr ⟨_, .slice A3 l.length c3, l, rfl, rfl, rfl, HB6.out.set_ 1 _, ?_⟩⟩
    have ho := HH.out.own.no (HK1.out.trans HK6.out)
    have kk : Kp (One g) w6 (w6.setCell ⟨g, 1, none⟩ (.int .i64 (k + 1))) := (Kp.refl (One g) w6).set (.inl (One.self g)) 1 _
    exact ho.far kk HB6.out (by decide) (by decide)
end Go.Proofs.Ytifdceofglocdaa

/- A record more: book.Apply by contract. No condition beyond what each theorem states. -/
namespace Go.Proofs.Ytifdceofglocdaa
open Go Go.RowKit Go.PlainAid

theorem mayR_kind {r : Rcd} (h : mayR r) : r.kind = 1 ∨ r.kind = 2 ∨ r.kind = 3 ∨ r.kind = 4 ∨ r.kind = 5 ∨ r.kind = 6 ∨ r.kind = 7 := Classical.byContradiction fun hn => mayR_0 hn h
theorem change_any (B g : Nat) (n k t : Int) (sv : Value) (l : List GP) (r : Rcd) (gv rv : Value) (W : World) (h : ChgH B g n k t sv l W) (hgv : ∀ W2, Kp (From B) W W2 → ArgInts W2 gv r.grant.stamp) (hrv : ∀ W2, Kp (From B) W W2 → ArgInts W2 rv r.stamp) (hr : mayR r) (hlim : limitB (bk n k t l) r.kind = 0) :
    Calls Try.prog 35 #[.pointer (some ⟨g, 0, none⟩), .agg (rC r gv rv).toArray] W (ChgR B g (bk n k t l) r W) := by
  rcases mayR_kind hr with e | e | e | e | e | e | e
  · exact change_1 B g n k t sv l r gv rv W h hgv hrv hr hlim e
  · exact change_2 B g n k t sv l r gv rv W h hgv hrv hr hlim e
  · exact change_3 B g n k t sv l r gv rv W h hgv hrv hr hlim e
  · exact change_4 B g n k t sv l r gv rv W h hgv hrv hr hlim e
  · exact change_5 B g n k t sv l r gv rv W h hgv hrv hr hlim e
  · exact change_6 B g n k t sv l r gv rv W h hgv hrv hr hlim e
  · exact change_7 B g n k t sv l r gv rv W h hgv hrv hr hlim e
theorem ArgInts.old {W w' : World} {v : Value} {L : List Int} (h : ArgInts W v L) (hk : Kp (From W.heap.size) W w') : ArgInts w' v L := by
  obtain ⟨A, c, e, hc, h⟩ := h
  refine ⟨A, c, e, hc, fun hx => ?_⟩
  obtain ⟨g, o, e1, hr⟩ := h hx
  refine ⟨g, o, e1, range_kp hr hk fun m => ?_⟩
  have m : W.heap.size ≤ g := m
  cases L with
  | nil => exact hx rfl
  | cons a L =>
    have := World.block_lt_of_cell? W _ (hr 0 _ rfl)
    have h2 : g < W.heap.size := this
    omega
theorem wpList_load_mid_g {P : Program} {ops : Array Oper} {rest : List Oper} {op : Oper} {a : Act} {w : World} {Q : Exit → Act → World → Prop} (hw : Region.wanted op (yielded ops a.tmps) = true) (ty : TypeId) (x : Operand) (ho : op.op = .load ty x)
    (b o : Nat) (hx : a.eval x = .pointer (some ⟨b, o, none⟩)) (cs : List Value) (d : TypeDesc) (hc : w.rangeAt b o cs)
    (hu : P.underlying ty = some d) (hd : d.isRow = true) (hi : (P.info? ty).map (·.size) = some cs.length)
    (h : wpList P ops Q rest (a.put op.dst (.agg cs.toArray)) w) : wpList P ops Q (op :: rest) a w :=
  wpList_step fun K hK => by
    rw [if_pos hw]
    exact wp_load_mid ty x ho b o hx cs d hc hu hd hi (hK _ _ h)
theorem bk_range {w : World} {g : Nat} {t : TypeId} {cs : List Value} (h : Bk w g t cs) : w.rangeAt g 0 cs := fun j v hv => by rw [h.cell, Nat.zero_add]; exact hv
/-- what Apply answers -/
def ApplyR (b : Bok) (r : Rcd) (W : World) (e : Ending) (w' : World) : Prop :=
  ∃ sv l, e = .returned (.tuple #[.agg #[.int .i64 (applyB b r).1.next, .int .i64 (applyB b r).1.boots, .int .i64 (applyB b r).1.longest, sv], .int .i64 (applyB b r).2]) ∧ gsL l = (applyB b r).1.grants ∧ OwnG w' W.heap.size sv l ∧ Kp No W w'
theorem apply_bad {b : Bok} {r : Rcd} (h : ¬ (validB b ∧ mayR r)) : applyB b r = ({}, 43) := by unfold applyB; rw [if_pos h]
theorem apply_lim {b : Bok} {r : Rcd} (h : validB b ∧ mayR r) (h2 : limitB b r.kind ≠ 0) : applyB b r = ({}, limitB b r.kind) := by unfold applyB; rw [if_neg (fun e => e h), if_pos h2]
theorem apply_none {b : Bok} {r : Rcd} (h : validB b ∧ mayR r) (h2 : limitB b r.kind = 0) (h3 : changeB b r = none) : applyB b r = ({}, 43) := by unfold applyB; rw [if_neg (fun e => e h), if_neg (fun e => e h2), h3]
theorem apply_some {b c : Bok} {r : Rcd} (h : validB b ∧ mayR r) (h2 : limitB b r.kind = 0) (h3 : changeB b r = some c) : applyB b r = (c, 0) := by unfold applyB; rw [if_neg (fun e => e h), if_neg (fun e => e h2), h3]

set_option maxRecDepth 100000 in
set_option maxHeartbeats 8000000 in
theorem apply_any (n k t : Int) (v : Value) (l : List GP) (r : Rcd) (gv rv : Value) (W : World) (hv : ArgG W v l) (hl : ShL maxLen l) (hgv : ArgInts W gv r.grant.stamp) (hrv : ArgInts W rv r.stamp) (lg : ShG maxLen r.grant) (ls : r.stamp.length ≤ maxLen) :
    Calls Try.prog 12 #[.agg #[.int .i64 n, .int .i64 k, .int .i64 t, v], .agg (rC r gv rv).toArray] W (ApplyR (bk n k t l) r W) := by
  obtain ⟨A0, c0, rfl, _⟩ := hv.len
  obtain ⟨Q, hQ⟩ : ∃ Q : Ending → World → Prop, Q = ApplyR (bk n k t l) r W := ⟨_, rfl⟩
  rw [← hQ]
  have HQ := Lib.hid hQ; clear hQ
  obtain ⟨C, hC⟩ : ∃ C, C = rC r gv rv := ⟨_, rfl⟩
  obtain ⟨w1, hw1⟩ : ∃ w1, w1 = ((W.alloc (.cells #[.int .i64 n, .int .i64 k, .int .i64 t, .slice A0 l.length c0] 25)).alloc (.cells C.toArray 32)).alloc (.cells #[.int .i64 0, .int .i64 0, .int .i64 0, .slice none 0 0] 25) := ⟨_, rfl⟩
  have HK1 := Lib.hid (show Kp No W w1 by rw [hw1]; exact (((Kp.refl No W).alloc _).alloc _).alloc _)
  have HB1 := Lib.hid (show Bk w1 W.heap.size 25 [.int .i64 n, .int .i64 k, .int .i64 t, .slice A0 l.length c0] by rw [hw1]; exact ((Bk.new' rfl rfl).alloc _).alloc _)
  have HR1 := Lib.hid (show Bk w1 (W.heap.size + 1) 32 C by rw [hw1]; exact (Bk.new' (by simp) rfl).alloc _)
  have HZ1 := Lib.hid (show Bk w1 (W.heap.size + 1 + 1) 25 [.int .i64 0, .int .i64 0, .int .i64 0, .slice none 0 0] by rw [hw1]; exact Bk.new' (by simp) rfl)
  have pv := fun W2 (kk : Kp No w1 W2) => (bvalid_any n k t (.slice A0 l.length c0) l W2 (hv.no (HK1.out.trans kk)) hl).mono fun e w' ⟨h1, h3⟩ => (⟨h1, kk.trans h3⟩ : e = Ending.returned (.bool (decide (validB (bk n k t l)))) ∧ Kp No w1 w')
  have pr := fun W2 (kk : Kp No w1 W2) => (mayRec_any r gv rv W2 (hgv.no (HK1.out.trans kk)) (hrv.no (HK1.out.trans kk)) lg ls).mono fun e w' ⟨h1, h3⟩ => (⟨h1, kk.trans h3⟩ : e = Ending.returned (.bool (decide (mayR r))) ∧ Kp No w1 w')
  rw [← hC] at pr
  have HV := Lib.hid hv; have HGV := Lib.hid hgv; have HRV := Lib.hid hrv
  have HC := Lib.hid hC; have HW := Lib.hid hw1
  have hck : C[0]? = some (.int .i64 r.kind) := by rw [hC]; rfl
  have hcl : C.length = 12 := by rw [hC]; rfl
  have HCK := Lib.hid hck; have HCL := Lib.hid hcl
  have HL := Lib.hid hl.2
  obtain ⟨A1, c1, hg1, _⟩ : ∃ A c, gv = .slice A r.grant.stamp.length c ∧ r.grant.stamp.length ≤ c := by obtain ⟨A, c, e, hc, _⟩ := hgv; exact ⟨A, c, e, hc⟩
  obtain ⟨A2, c2, hr1, _⟩ : ∃ A c, rv = .slice A r.stamp.length c ∧ r.stamp.length ≤ c := by obtain ⟨A, c, e, hc, _⟩ := hrv; exact ⟨A, c, e, hc⟩
  have HC1 := Lib.hid (show ∀ u ∈ C, u.oneCell' = true by
    rw [hC, hg1, hr1]; unfold rC
    intro u hu
    simp only [List.mem_cons, List.not_mem_nil, or_false] at hu
    rcases hu with rfl | rfl | rfl | rfl | rfl | rfl | rfl | rfl | rfl | rfl | rfl | rfl <;> rfl)
  have hi : (Try.prog.info? 32).map (·.size) = some C.length := by rw [hcl]; kernel_rfl
  have HI := Lib.hid hi
  have hu := Try.underlying32
  have HU := Lib.hid hu
  clear hv hgv hrv hl lg ls hck hcl hi hu hw1 hg1 hr1
  rw [← HC.out]
  clear hC
  go_enter Try.func12, Try.ntmps12
  go_upto_region 1 with (fail)
  rw [← HW.out]
  clear HW
  have y0 : w1.cell? ⟨W.heap.size, 0, none⟩ = some (.int .i64 n) := HB1.out.cell 0; have y1 : w1.cell? ⟨W.heap.size, 1, none⟩ = some (.int .i64 k) := HB1.out.cell 1; have y2 : w1.cell? ⟨W.heap.size, 2, none⟩ = some (.int .i64 t) := HB1.out.cell 2; have y3 : w1.cell? ⟨W.heap.size, 3, none⟩ = some (.slice A0 l.length c0) := HB1.out.cell 3
  go_wp2_with fail
  refine (pv _ (Kp.refl _ _)).mono ?_
  rintro e w2 ⟨rfl, k2⟩
  have HK2 := Lib.hid k2; have HZ2 := Lib.hid (HZ1.out.no k2); have HB2 := Lib.hid (HB1.out.no k2); have HR2 := Lib.hid (HR1.out.no k2)
  clear k2 pv y0 y1 y2 y3
  by_cases hval : validB (bk n k t l)
  case neg =>
    have HN := Lib.hid hval
    rw [decide_eq_false hval]
    clear hval pr
    have u0 : w2.cell? ⟨W.heap.size + 1 + 1, 0, none⟩ = some (.int .i64 0) := HZ2.out.cell 0
    have u1 : w2.cell? ⟨W.heap.size + 1 + 1, 1, none⟩ = some (.int .i64 0) := HZ2.out.cell 1
    have u2 : w2.cell? ⟨W.heap.size + 1 + 1, 2, none⟩ = some (.int .i64 0) := HZ2.out.cell 2
    have u3 : w2.cell? ⟨W.heap.size + 1 + 1, 3, none⟩ = some (.slice none 0 0) := HZ2.out.cell 3
    have f0 := HZ2.out.frozen 0; have f1 := HZ2.out.frozen 1; have f2 := HZ2.out.frozen 2; have f3 := HZ2.out.frozen 3
    go_wp2
    have B9 := (((HZ2.out.set_ 0 (.int .i64 0)).set_ 1 (.int .i64 0)).set_ 2 (.int .i64 0)).set_ 3 (.slice none 0 0)
    have K9 : Kp (One (W.heap.size + 1 + 1)) w2 _ := ((((Kp.refl (One (W.heap.size + 1 + 1)) w2).set (.inl (One.self _)) 0 (.int .i64 0)).set (.inl (One.self _)) 1 (.int .i64 0)).set (.inl (One.self _)) 2 (.int .i64 0)).set (.inl (One.self _)) 3 (.slice none 0 0)
    generalize hw9 : World.setCell _ ⟨W.heap.size + 1 + 1, 3, none⟩ _ = w9 at B9 K9 ⊢
    have x0 := B9.cell 0; have x1 := B9.cell 1; have x2 := B9.cell 2; have x3 := B9.cell 3
    simp only [List.set_cons_zero, List.set_cons_succ, List.getElem?_cons_zero, List.getElem?_cons_succ] at x0 x1 x2 x3
    have HKF := Lib.hid (show Kp No W w9 from (HK1.out.trans HK2.out).then_ K9 fun j hj e => by have : j = W.heap.size + 1 + 1 := e; omega)
    have HF := Lib.hid (show Q (.returned (.tuple #[.agg #[.int .i64 0, .int .i64 0, .int .i64 0, .slice none 0 0], .int .i64 43])) w9 by
      rw [HQ.out]
      have e := apply_bad (b := bk n k t l) (r := r) (fun e => HN.out e.1)
      refine ⟨.slice none 0 0, [], by rw [e], by rw [e]; rfl, OwnG.nil _ _, HKF.out⟩)
    refine bodyPost_ret (v := .tuple #[.agg #[.int .i64 0, .int .i64 0, .int .i64 0, .slice none 0 0], .int .i64 43]) (by simp [results, Try.results12, go_sem, x0, x1, x2, x3]) rfl ?_
    exact HF.out
  have HVAL := Lib.hid hval
  rw [decide_eq_true hval]
  clear hval
  go_wp2_with (refine wpList_load_mid_g (by rfl) _ _ rfl (W.heap.size + 1) 0 rfl C _ (bk_range HR2.out) HU.out rfl HI.out ?_)
  refine (pr _ HK2.out).mono ?_
  rintro e w3 ⟨rfl, k3⟩
  have HK3 := Lib.hid k3; have HZ3 := Lib.hid (HZ1.out.no k3); have HB3 := Lib.hid (HB1.out.no k3); have HR3 := Lib.hid (HR1.out.no k3)
  clear k3 pr
  by_cases hmay : mayR r
  case neg =>
    have HN := Lib.hid hmay
    rw [decide_eq_false hmay]
    clear hmay
    have u0 : w3.cell? ⟨W.heap.size + 1 + 1, 0, none⟩ = some (.int .i64 0) := HZ3.out.cell 0
    have u1 : w3.cell? ⟨W.heap.size + 1 + 1, 1, none⟩ = some (.int .i64 0) := HZ3.out.cell 1
    have u2 : w3.cell? ⟨W.heap.size + 1 + 1, 2, none⟩ = some (.int .i64 0) := HZ3.out.cell 2
    have u3 : w3.cell? ⟨W.heap.size + 1 + 1, 3, none⟩ = some (.slice none 0 0) := HZ3.out.cell 3
    have f0 := HZ3.out.frozen 0; have f1 := HZ3.out.frozen 1; have f2 := HZ3.out.frozen 2; have f3 := HZ3.out.frozen 3
    go_wp2
    have B9 := (((HZ3.out.set_ 0 (.int .i64 0)).set_ 1 (.int .i64 0)).set_ 2 (.int .i64 0)).set_ 3 (.slice none 0 0)
    have K9 : Kp (One (W.heap.size + 1 + 1)) w3 _ := ((((Kp.refl (One (W.heap.size + 1 + 1)) w3).set (.inl (One.self _)) 0 (.int .i64 0)).set (.inl (One.self _)) 1 (.int .i64 0)).set (.inl (One.self _)) 2 (.int .i64 0)).set (.inl (One.self _)) 3 (.slice none 0 0)
    generalize hw9 : World.setCell _ ⟨W.heap.size + 1 + 1, 3, none⟩ _ = w9 at B9 K9 ⊢
    have x0 := B9.cell 0; have x1 := B9.cell 1; have x2 := B9.cell 2; have x3 := B9.cell 3
    simp only [List.set_cons_zero, List.set_cons_succ, List.getElem?_cons_zero, List.getElem?_cons_succ] at x0 x1 x2 x3
    have HKF := Lib.hid (show Kp No W w9 from (HK1.out.trans HK3.out).then_ K9 fun j hj e => by have : j = W.heap.size + 1 + 1 := e; omega)
    have HF := Lib.hid (show Q (.returned (.tuple #[.agg #[.int .i64 0, .int .i64 0, .int .i64 0, .slice none 0 0], .int .i64 43])) w9 by
      rw [HQ.out]
      have e := apply_bad (b := bk n k t l) (r := r) (fun e => HN.out e.2)
      refine ⟨.slice none 0 0, [], by rw [e], by rw [e]; rfl, OwnG.nil _ _, HKF.out⟩)
    refine bodyPost_ret (v := .tuple #[.agg #[.int .i64 0, .int .i64 0, .int .i64 0, .slice none 0 0], .int .i64 43]) (by simp [results, Try.results12, go_sem, x0, x1, x2, x3]) rfl ?_
    exact HF.out
  have HMAY := Lib.hid hmay
  rw [decide_eq_true hmay]
  clear hmay
  have x0 : w3.cell? ⟨W.heap.size, 0, none⟩ = some (.int .i64 n) := HB3.out.cell 0; have x1 : w3.cell? ⟨W.heap.size, 1, none⟩ = some (.int .i64 k) := HB3.out.cell 1; have x2 : w3.cell? ⟨W.heap.size, 2, none⟩ = some (.int .i64 t) := HB3.out.cell 2; have x3 : w3.cell? ⟨W.heap.size, 3, none⟩ = some (.slice A0 l.length c0) := HB3.out.cell 3
  have z0 : w3.cell? ⟨W.heap.size + 1, 0, none⟩ = some (.int .i64 r.kind) := by rw [HR3.out.cell]; exact HCK.out
  go_wp2_with fail
  refine (limits_any n k t r.kind A0 c0 l w3).mono ?_
  rintro e w4 ⟨rfl, k4⟩
  have HK4 := Lib.hid (HK3.out.trans k4); have HZ4 := Lib.hid (HZ3.out.no k4); have HB4 := Lib.hid (HB3.out.no k4); have HR4 := Lib.hid (HR3.out.no k4)
  clear k4 x0 x1 x2 x3 z0
  obtain ⟨lim, hlim⟩ : ∃ lim, lim = limitB (bk n k t l) r.kind := ⟨_, rfl⟩
  rw [← hlim]
  have HLIM := Lib.hid hlim; clear hlim
  by_cases h0 : lim = 0
  case neg =>
    have HN := Lib.hid h0
    have d : (lim != 0) = true := by rw [bne_iff_ne]; exact h0
    clear h0
    have u0 : w4.cell? ⟨W.heap.size + 1 + 1, 0, none⟩ = some (.int .i64 0) := HZ4.out.cell 0
    have u1 : w4.cell? ⟨W.heap.size + 1 + 1, 1, none⟩ = some (.int .i64 0) := HZ4.out.cell 1
    have u2 : w4.cell? ⟨W.heap.size + 1 + 1, 2, none⟩ = some (.int .i64 0) := HZ4.out.cell 2
    have u3 : w4.cell? ⟨W.heap.size + 1 + 1, 3, none⟩ = some (.slice none 0 0) := HZ4.out.cell 3
    have f0 := HZ4.out.frozen 0; have f1 := HZ4.out.frozen 1; have f2 := HZ4.out.frozen 2; have f3 := HZ4.out.frozen 3
    go_wp2
    have B9 := (((HZ4.out.set_ 0 (.int .i64 0)).set_ 1 (.int .i64 0)).set_ 2 (.int .i64 0)).set_ 3 (.slice none 0 0)
    have K9 : Kp (One (W.heap.size + 1 + 1)) w4 _ := ((((Kp.refl (One (W.heap.size + 1 + 1)) w4).set (.inl (One.self _)) 0 (.int .i64 0)).set (.inl (One.self _)) 1 (.int .i64 0)).set (.inl (One.self _)) 2 (.int .i64 0)).set (.inl (One.self _)) 3 (.slice none 0 0)
    generalize hw9 : World.setCell _ ⟨W.heap.size + 1 + 1, 3, none⟩ _ = w9 at B9 K9 ⊢
    have x0 := B9.cell 0; have x1 := B9.cell 1; have x2 := B9.cell 2; have x3 := B9.cell 3
    simp only [List.set_cons_zero, List.set_cons_succ, List.getElem?_cons_zero, List.getElem?_cons_succ] at x0 x1 x2 x3
    have HKF := Lib.hid (show Kp No W w9 from (HK1.out.trans HK4.out).then_ K9 fun j hj e => by have : j = W.heap.size + 1 + 1 := e; omega)
    have HF := Lib.hid (show Q (.returned (.tuple #[.agg #[.int .i64 0, .int .i64 0, .int .i64 0, .slice none 0 0], .int .i64 lim])) w9 by
      rw [HQ.out]
      have e := apply_lim ⟨HVAL.out, HMAY.out⟩ (by rw [← HLIM.out]; exact HN.out)
      refine ⟨.slice none 0 0, [], by rw [e, ← HLIM.out], by rw [e]; rfl, OwnG.nil _ _, HKF.out⟩)
    refine bodyPost_ret (v := .tuple #[.agg #[.int .i64 0, .int .i64 0, .int .i64 0, .slice none 0 0], .int .i64 lim]) (by simp [results, Try.results12, go_sem, x0, x1, x2, x3]) rfl ?_
    exact HF.out
  subst h0
  have q0 : w4.cell? ⟨W.heap.size, 0, none⟩ = some (.int .i64 n) := HB4.out.cell 0; have q1 : w4.cell? ⟨W.heap.size, 1, none⟩ = some (.int .i64 k) := HB4.out.cell 1; have q2 : w4.cell? ⟨W.heap.size, 2, none⟩ = some (.int .i64 t) := HB4.out.cell 2; have q3 : w4.cell? ⟨W.heap.size, 3, none⟩ = some (.slice A0 l.length c0) := HB4.out.cell 3
  have hval := HVAL.out
  have hlen : l.length ≤ 6 := ((valid_bk n k t l).1 hval).2.2.1
  have hst : ∀ p ∈ l, p.1.stamp ≠ [] ∧ p.1.stamp.length ≤ 17592186044416 := fun p hp => by
    have := mayG_sh (((valid_bk n k t l).1 hval).2.2.2.1 p.1 (List.mem_map.2 ⟨p, hp, rfl⟩)).1
    exact ⟨this.2.2, by omega⟩
  have pcp := copied_any n k t (.slice A0 l.length c0) l w4 (HV.out.no (HK1.out.trans HK4.out)) (by omega) hst
  clear hval hlen hst
  go_wp2_with fail
  refine pcp.mono ?_
  rintro e w5 ⟨sv, l5, rfl, hl5, ho5, k5⟩
  obtain ⟨A5, c5, rfl, _⟩ := own_len ho5.1
  have HL5 := Lib.hid hl5; have HO5 := Lib.hid ho5; have HK5 := Lib.hid (HK4.out.trans k5); have HZ5 := Lib.hid (HZ4.out.no k5); have HR5 := Lib.hid (HR4.out.no k5)
  have HS5 := Lib.hid k5.size
  clear pcp hl5 ho5 k5 q0 q1 q2 q3
  obtain ⟨w6, hw6⟩ : ∃ w6, w6 = w5.alloc (.cells #[.int .i64 n, .int .i64 k, .int .i64 t, .slice A5 l5.length c5] 25) := ⟨_, rfl⟩
  have k6 : Kp No w5 w6 := by rw [hw6]; exact (Kp.refl No w5).alloc _
  have HG6 := Lib.hid (show Bk w6 w5.heap.size 25 [.int .i64 n, .int .i64 k, .int .i64 t, .slice A5 l5.length c5] by rw [hw6]; exact Bk.new' rfl rfl)
  have HK6 := Lib.hid (HK5.out.trans k6); have HZ6 := Lib.hid (HZ5.out.no k6); have HR6 := Lib.hid (HR5.out.no k6); have HO6 := Lib.hid (HO5.out.no k6)
  have HS6 := Lib.hid (show w4.heap.size ≤ w6.heap.size from Nat.le_trans HS5.out k6.size)
  have HW6 := Lib.hid hw6
  have e5 : bk n k t l5 = bk n k t l := by unfold bk; rw [HL5.out]
  have hold : ∀ W2 : World, Kp (From w4.heap.size) w6 W2 → Kp (From W.heap.size) W W2 := fun W2 kk => ((HK1.out.trans HK6.out).of_no).trans (kk.mono fun j _ m => Nat.le_trans (Nat.le_trans HK1.out.size HK4.out.size) m)
  have pch := change_any w4.heap.size w5.heap.size n k t (.slice A5 l5.length c5) l5 r gv rv w6 ⟨HG6.out, HS5.out, HO6.out, HS6.out, by rw [e5]; exact HVAL.out⟩ (fun W2 kk => HGV.out.old (hold W2 kk)) (fun W2 kk => HRV.out.old (hold W2 kk)) HMAY.out (by rw [e5]; exact HLIM.out.symm)
  rw [← HC.out, e5] at pch
  clear k6 hw6 e5 hold
  go_upto_region 7 with (fail)
  rw [← HW6.out]
  clear HW6
  go_wp2_with (with_reducible refine wpList_load_mid rfl _ _ rfl (W.heap.size + 1) 0 rfl C _ (bk_range HR6.out) HU.out rfl HI.out ?_)
  refine pch.mono ?_
  rintro e w7 ⟨k7, h7⟩
  have hz7 : W.heap.size + 1 + 1 < w4.heap.size := HZ4.out.lt
  have HZ7 := Lib.hid (HZ6.out.kp k7 (fun m => by have m : w4.heap.size ≤ W.heap.size + 1 + 1 := m; omega))
  have HK7 := Lib.hid (show Kp No W w7 from (HK1.out.trans HK6.out).then_ k7 fun j hj m => by
    have m : w4.heap.size ≤ j := m
    have := HK1.out.size; have := HK4.out.size; omega)
  clear pch k7 hz7
  rcases h7 with ⟨h7, rfl⟩ | ⟨c, sv7, l7, h7, rfl, hl7, hb7, ho7⟩
  · have HN := Lib.hid h7
    clear h7
    have u0 : w7.cell? ⟨W.heap.size + 1 + 1, 0, none⟩ = some (.int .i64 0) := HZ7.out.cell 0
    have u1 : w7.cell? ⟨W.heap.size + 1 + 1, 1, none⟩ = some (.int .i64 0) := HZ7.out.cell 1
    have u2 : w7.cell? ⟨W.heap.size + 1 + 1, 2, none⟩ = some (.int .i64 0) := HZ7.out.cell 2
    have u3 : w7.cell? ⟨W.heap.size + 1 + 1, 3, none⟩ = some (.slice none 0 0) := HZ7.out.cell 3
    have f0 := HZ7.out.frozen 0; have f1 := HZ7.out.frozen 1; have f2 := HZ7.out.frozen 2; have f3 := HZ7.out.frozen 3
    go_wp2
    have B9 := (((HZ7.out.set_ 0 (.int .i64 0)).set_ 1 (.int .i64 0)).set_ 2 (.int .i64 0)).set_ 3 (.slice none 0 0)
    have K9 : Kp (One (W.heap.size + 1 + 1)) w7 _ := ((((Kp.refl (One (W.heap.size + 1 + 1)) w7).set (.inl (One.self _)) 0 (.int .i64 0)).set (.inl (One.self _)) 1 (.int .i64 0)).set (.inl (One.self _)) 2 (.int .i64 0)).set (.inl (One.self _)) 3 (.slice none 0 0)
    generalize hw9 : World.setCell _ ⟨W.heap.size + 1 + 1, 3, none⟩ _ = w9 at B9 K9 ⊢
    have x0 := B9.cell 0; have x1 := B9.cell 1; have x2 := B9.cell 2; have x3 := B9.cell 3
    simp only [List.set_cons_zero, List.set_cons_succ, List.getElem?_cons_zero, List.getElem?_cons_succ] at x0 x1 x2 x3
    have HKF := Lib.hid (show Kp No W w9 from HK7.out.then_ K9 fun j hj e => by have : j = W.heap.size + 1 + 1 := e; omega)
    have HF := Lib.hid (show Q (.returned (.tuple #[.agg #[.int .i64 0, .int .i64 0, .int .i64 0, .slice none 0 0], .int .i64 43])) w9 by
      rw [HQ.out]
      have e := apply_none ⟨HVAL.out, HMAY.out⟩ HLIM.out.symm HN.out
      refine ⟨.slice none 0 0, [], by rw [e], by rw [e]; rfl, OwnG.nil _ _, HKF.out⟩)
    refine bodyPost_ret (v := .tuple #[.agg #[.int .i64 0, .int .i64 0, .int .i64 0, .slice none 0 0], .int .i64 43]) (by simp [results, Try.results12, go_sem, x0, x1, x2, x3]) rfl ?_
    exact HF.out
  · have HCH := Lib.hid h7; have HL7 := Lib.hid hl7; have HO7 := Lib.hid ho7; have HB7 := Lib.hid hb7
    obtain ⟨A7, c7, rfl, _⟩ := own_len ho7.1
    have hne : w5.heap.size ≠ W.heap.size + 1 + 1 := by have := HZ5.out.lt; omega
    have x0 : w7.cell? ⟨w5.heap.size, 0, none⟩ = some (.int .i64 c.next) := hb7.cell 0
    have x1 : w7.cell? ⟨w5.heap.size, 1, none⟩ = some (.int .i64 c.boots) := hb7.cell 1
    have x2 : w7.cell? ⟨w5.heap.size, 2, none⟩ = some (.int .i64 c.longest) := hb7.cell 2
    have x3 : w7.cell? ⟨w5.heap.size, 3, none⟩ = some (.slice A7 l7.length c7) := hb7.cell 3
    have u0 : w7.cell? ⟨W.heap.size + 1 + 1, 0, none⟩ = some (.int .i64 0) := HZ7.out.cell 0
    have u1 : w7.cell? ⟨W.heap.size + 1 + 1, 1, none⟩ = some (.int .i64 0) := HZ7.out.cell 1
    have u2 : w7.cell? ⟨W.heap.size + 1 + 1, 2, none⟩ = some (.int .i64 0) := HZ7.out.cell 2
    have u3 : w7.cell? ⟨W.heap.size + 1 + 1, 3, none⟩ = some (.slice none 0 0) := HZ7.out.cell 3
    have f0 := HZ7.out.frozen 0; have f1 := HZ7.out.frozen 1; have f2 := HZ7.out.frozen 2; have f3 := HZ7.out.frozen 3
    clear h7 hl7 hb7 ho7
    go_wp2
    have B9 := (((HZ7.out.set_ 0 (.int .i64 c.next)).set_ 1 (.int .i64 c.boots)).set_ 2 (.int .i64 c.longest)).set_ 3 (.slice A7 l7.length c7)
    have K9 : Kp (One (W.heap.size + 1 + 1)) w7 _ := ((((Kp.refl (One (W.heap.size + 1 + 1)) w7).set (.inl (One.self _)) 0 (.int .i64 c.next)).set (.inl (One.self _)) 1 (.int .i64 c.boots)).set (.inl (One.self _)) 2 (.int .i64 c.longest)).set (.inl (One.self _)) 3 (.slice A7 l7.length c7)
    generalize hw9 : World.setCell _ ⟨W.heap.size + 1 + 1, 3, none⟩ _ = w9 at B9 K9 ⊢
    have p0 := B9.cell 0; have p1 := B9.cell 1; have p2 := B9.cell 2; have p3 := B9.cell 3
    simp only [List.set_cons_zero, List.set_cons_succ, List.getElem?_cons_zero, List.getElem?_cons_succ] at p0 p1 p2 p3
    have HKF := Lib.hid (show Kp No W w9 from HK7.out.then_ K9 fun j hj e => by have : j = W.heap.size + 1 + 1 := e; omega)
    have HF := Lib.hid (show Q (.returned (.tuple #[.agg #[.int .i64 c.next, .int .i64 c.boots, .int .i64 c.longest, .slice A7 l7.length c7], .int .i64 0])) w9 by
      rw [HQ.out]
      have e := apply_some ⟨HVAL.out, HMAY.out⟩ HLIM.out.symm HCH.out
      have o9 := (HO7.out.far K9 HZ7.out (by decide) (by decide)).mono (B' := W.heap.size) (Nat.le_trans HK1.out.size HK4.out.size)
      refine ⟨.slice A7 l7.length c7, l7, by rw [e], by rw [e]; exact HL7.out, o9, HKF.out⟩)
    refine bodyPost_ret (v := .tuple #[.agg #[.int .i64 c.next, .int .i64 c.boots, .int .i64 c.longest, .slice A7 l7.length c7], .int .i64 0]) (by simp [results, Try.results12, go_sem, p0, p1, p2, p3]) rfl ?_
    exact HF.out
end Go.Proofs.Ytifdceofglocdaa
