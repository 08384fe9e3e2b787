/- The evaluator is sound: what it answers the program does. No condition beyond what each theorem states. -/
import Derived.Test.YtccadcefhfdmgaaGreatDoorEvF
namespace Go.Proofs.YtccadcefhfdmgaaGreatDoor.Ev
open Go
section
variable {P : Program} {o : Oper} {cd : Operand → Bx Od}
theorem hasN_eq (n : Nat) : ∀ l : List Nat, hasN n l = l.contains n
  | [] => rfl
  | a :: l => by
    show cnd (Nat.beq a n) true (hasN n l) = _
    rw [hasN_eq n l, List.contains_cons]
    cases h : Nat.beq a n with
    | true => rw [cnd_t, beq_e h]; simp
    | false =>
      have := beq_ne h
      rw [cnd_f]
      have e : (n == a) = false := by rw [beq_eq_false_iff_ne]; exact fun h => this h.symm
      rw [e, Bool.false_or]
theorem leftE_eq (seen : List Nat) : ∀ es : List (AV × AV × Nat), leftE seen es = es.filter fun x => !seen.contains x.2.2
  | [] => rfl
  | x :: es => by
    show cnd (hasN x.2.2 seen) (leftE seen es) (x :: leftE seen es) = _
    rw [hasN_eq, leftE_eq seen es, List.filter_cons]
    cases seen.contains x.2.2 <;> rfl
theorem anyLt_t {c : Nat} : ∀ es : List (AV × AV × Nat), anyLt c es = true → ∃ x ∈ es, x.2.2 < c
  | [], h => by cases h
  | x :: es, h => by
    have h' : cnd (Nat.ble (Nat.succ x.2.2) c) true (anyLt c es) = true := h
    cases hb : Nat.ble (Nat.succ x.2.2) c with
    | true => exact ⟨x, List.mem_cons_self .., ble_le hb⟩
    | false =>
      rw [hb, cnd_f] at h'
      obtain ⟨y, hy, h2⟩ := anyLt_t es h'
      exact ⟨y, List.mem_cons_of_mem _ hy, h2⟩
theorem ok_next {x : Operand} (ho : o.op = .next x false) : ChgOk P o cd (cNxt (cd x).out) := by
  intro E R h w0 w e a ρ v h' inv rel hq
  rw [ho] at rel
  have rx := rel x (by simp [Op.operands])
  obtain ⟨i, k, hx, q1⟩ := onPtr_some hq
  obtain ⟨q2, q3⟩ := cnd_some q1
  have q2 := beq_e q2
  subst q2
  obtain ⟨mo, since, seen, stp, q4, q5⟩ := onIter_some q3
  rw [hx] at rx
  obtain ⟨rx, hi⟩ := rx.ptr
  obtain ⟨ho1, ho2, ho3⟩ := inv.obj i _ hi q4
  rw [ho3] at rx
  have fin : ∀ v' w', (Instr.next (ρ x) false o.type).run P w = .ok v' w' → (execOp ρ o).run P w = .ok (.value v') w' := by
    intro v' w' h1
    simp only [execOp, ho]
    exact run_v h1
  cases mo with
  | none =>
    have q5 : some (AV.agg true [.bool false], h) = some (v, h') := q5
    rw [Option.some.injEq, Prod.mk.injEq] at q5
    obtain ⟨rfl, rfl⟩ := q5
    refine ⟨_, w, E, R, fin (.tuple #[.bool false]) w ?_, .inr ⟨_, rfl, Rel.of (v := .agg true [.bool false]) ⟨trivial, trivial⟩⟩, inv, Step.refl E R h⟩
    have g1 : (getObj (E.blk i)).run P w = .ok (.mapIter none since seen.reverse.toArray stp) w := by simp [getObj, Sem.run, ho1]
    rw [rx, Instr.next]
    simp only
    rw [run_b g1]; rfl
  | some m =>
    obtain ⟨es, c, q6, q7⟩ := onMap_some (show onMap (h.get m) none _ = some (v, h') from q5)
    obtain ⟨q8, q9⟩ := cnd_some q7
    obtain ⟨hm1, hm2⟩ := inv.obj m _ (ho2 m rfl) q6
    have g1 : (getObj (E.blk i)).run P w = .ok (.mapIter (some (E.blk m)) since seen.reverse.toArray stp) w := by simp [getObj, Sem.run, ho1]
    have hno : ¬ ((!seen.reverse.toArray.isEmpty && !((es.map (concE E)).toArray).isEmpty && ((es.map (concE E)).toArray).all (fun e => decide (e.born ≥ stp))) = true) := by
      intro hh
      rw [Bool.and_eq_true, Bool.and_eq_true] at hh
      obtain ⟨⟨h1, h2⟩, h3⟩ := hh
      cases seen with
      | nil => simp at h1
      | cons s seen =>
        cases es with
        | nil => simp at h2
        | cons y es =>
          obtain ⟨z, hz, hlt⟩ := anyLt_t _ (show anyLt stp (y :: es) = true from q8)
          rw [List.all_toArray, List.all_eq_true] at h3
          have : stp ≤ z.2.2 := by simpa [concE] using h3 (concE E z) (List.mem_map_of_mem hz)
          omega
    have hfil : ((es.map (concE E)).toArray.filter fun e => !(seen.reverse.toArray).contains e.born) = ((leftE seen es).map (concE E)).toArray := by
      rw [leftE_eq, List.filter_toArray, List.filter_map]
      have e : es.filter ((fun e : MapEntry => !(seen.reverse.toArray).contains e.born) ∘ concE E) = es.filter fun x => !seen.contains x.2.2 := by
        refine List.filter_congr fun y _ => ?_
        simp [concE]
        exact decide_eq_decide.2 Iff.rfl
      rw [e]
    have cand : ∀ (cs : Array (Option MapEntry)) (k : Nat → Sem Value), cs.size = 1 → (choose (.mapNext cs.size) >>= k).run P w = (k 0).run P w := by
      intro cs k h
      rw [h, run_b (w' := w) (x := 0) (by rw [run_choose]; rfl)]
    have hover : leftE seen es = [] → (Instr.next (ρ x) false o.type).run P w = .ok (.tuple #[.bool false]) w := by
      intro hl
      rw [rx, Instr.next]
      simp only
      rw [run_b g1]
      simp only []
      rw [run_b (getObj_map hm1)]
      simp only []
      rw [if_neg hno, hfil, hl]
      simp only [List.map_nil, List.filter_toArray, List.filter_nil]
      rw [cand _ _ (by simp)]
      simp
    have hone : ∀ y, leftE seen es = [y] → y.2.2 < since → ∀ w', (setObj (E.blk i) (.mapIter (some (E.blk m)) since (seen.reverse.toArray.push y.2.2) c)).run P w = .ok () w' → (Instr.next (ρ x) false o.type).run P w = .ok (.tuple #[.bool true, conc E y.1, conc E y.2.1]) w' := by
      intro y hl hlt w' hs
      rw [rx, Instr.next]
      simp only
      rw [run_b g1]
      simp only []
      rw [run_b (getObj_map hm1)]
      simp only []
      rw [if_neg hno, hfil, hl]
      have f1 : (([y].map (concE E)).toArray.filter fun e => decide (e.born < since)) = #[concE E y] := by
        simp [concE, hlt]
      have f2 : (([y].map (concE E)).toArray.filter fun e => decide (e.born ≥ since)) = #[] := by
        simp [concE]; omega
      rw [f1, f2, cand _ _ (by simp)]
      simp only [List.isEmpty_toArray, List.isEmpty_cons, Bool.false_eq_true, if_false]
      have : ((#[] : Array (Option MapEntry)) ++ Array.map some (#[concE E y] ++ #[]))[0]? = some (some (concE E y)) := by simp
      rw [this]
      simp only [concE]
      rw [run_b hs]
      rfl
    cases hl : leftE seen es with
    | nil =>
      rw [hl] at q9
      have q9 : some (AV.agg true [.bool false], h) = some (v, h') := q9
      rw [Option.some.injEq, Prod.mk.injEq] at q9
      obtain ⟨rfl, rfl⟩ := q9
      exact ⟨_, w, E, R, fin _ w (hover hl), .inr ⟨_, rfl, Rel.of (v := .agg true [.bool false]) ⟨trivial, trivial⟩⟩, inv, Step.refl E R h⟩
    | cons y l =>
      cases l with
      | cons z l => rw [hl] at q9; cases q9
      | nil =>
        rw [hl] at q9
        obtain ⟨q10, q11⟩ := cnd_some (show cnd (Nat.ble (Nat.succ y.2.2) since) (some (AV.agg true [.bool true, y.1, y.2.1], h.set i (.iter (some m) since (y.2.2 :: seen) c))) none = some (v, h') from q9)
        rw [Option.some.injEq, Prod.mk.injEq] at q11
        obtain ⟨rfl, rfl⟩ := q11
        have hy : y ∈ es := by
          have : y ∈ leftE seen es := by rw [hl]; simp
          rw [leftE_eq] at this
          exact (List.mem_filter.1 this).1
        obtain ⟨w', s1, s2, s3⟩ := setObj_turn (P := P) (.mapIter (some (E.blk m)) since (seen.reverse.toArray.push y.2.2) c) ho1 (fun _ _ _ h => by cases h)
        refine ⟨_, w', E, R, fin _ w' (hone y hl (ble_le q10) w' s1), .inr ⟨_, rfl, Rel.of (v := .agg true [.bool true, y.1, y.2.1]) ⟨trivial, (hm2 y hy).1, (hm2 y hy).2.1, trivial⟩⟩, inv_put inv hi q4 s3 ⟨?_, ho2, ho3⟩, step_put _ hi⟩
        rw [s2]
        simp
end
end Go.Proofs.YtccadcefhfdmgaaGreatDoor.Ev
namespace Go.Proofs.YtccadcefhfdmgaaGreatDoor.Ev
open Go
section
variable {P : Program} {o : Oper} {cd : Operand → Bx Od}
theorem growBy_le (need : Nat) : ∀ (r c : Nat), c ≤ 2 * need + 192 → Builtin.growBy need r c ≤ 2 * need + 192
  | 0, c, h => h
  | r + 1, c, h => by
    rw [Builtin.growBy]
    split
    · exact h
    · exact growBy_le need r _ (by omega)
theorem next_le (need c : Nat) (h : c < need) : Builtin.nextslicecap need c ≤ 2 * need + 192 := by
  unfold Builtin.nextslicecap
  split
  · omega
  · split
    · omega
    · exact growBy_le need 4 c (by omega)
/-- the arguments of an append -/
structure AppArgs (P : Program) (c : Call) (t el u : TypeId) (i : TypeInfo) (z : AV) : Prop where
  ts : c.argTypes.toList = [t, u]
  sl : P.underlying t = some (.slice el)
  ud : ∃ d, P.underlying u = some d ∧ ∀ k, d ≠ .int k
  inf : P.info? el = some i
  zer : zeroT P el = some z
  len : z.cells.length = i.size
theorem app_head {c : Call} {t el u : TypeId} {i : TypeInfo} {z : AV} (ha : AppArgs P c t el u i z) {x : Value} {base : Option Addr} {sLen sCap n q : Nat} {w w' : World} {r : Value} {ty : TypeId} (hn : (Builtin.lenOf x).run P w = .ok n w)
    (hq : Question.cut (.appendCap (sLen + n) sCap el) (w.tape w.drawn (.appendCap (sLen + n) sCap el)) = q)
    (h1 : sLen + n ≤ sCap → (Builtin.firstCells i.size n x >>= fun new => match base with | some a => (do storeCells (a.add (sLen * i.size)) new.toList; pure (.slice base (sLen + n) sCap)) | none => pure (.slice base (sLen + n) sCap) : Sem Value).run P w = .ok r w')
    (h2 : ¬ sLen + n ≤ sCap → (sLen + n ≤ 1000000 ∧ (sLen + n) * i.bytes ≤ 1000000) ∧ (Builtin.firstCells i.size sLen (.slice base sLen sCap) >>= fun old =>
      Builtin.firstCells i.size n x >>= fun new => zeroValue el >>= fun zc => newRow el (old ++ new ++ Builtin.zeroCells zc.cells (q - (sLen + n))) >>= fun a =>
      pure (.slice (some a) (sLen + n) q) : Sem Value).run P w.drew = .ok r w') :
    (Builtin.append_ c.argTypes ty #[.slice base sLen sCap, x]).run P w = .ok r w' := by
  obtain ⟨d, hu, hd⟩ := ha.ud
  have a0 : c.argTypes[0]? = some t := arg0 ha.ts
  have a1 : c.argTypes[1]? = some u := by rw [← Array.getElem?_toList, ha.ts]; rfl
  have b0 : (#[.slice base sLen sCap, x] : Array Value)[0]? = some (.slice base sLen sCap) := rfl
  have b1 : (#[.slice base sLen sCap, x] : Array Value)[1]? = some x := rfl
  have hsz : (sizeOf el).run P w = .ok i.size w := by rw [sizeOf, run_b (run_I ha.inf)]; rfl
  have hz : (match d with | .int _ => true | _ => false) = false := by cases d <;> first | rfl | exact absurd rfl (hd _)
  rw [Builtin.append_, a0, a1, b0, b1]
  simp only []
  rw [run_b (run_U ha.sl)]
  simp only []
  rw [run_b hsz, run_b (run_U hu), run_b (Sem.run_pure P w _)]
  simp only [Bool.false_eq_true, if_false, Bool.not_false, if_true, false_or]
  rw [run_b hn]
  by_cases hc : sLen + n ≤ sCap
  · rw [if_pos hc]
    rw [← h1 hc]
    cases base <;> rfl
  · obtain ⟨⟨hb1, hb2⟩, h2⟩ := h2 hc
    have hbp : i.bytes ≤ 1000000 := by
      rcases Nat.eq_zero_or_pos (sLen + n) with h | h
      · omega
      · exact Nat.le_trans (Nat.le_mul_of_pos_left _ h) hb2
    rw [if_neg hc, run_b (run_I ha.inf)]
    have hmax : IntKind.i64.max = 9223372036854775807 := by decide
    rw [if_neg (by rw [hmax]; omega), run_b (run_I ha.inf)]
    have hnx := next_le (sLen + n) sCap (by omega)
    have hmul : Builtin.nextslicecap (sLen + n) sCap * i.bytes ≤ (2 * (sLen + n) + 192) * i.bytes := Nat.mul_le_mul_right _ hnx
    have hexp : (2 * (sLen + n) + 192) * i.bytes = 2 * ((sLen + n) * i.bytes) + 192 * i.bytes := by rw [Nat.add_mul, Nat.mul_assoc]
    rw [if_neg (by omega)]
    have c1 : (choose (.appendCap (sLen + n) sCap el)).run P w = .ok q w.drew := by
      rw [run_choose, ← hq]; rfl
    rw [run_b c1, run_b (run_I ha.inf), run_b (run_askRoom P w.drew _)]
    exact h2
end
end Go.Proofs.YtccadcefhfdmgaaGreatDoor.Ev
namespace Go.Proofs.YtccadcefhfdmgaaGreatDoor.Ev
open Go
section
variable {P : Program} {o : Oper} {cd : Operand → Bx Od}
theorem get_lt_max {h : H} {i : Nat} {ob : AO} (hg : h.get i = some ob) : i < 65536 := by
  rw [H.get_eq] at hg
  split at hg
  · assumption
  · cases hg
theorem step_new {E E' : Env} {R : Nat → Prop} {h : H} {w0 w : World} {ob : AO} (inv : Inv P E R h w0 w) (hag : ∀ j, j ≠ h.n → E.Agree E' j) : Step E R h E' (fun j => R j ∨ j = h.n) (h.new ob) := by
  refine ⟨by rw [new_n]; omega, fun i hi => hag i (by have := inv.dom i hi; omega), fun i hi => .inl hi, fun i hi hn => ⟨fun hc => ?_, ?_⟩⟩
  · rcases hc with hc | hc
    · exact hn hc
    · omega
  · rw [new_get, if_neg (by omega)]
theorem seq_new {E E' : Env} {R : Nat → Prop} {h : H} {w0 w w' : World} {x : Obj} {ob : AO} (inv : Inv P E R h w0 w) (hg : Grew w w' x) (hag : ∀ j, j ≠ h.n → E.Agree E' j) (hb : E'.blk h.n = w.heap.size) (hob : ObjOk P E' (fun j => R j ∨ j = h.n) h.n w' ob) :
    Inv P E' (fun j => R j ∨ j = h.n) (h.new ob) w0 w' := by
  refine inv_new inv (fun hc => Nat.lt_irrefl _ (inv.dom _ hc)) hg hag hb hob (by rw [new_n]; omega) (fun o ho => ?_) (fun j hj => ?_) (by rw [new_n]; omega) (fun i hi => ?_)
  · rw [new_get] at ho
    split at ho
    · injection ho with ho; exact ho.symm
    · rw [inv.top _ (Nat.le_refl _)] at ho; cases ho
  · have := inv.dom j hj
    rw [new_get, if_neg (by omega)]
  · rw [new_n] at hi
    rw [new_get, if_neg (by omega)]
    exact inv.top i (by omega)
theorem inv_del {E : Env} {R : Nat → Prop} {h : H} {w0 w : World} (inv : Inv P E R h w0 w) (i : Nat) : Inv P E R (h.del i) w0 w := by
  have hs : ∀ j p, (h.del i).get j = some p → h.get j = some p := by
    intro j p hp
    rw [H.del, put_get] at hp
    split at hp
    · cases hp
    · exact hp
  refine ⟨inv.dom, fun j hj => ?_, fun j p hj hp => inv.low j p hj (hs j p hp), fun j k p q hj hk hp hq he => inv.inj j k p q hj hk (hs j p hp) (hs k q hq) he, fun j p hj hp => inv.obj j p hj (hs j p hp), inv.bel⟩
  rw [H.del, put_get]
  split
  · rfl
  · exact inv.top j hj
theorem inv_move {E E' : Env} {R : Nat → Prop} {h : H} {w0 w w' : World} {i : Nat} {ob0 ob : AO} (inv : Inv P E R h w0 w) (hi : R i) (hg : h.get i = some ob0) (ht : Turn (E.blk i) w w') (hag : ∀ j, j ≠ h.n → E.Agree E' j) (hb : E'.blk h.n = E.blk i) (hob : ObjOk P E' (fun j => R j ∨ j = h.n) h.n w' ob) :
    Inv P E' (fun j => R j ∨ j = h.n) ((h.new ob).del i) w0 w' := by
  have hdi := inv.dom i hi
  have hag' : ∀ i, R i → E.Agree E' i := fun i hi => hag i (by have := inv.dom i hi; omega)
  have hs : ∀ j p, ((h.new ob).del i).get j = some p → j ≠ i ∧ ((j = h.n ∧ p = ob) ∨ (j ≠ h.n ∧ h.get j = some p)) := by
    intro j p hp
    rw [H.del, put_get] at hp
    split at hp
    · cases hp
    · rename_i hc
      have hji : j ≠ i := fun e => hc ⟨e, get_lt_max hg⟩
      refine ⟨hji, ?_⟩
      rw [new_get] at hp
      split at hp
      · rename_i hc2; injection hp with hp; exact .inl ⟨hc2.1, hp.symm⟩
      · by_cases e : j = h.n
        · subst e; rw [inv.top _ (Nat.le_refl _)] at hp; cases hp
        · exact .inr ⟨e, hp⟩
  have old : ∀ j p, R j → ((h.new ob).del i).get j = some p → j ≠ i ∧ h.get j = some p := by
    intro j p hj hp
    obtain ⟨h1, h2⟩ := hs j p hp
    rcases h2 with ⟨h2, _⟩ | ⟨_, h2⟩
    · have := inv.dom j hj; omega
    · exact ⟨h1, h2⟩
  refine ⟨fun j hj => ?_, fun j hj => ?_, fun j p hj hp => ?_, fun j k p q hj hk hp hq he => ?_, fun j p hj hp => ?_, ?_⟩
  · show j < (h.new ob).n
    rw [new_n]
    rcases hj with hj | rfl
    · have := inv.dom j hj; omega
    · omega
  · have hj : (h.new ob).n ≤ j := hj
    rw [new_n] at hj
    rw [H.del, put_get, if_neg (by omega), new_get, if_neg (by omega)]
    exact inv.top j (by omega)
  · rcases hj with hj | rfl
    · rw [(hag' j hj).blk]; exact inv.low j p hj (old j p hj hp).2
    · rw [hb]; exact inv.low i ob0 hi hg
  · rcases hj with hj | rfl <;> rcases hk with hk | rfl
    · rw [(hag' j hj).blk, (hag' k hk).blk] at he
      exact inv.inj j k p q hj hk (old j p hj hp).2 (old k q hk hq).2 he
    · rw [(hag' j hj).blk, hb] at he
      exact absurd (inv.inj j i p ob0 hj hi (old j p hj hp).2 hg he) (old j p hj hp).1
    · rw [(hag' k hk).blk, hb] at he
      exact absurd (inv.inj k i q ob0 hk hi (old k q hk hq).2 hg he.symm) (old k q hk hq).1
    · rfl
  · rcases hj with hj | rfl
    · obtain ⟨h1, h2⟩ := old j p hj hp
      exact objOk_step hag' (fun _ h => .inl h) hj (ht.rest _ fun e => h1 (inv.inj j i p ob0 hj hi h2 hg e)) (inv.obj j p hj h2)
    · rcases (hs h.n p hp).2 with ⟨_, h2⟩ | ⟨h2, _⟩
      · rw [h2]; exact hob
      · exact absurd rfl h2
  · exact inv.bel.trans ⟨ht.os, ht.tape, ht.output, by rw [ht.size]; exact Nat.le_refl _, fun k hk => ht.rest k fun e => by have := inv.low i ob0 hi hg; omega⟩
/-- a new row with room to spare -/
theorem grow_obj {E : Env} {R : Nat → Prop} {h : H} {w0 w : World} {l : List AV} {el : TypeId} {i : TypeInfo} {z : AV} {need q : Nat} (inv : Inv P E R h w0 w) (_hi : P.info? el = some i) (hz : zeroT P el = some z) (hn : z.cells.length = i.size) (hl : Ons R l) (h1 : oneL l = true) (_hlen : l.length = need * i.size) (hq : need ≤ q) :
    ∃ (w' : World) (E' : Env), (∀ zc, (zeroValue el).run P w.drew = .ok zc w.drew → (newRow el ((concs E l).toArray ++ Builtin.zeroCells zc.cells (q - need))).run P w.drew = .ok ⟨w.heap.size, 0, none⟩ w') ∧ (∀ j, j ≠ h.n → E.Agree E' j) ∧
      Rel E' (fun j => R j ∨ j = h.n) (.sl h.n 0 need need false) (.slice (some ⟨w.heap.size, 0, none⟩) need q) ∧ Inv P E' (fun j => R j ∨ j = h.n) (h.new (.cells (Row.ofList l) i.size)) w0 w' := by
  obtain ⟨z1, z2⟩ := run_zero (w := w.drew) E R hz
  have ag := upd_agree E h.n w.heap.size 0 (q - need) 0
  generalize hC : (concs E l).toArray ++ Builtin.zeroCells (conc E z).cells (q - need) = cs
  have hcs : cs.size = l.length + (q - need) * i.size := by
    rw [← hC, Array.size_append, Builtin.zeroCells, conc_cells]
    simp [concs_map, hn]
  have hg : Grew w (w.drew.alloc (.cells cs el)) (.cells cs el) := ⟨rfl, rfl, rfl, rfl⟩
  refine ⟨w.drew.alloc (.cells cs el), E.upd h.n w.heap.size 0 (q - need) 0, fun zc hzc => ?_, ag, fun _ => ⟨.inr rfl, ?_⟩, ?_⟩
  · rw [z1] at hzc
    injection hzc with hzc
    subst hzc
    rw [hC]; rfl
  · simp only [conc, Env.upd, if_true, Bool.false_eq_true, if_false, Nat.add_zero]
    congr 1; omega
  · refine seq_new inv hg ag (by simp [Env.upd]) (obj_new hg ag (fun hc => Nat.lt_irrefl _ (inv.dom _ hc)) (by simp [Env.upd]) (by simp [Env.upd]) (ofList_wf _) (by rw [ofList_len, hcs]; simp [Env.upd]) (by intro o _ h; omega) fun o v hv => ?_)
    obtain ⟨c1, c2, c3⟩ := list_cells (E := E) hl h1 o v hv
    refine ⟨c1, c2, ?_⟩
    have hlt := (Array.getElem?_eq_some_iff.1 c3).1
    rw [← hC, Array.getElem?_append_left hlt]; exact c3
end
end Go.Proofs.YtccadcefhfdmgaaGreatDoor.Ev
namespace Go.Proofs.YtccadcefhfdmgaaGreatDoor.Ev
open Go
section
variable {P : Program} {o : Oper} {cd : Operand → Bx Od}
theorem cut_ge (need sCap : Nat) (el : TypeId) (t : Nat) : need ≤ Question.cut (.appendCap need sCap el) t := by
  show need ≤ need + t % (2 ^ 63 - need); omega
theorem ons_app {R : Nat → Prop} {l m : List AV} (hl : Ons R l) (hm : Ons R m) : Ons R (l ++ m) := by
  rw [Ons_iff] at *
  intro v hv
  rcases List.mem_append.1 hv with hv | hv
  · exact hl v hv
  · exact hm v hv
theorem one_app {l m : List AV} (hl : oneL l = true) (hm : oneL m = true) : oneL (l ++ m) = true := by
  rw [oneL_iff] at *
  intro v hv
  rcases List.mem_append.1 hv with hv | hv
  · exact hl v hv
  · exact hm v hv
theorem concs_app (E : Env) (l m : List AV) : concs E (l ++ m) = concs E l ++ concs E m := by rw [concs_map, concs_map, concs_map, List.map_append]
theorem grow_some {h h' : H} {sz bytes need : Nat} {l : List AV} {v : AV} (hq : grow h sz bytes need l = some (v, h')) : (need ≤ 1000000 ∧ need * bytes ≤ 1000000) ∧ v = .sl h.n 0 need need false ∧ h' = h.new (.cells (Row.ofList l) sz) := by
  obtain ⟨h1, h2⟩ := cnd_some hq
  obtain ⟨h3, h4⟩ := cnd_and h1
  rw [Option.some.injEq, Prod.mk.injEq] at h2
  exact ⟨⟨ble_le h3, ble_le h4⟩, h2.1.symm, h2.2.symm⟩
/-- a draw changes nothing that is looked at -/
theorem inv_drew {E : Env} {R : Nat → Prop} {h : H} {w0 w : World} (inv : Inv P E R h w0 w) : Inv P E R h w0 w.drew :=
  ⟨inv.dom, inv.top, inv.low, inv.inj, fun j p hj hp => objOk_step (fun _i _hi => ⟨rfl, rfl, rfl, rfl⟩) (fun _ h => h) hj rfl (inv.obj j p hj hp), inv.bel.drew⟩
theorem ok_append {c : Call} {s x : Operand} {t el u : TypeId} {i : TypeInfo} {z : AV} (ho : o.op = .call c) (hc : c.callee = .builtin .append) (ha : c.args.toList = [s, x]) (aa : AppArgs P c t el u i z) :
    ChgOk P o cd (cApp i.size i.bytes (cd s).out (cd x).out) := by
  intro E R h w0 w e a ρ v h' inv rel hq
  rw [ho] at rel
  have rs : Rel E R ((cd s).out e a) (ρ s) := rel_args hc rel s (by rw [ha]; simp)
  have rx : Rel E R ((cd x).out e a) (ρ x) := rel_args hc rel x (by rw [ha]; simp)
  obtain ⟨n, q1, q2⟩ := onO_some hq
  obtain ⟨new, q3, q4⟩ := onO_some q2
  obtain ⟨l1, l2⟩ := lenOf_run (P := P) (w := w) rx q1
  have hns : ∀ s, (cd x).out e a = .str s → n ≤ s.length := fun t e => by have := l2 t e; omega
  obtain ⟨f1, f2, f3, f4⟩ := first_run (P := P) inv rx q3 hns
  obtain ⟨g1, _, _, _⟩ := first_run (P := P) (inv_drew inv) rx q3 hns
  obtain ⟨zc1, _⟩ := run_zero (w := w.drew) E R aa.zer
  have fin : ∀ (v' : Value) w', (Builtin.append_ c.argTypes o.type #[ρ s, ρ x]).run P w = .ok v' w' → (execOp ρ o).run P w = .ok (.value v') w' := by
    intro v' w' h1
    refine builtin_step ho hc ha fun cs => ?_
    simp only [builtin]
    exact run_v h1
  rcases onSl_some q4 with ⟨hx, q5⟩ | ⟨j, k, len, cap, ex, hx, q5⟩
  · rw [hx] at rs
    have rs : ρ s = .slice none 0 0 := (rs rfl).2
    cases h0 : Nat.beq n 0 with
    | true =>
      rw [h0, cnd_t, Option.some.injEq, Prod.mk.injEq] at q5
      obtain ⟨rfl, rfl⟩ := q5
      have h0 := beq_e h0
      subst h0
      refine ⟨_, w, E, R, fin (.slice none 0 0) w ?_, .inr ⟨_, rfl, Rel.of (v := .nil 1) (by show 1 ≤ 4; decide)⟩, inv, Step.refl E R h⟩
      rw [rs]
      refine app_head aa l1 rfl (fun _ => ?_) (fun hn => absurd (Nat.le_refl _) hn)
      rw [run_b f1]; rfl
    | false =>
      rw [h0, cnd_f] at q5
      have h0 := beq_ne h0
      obtain ⟨hb, rfl, rfl⟩ := grow_some q5
      generalize hQ : Question.cut (.appendCap (0 + n) 0 el) (w.tape w.drawn (.appendCap (0 + n) 0 el)) = q
      have hq' : n ≤ q := by have := cut_ge (0 + n) 0 el (w.tape w.drawn (.appendCap (0 + n) 0 el)); omega
      obtain ⟨w', E', r1, r2, r3, r4⟩ := grow_obj (P := P) inv aa.inf aa.zer aa.len f2 f3 f4 hq'
      refine ⟨_, w', E', _, fin (.slice (some ⟨w.heap.size, 0, none⟩) n q) w' ?_, .inr ⟨_, rfl, r3⟩, r4, step_new inv r2⟩
      rw [rs]
      refine app_head aa l1 hQ (fun hn => by omega) (fun _ => ⟨by simpa using hb, ?_⟩)
      have o1 : (Builtin.firstCells i.size 0 (.slice none 0 0)).run P w.drew = .ok #[] w.drew := rfl
      rw [run_b o1, run_b g1, run_b zc1]
      have := r1 _ zc1
      simp only [Nat.zero_add, Array.empty_append]
      rw [run_b this]; rfl
  · rw [hx] at rs
    obtain ⟨rv, hj⟩ := rs.sl
    rw [stN_eq] at q5
    have e1 : Nat.add len n = len + n := rfl
    rw [e1] at q5
    generalize hC : (if ex then cap else cap + E.xc j) = C at rv
    have hcap : cap ≤ C := by rw [← hC]; exact cap_le
    generalize hQ : Question.cut (.appendCap (len + n) C el) (w.tape w.drawn (.appendCap (len + n) C el)) = q
    have hq' : len + n ≤ q := by rw [← hQ]; exact cut_ge _ _ _ _
    cases hb : Nat.ble (len + n) cap with
    | true =>
      rw [hb, cnd_t] at q5
      have hb := ble_le hb
      have run1 : ∀ w', (storeCells ⟨E.blk j, E.base j + (k + len * i.size), none⟩ (concs E new)).run P w = .ok () w' → (execOp ρ o).run P w = .ok (.value (.slice (some ⟨E.blk j, E.base j + k, none⟩) (len + n) C)) w' := by
        intro w' hs
        refine fin _ w' ?_
        rw [rv]
        refine app_head aa l1 hQ (fun _ => ?_) (fun hn => absurd (Nat.le_trans hb hcap) hn)
        rw [run_b f1]
        simp only []
        rw [addr_add, Nat.add_assoc, run_b hs]; rfl
      have rv' : Rel E R (.sl j k (len + n) cap ex) (.slice (some ⟨E.blk j, E.base j + k, none⟩) (len + n) C) := fun _ => ⟨hj, by simp only [conc, hC]⟩
      cases h0 : Nat.beq n 0 with
      | true =>
        rw [h0, cnd_t, Option.some.injEq, Prod.mk.injEq] at q5
        obtain ⟨rfl, rfl⟩ := q5
        have h0 := beq_e h0
        rw [h0, Nat.zero_mul] at f4
        have hl0 : new = [] := List.length_eq_zero_iff.1 f4
        exact ⟨_, w, E, R, run1 w (by rw [hl0]; rfl), .inr ⟨_, rfl, rv'⟩, inv, Step.refl E R h⟩
      | false =>
        rw [h0, cnd_f] at q5
        obtain ⟨h1, q6, q7⟩ := onO_some q5
        rw [Option.some.injEq, Prod.mk.injEq] at q7
        obtain ⟨rfl, rfl⟩ := q7
        obtain ⟨w', s1, s2, s3⟩ := sto_run inv hj f2 q6
        exact ⟨_, w', E, R, run1 w' s1, .inr ⟨_, rfl, rv'⟩, s2, s3⟩
    | false =>
      have hb' : ¬ len + n ≤ cap := by intro hle; rw [ble_t hle] at hb; cases hb
      rw [hb, cnd_f] at q5
      obtain ⟨old, q6, q7⟩ := onO_some q5
      rw [hx] at q6
      obtain ⟨o1, o2, o3, o4⟩ := first_run (P := P) (inv_drew inv) rs q6 (fun s e => by cases e)
      rw [rv] at o1
      rw [appL_eq] at q7
      have hlen : (old ++ new).length = (len + n) * i.size := by rw [List.length_append, o4, f4, Nat.add_mul]
      have runG : (len + n ≤ 1000000 ∧ (len + n) * i.bytes ≤ 1000000) → ¬ len + n ≤ C → ∀ w', (∀ zc, (zeroValue el).run P w.drew = .ok zc w.drew → (newRow el ((concs E (old ++ new)).toArray ++ Builtin.zeroCells zc.cells (q - (len + n)))).run P w.drew = .ok ⟨w.heap.size, 0, none⟩ w') → (execOp ρ o).run P w = .ok (.value (.slice (some ⟨w.heap.size, 0, none⟩) (len + n) q)) w' := by
        intro hbb hno w' hw
        refine fin _ w' ?_
        rw [rv]
        refine app_head aa l1 hQ (fun hn => absurd hn hno) (fun _ => ⟨hbb, ?_⟩)
        rw [run_b o1, run_b g1, run_b zc1]
        have := hw _ zc1
        rw [concs_app, ← List.append_toArray] at this
        rw [run_b this]; rfl
      cases ex with
      | true =>
        rw [cnd_t] at q7
        obtain ⟨hbb, rfl, rfl⟩ := grow_some q7
        have hCC : C = cap := by rw [← hC]; rfl
        obtain ⟨w', E', r1, r2, r3, r4⟩ := grow_obj (P := P) inv aa.inf aa.zer aa.len (ons_app o2 f2) (one_app o3 f3) hlen hq'
        exact ⟨_, w', E', _, runG hbb (by rw [hCC]; exact hb') w' r1, .inr ⟨_, rfl, r3⟩, r4, step_new inv r2⟩
      | false =>
        rw [cnd_f] at q7
        obtain ⟨r, sp, hg, q8⟩ := onCells_some q7
        obtain ⟨q9, q10⟩ := cnd_some q8
        obtain ⟨q11, q12⟩ := cnd_some q10
        obtain ⟨q13, q14⟩ := cnd_some q12
        obtain ⟨q15, q16⟩ := cnd_and q13
        rw [Option.some.injEq, Prod.mk.injEq] at q14
        obtain ⟨rfl, rfl⟩ := q14
        have q9 := beq_e q9
        subst q9
        have q11 : k + cap * i.size = r.len := beq_e q11
        have hbb : len + n ≤ 1000000 ∧ (len + n) * i.bytes ≤ 1000000 := ⟨ble_le q15, ble_le q16⟩
        have hCC : C = cap + E.xc j := by rw [← hC]; rfl
        by_cases hroom : len + n ≤ C
        · -- there is room: the cells are written where they lie
          obtain ⟨cs, tt, fz, c1, c2⟩ := inv.obj j _ hj hg
          have hsz := c2.size
          have hnew : (concs E new).length = n * i.size := by rw [concs_map, List.length_map, f4]
          have hm : (len + n) * i.size ≤ C * i.size := Nat.mul_le_mul_right _ hroom
          have hm2 : C * i.size = cap * i.size + E.xc j * i.size := by rw [hCC, Nat.add_mul]
          have hm3 : (len + n) * i.size = len * i.size + n * i.size := Nat.add_mul ..
          obtain ⟨w', cs', r1, r2, r3, r4, r5, r6⟩ := storeCells_run (P := P) (concs E new) 0 w cs (b := E.blk j) (o := E.base j + (k + len * i.size)) c1 c2.free (by rw [hnew]; omega) (fun v hv => by
            rw [concs_map] at hv
            obtain ⟨x, hx, rfl⟩ := List.mem_map.1 hv
            exact one_conc ((oneL_iff new).1 f3 x hx))
          have ag := upd_agree E h.n (E.blk j) (E.base j + k) (C - (len + n)) 0
          have hagR : ∀ i, R i → E.Agree (E.upd h.n (E.blk j) (E.base j + k) (C - (len + n)) 0) i := fun i hi => ag i (by have := inv.dom i hi; omega)
          refine ⟨_, w', E.upd h.n (E.blk j) (E.base j + k) (C - (len + n)) 0, (fun j => R j ∨ j = h.n), ?_, .inr ⟨.slice (some ⟨E.blk j, E.base j + k, none⟩) (len + n) C, rfl, fun _ => ⟨.inr rfl, ?_⟩⟩, inv_move inv hj hg r4 ag (by simp [Env.upd]) ?_, ?_⟩
          · refine fin _ w' ?_
            rw [rv]
            refine app_head aa l1 hQ (fun _ => ?_) (fun hn => absurd hroom hn)
            rw [run_b f1]
            simp only []
            rw [addr_add, Nat.add_assoc, run_b r1]; rfl
          · simp only [conc, Env.upd, if_true, Bool.false_eq_true, if_false, Nat.add_zero]
            congr 1; omega
          · refine ⟨cs', tt, fz, by simp [Env.upd, r2], ofList_wf _, ?_, by rw [r3]; exact c2.free, fun a v hv => ?_⟩
            · rw [ofList_len, hlen, r3]
              simp only [Env.upd, if_true]
              have : (C - (len + n)) * i.size = C * i.size - (len + n) * i.size := Nat.sub_mul ..
              omega
            · have hv := ofList_get hv
              have halt : a < (old ++ new).length := (List.getElem?_eq_some_iff.1 hv).1
              have hvm := List.mem_of_getElem? hv
              have hvR : v.On R := (Ons_iff _).1 (ons_app o2 f2) v hvm
              refine ⟨On.mono (fun _ h => .inl h) v hvR, (oneL_iff _).1 (one_app o3 f3) v hvm, by rw [ofList_len]; exact halt, ?_⟩
              rw [conc_agree hagR v hvR]
              simp only [Env.upd, if_true]
              by_cases hao : a < old.length
              · rw [List.getElem?_append_left hao] at hv
                rw [r6 _ (by omega)]
                have q6' : onCells (h.get j) (cnd (Nat.beq len 0) (some []) none) (fun r _ => r.ext k (Nat.mul len i.size)) = some old := q6
                rw [hg] at q6'
                have hext : r.ext k (len * i.size) = some old := q6'
                have := (c2.cell _ v ((ext_get hext).2 a v hv)).2.2.2
                rw [Nat.add_assoc]; exact this
              · rw [List.getElem?_append_right (by omega)] at hv
                rw [List.length_append, o4, f4] at halt
                rw [r5 _ (by omega) (by rw [hnew]; omega), concs_map, List.getElem?_map, show E.base j + k + a - (E.base j + (k + len * i.size) + 0) = a - old.length by omega, hv]
                rfl
          · have st := step_new (ob := .cells (Row.ofList (old ++ new)) i.size) inv ag
            exact st.trans (step_put none (.inl hj))
        · obtain ⟨w', E', r1, r2, r3, r4⟩ := grow_obj (P := P) inv aa.inf aa.zer aa.len (ons_app o2 f2) (one_app o3 f3) hlen hq'
          exact ⟨_, w', E', _, runG hbb hroom w' r1, .inr ⟨_, rfl, r3⟩, inv_del r4 j, (step_new inv r2).trans (step_put none (.inl hj))⟩
end
end Go.Proofs.YtccadcefhfdmgaaGreatDoor.Ev
namespace Go.Proofs.YtccadcefhfdmgaaGreatDoor.Ev
open Go
/-- a call of a function by its number -/
def CallOk (P : Program) (o : Oper) (cd : Operand → Bx Od) (f : List AV → A → H → Option (Nat × List AV)) : Prop :=
  ∀ (E : Env) (R : Nat → Prop) (h : H) (w0 w : World) (e : List AV) (a : A) (ρ : Operand → Value) (g : Nat) (l : List AV), Inv P E R h w0 w → OpsRel E R cd e a ρ o.op.operands.toList → f e a h = some (g, l) →
    ∃ vs : List Value, (execOp ρ o).run P w = (callFunc g vs.toArray).run P w ∧ l.length = vs.length ∧ ∀ (i : Nat) (v : AV) (v' : Value), l[i]? = some v → vs[i]? = some v' → Rel E R v v'
def OpOk (P : Program) (o : Oper) (cd : Operand → Bx Od) : Op' → Prop
  | .val f => ValOk P o cd f
  | .new f => NewOk P o cd f
  | .gho f => GhoOk P o cd f
  | .chg f => ChgOk P o cd f
  | .call f => CallOk P o cd f
  | .dyn f l => ∃ c x, o.op = .call c ∧ c.callee = .value x ∧ f = (cd x).out ∧ l = (odsB cd c.args.toList).out
  | .dfr f l => ∃ c x, o.op = .defer c ∧ c.callee = .value x ∧ f = (cd x).out ∧ l = (odsB cd c.args.toList).out
  | .pan x => ∃ y, o.op = .panic y ∧ x = (cd y).out
  | .rcv => ∃ c, o.op = .call c ∧ c.callee = .builtin .recover ∧ c.args.toList = []
section
variable {P : Program} {o : Oper} {cd : Operand → Bx Od}
theorem on1_some {x : Operand} {f : Od → Op'} {op : Op'} (h : on1 cd x f = some op) : op = f (cd x).out := by
  rw [on1, onB_eq] at h; injection h with h; exact h.symm
theorem on2_some {x y : Operand} {f : Od → Od → Op'} {op : Op'} (h : on2 cd x y f = some op) : op = f (cd x).out (cd y).out := by
  rw [on2, onB_eq, onB_eq] at h; injection h with h; exact h.symm
theorem on3_some {x y z : Operand} {f : Od → Od → Od → Op'} {op : Op'} (h : on3 cd x y z f = some op) : op = f (cd x).out (cd y).out (cd z).out := by
  rw [on3, onB_eq, onB_eq, onB_eq] at h; injection h with h; exact h.symm
theorem cBin_ok {op : BinOp} {t yt : TypeId} {x y : Operand} {q : Op'} (ho : o.op = .binOp op t x y yt) (h : cBin P cd op t x y = some q) : OpOk P o cd q := by
  unfold cBin at h
  split at h
  · rename_i k hu
    split at h
    · rw [onB_eq] at h; rw [on2_some h]; exact ok_shift ho
    · rw [onB_eq] at h; rw [on2_some h]; exact ok_shift ho
    · rw [on2_some h]; exact ok_sub ho
    · rename_i h1 h2 h3
      rw [onB_eq] at h; rw [on2_some h]
      exact ok_arith ho ⟨h1, h2⟩
  · rename_i hu
    rw [onB_eq] at h; rw [on2_some h]; exact ok_str ho
  · rename_i d hd1 hd2 hu
    cases hg : P.eqGuardType P.depth t with
    | true => rw [hg] at h; cases h
    | false =>
      rw [hg, cnd_f] at h
      have hi : ∀ k, P.underlying t ≠ some (.int k) := fun k e => hd1 k (by rw [hu] at e; injection e)
      have hs : P.underlying t ≠ some .string := fun e => hd2 (by rw [hu] at e; injection e)
      split at h
      · rw [onB_eq] at h; rw [on2_some h]; exact ok_eql ho hg hi hs
      · rw [onB_eq] at h; rw [on2_some h]; exact ok_neq ho hg hi hs
      · cases h
  · cases h
theorem cBuiltin_ok {c : Call} {b : Builtin} {q : Op'} (ho : o.op = .call c) (hc : c.callee = .builtin b) (h : cBuiltin P cd b c.args.toList c.argTypes.toList = some q) : OpOk P o cd q := by
  generalize ha : c.args.toList = as at h
  generalize ht : c.argTypes.toList = ts at h
  unfold cBuiltin at h
  split at h
  · -- len
    split at h
    · rename_i hu; rw [on1_some h]; exact ok_lenT ho hc ha ht hu
    · rename_i u hu; rw [on1_some h]; exact ok_lenS ho hc ha ht hu
    · rename_i k u hu; rw [on1_some h]; exact ok_lenM ho hc ha ht hu
    · rename_i n u hu; injection h with h; subst h; exact ok_lenC ho hc ha ht (.inl ⟨u, hu⟩)
    · rename_i a hu
      split at h
      · rename_i n u hv; injection h with h; subst h; exact ok_lenC ho hc ha ht (.inr ⟨a, u, hu, hv⟩)
      · cases h
    · cases h
  · rw [onB_eq] at h; rw [on1_some h]; exact ok_max ho hc ha
  · rw [onB_eq] at h; rw [on1_some h]; exact ok_min ho hc ha
  · -- append
    split at h
    · cases h
    · rename_i e d hd hu hv
      split at h
      · rename_i i z hi hz
        cases hl : Nat.beq (lenL z.cells) i.size with
        | false => rw [hl] at h; cases h
        | true =>
          rw [hl, cond_true] at h
          rw [on2_some h]
          have hl := beq_e hl
          rw [lenL_eq] at hl
          exact ok_append ho hc ha ⟨ht, hu, ⟨_, hv, fun k e => hd k e⟩, hi, hz, hl⟩
      · cases h
    · cases h
  · -- copy
    split at h
    · rename_i e hu
      split at h
      · rename_i n hn; rw [on2_some h]; exact ok_copy ho hc ha ht hu hn
      · cases h
    · cases h
  · -- clear
    split at h
    · rename_i e hu
      split at h
      · rename_i z hz; rw [on1_some h]; exact ok_clear ho hc ha ht hu hz
      · cases h
    · cases h
  · -- delete
    split at h
    · rename_i kt e hu
      obtain ⟨y, hy, h⟩ := onO_some h
      rw [on2_some h]; exact ok_delete ho hc ha ht hu hy
    · cases h
  · injection h with h; subst h; exact ⟨c, ho, hc, ha⟩
  · cases h
def CdOk (cd : Operand → Bx Od) : Prop := ∀ f e a, (cd (.func f)).out e a = .fn f [] []
theorem cFix_ok {c : Call} {f : Nat} (hcd : CdOk cd) (ho : o.op = .call c) (hc : c.callee = .value (.func f)) : CallOk P o cd (cFix f (odsB cd c.args.toList).out) := by
  intro E R h w0 w e a ρ g l inv rel hq
  rw [ho] at rel
  have hq : some (f, (odsB cd c.args.toList).out e a) = some (g, l) := hq
  rw [Option.some.injEq, Prod.mk.injEq] at hq
  obtain ⟨rfl, rfl⟩ := hq
  have rf : Rel E R ((cd (.func f)).out e a) (ρ (.func f)) := rel _ (by simp [Op.operands, Call.operands, hc])
  rw [hcd] at rf
  have rf : ρ (.func f) = .func (.func f) #[] #[] := (rf rfl).2
  refine ⟨c.args.toList.map ρ, ?_, by rw [odsB_out]; simp, fun i v v' hv hv' => ?_⟩
  · simp only [execOp, ho, resolve, hc, rf, Deferred.ofValue]
    rw [run_b (Sem.run_pure P w _)]
    simp only [invoke]
    congr 2
    apply Array.ext'
    simp
  · rw [odsB_out, List.getElem?_map, Option.map_eq_some_iff] at hv
    rw [List.getElem?_map, Option.map_eq_some_iff] at hv'
    obtain ⟨x, hx, rfl⟩ := hv
    obtain ⟨y, hy, rfl⟩ := hv'
    rw [hx] at hy
    injection hy with hy
    subst hy
    exact rel x (by simp only [Op.operands, Call.operands, hc]; simp; exact .inr (by simpa using List.mem_of_getElem? hx))
end
end Go.Proofs.YtccadcefhfdmgaaGreatDoor.Ev
namespace Go.Proofs.YtccadcefhfdmgaaGreatDoor.Ev
open Go
section
variable {P : Program} {o : Oper} {cd : Operand → Bx Od}
theorem cond_some {β : Type} {c : Bool} {x : Option β} {b : β} (h : cond c x none = some b) : c = true ∧ x = some b := by
  cases c with
  | false => cases h
  | true => exact ⟨rfl, h⟩
theorem cOp_ok (hcd : CdOk cd) {q : Op'} (hinv : ∀ (c : Call) r m, o.op = .call c → c.callee = .invoke r m → CallOk P o cd (cInv P (cd r).out m (odsB cd c.args.toList).out)) (h : cOp P cd o = some q) : OpOk P o cd q := by
  unfold cOp at h
  split at h
  · rename_i ho; rw [on1_some h]; exact ok_move ho
  · rename_i ho; rw [on1_some h]; exact ok_assign ho
  · rename_i ho; rw [on3_some h]; exact ok_pick ho
  · rename_i ho
    split at h
    · rename_i z hz
      cases h1 : oneL z.cells with
      | false => rw [h1] at h; cases h
      | true => rw [h1, cond_true, Option.some.injEq] at h; subst h; exact ok_alloc ho hz h1
    · cases h
  · rename_i ho; rw [on1_some h]; exact ok_box ho
  · -- build
    rename_i ho
    split at h
    · rename_i z fs hz ht
      split at h
      · rename_i pl hpl
        split at h
        · rename_i l hl; rw [onB_eq, Option.some.injEq] at h; subst h; exact ok_build ho hz ht hpl hl
        · cases h
      · cases h
    · rename_i z n e hz ht
      split at h
      · rename_i n hn; rw [onB_eq, Option.some.injEq] at h; subst h; exact ok_buildA ho hz ht hn
      · cases h
    · cases h
  · -- buildSlice
    rename_i ho
    split at h
    · rename_i e ht
      split at h
      · rename_i n z hn hz
        obtain ⟨h1, h2⟩ := cond_some h
        rw [Bool.and_eq_true, Bool.and_eq_true] at h1
        obtain ⟨⟨h3, h4⟩, h5⟩ := h1
        rw [onB_eq, Option.some.injEq] at h2
        subst h2
        have h3 := beq_e h3
        rw [lenL_eq] at h3
        exact ok_buildS ho ht hn hz h3 h4 (ble_le h5)
      · cases h
    · cases h
  · rename_i ho
    split at h
    · rename_i n hn; rw [onB_eq] at h; rw [on1_some h]; exact ok_load ho hn
    · cases h
  · rename_i ho
    split at h
    · rename_i n hn; rw [on2_some h]; exact ok_store ho hn
    · cases h
  · rename_i ho; rw [on1_some h]; exact ok_nilc ho
  · rename_i ho; exact cBin_ok ho h
  · rename_i ho
    split at h
    · rw [on1_some h]; exact ok_neg ho
    · rw [on1_some h]; exact ok_not ho
    · rw [on1_some h]; exact ok_cpl ho
    · cases h
  · -- convert
    rename_i ho
    split at h
    · rename_i k hs hd; rw [on1_some h]; exact ok_cvI ho hs hd
    · rename_i hs hd; rw [on1_some h]; exact ok_cvId ho hs hd
    · rename_i e hs hd
      split at h
      · rename_i hu; rw [on1_some h]; exact ok_cvBS ho hs hd hu
      · cases h
    · rename_i e hs hd
      split at h
      · rename_i hu; rw [on1_some h]; exact ok_cvSB ho hs hd hu
      · cases h
    · cases h
  · rename_i ho
    split at h
    · rename_i n e ht; rw [on1_some h]; exact ok_s2a ho ht
    · cases h
  · rename_i ho
    split at h
    · cases h
    · cases h
    · rename_i d hd ht; rw [on1_some h]; exact ok_mkI ho ht hd
  · rename_i ho
    rw [onB_eq, onB_eq, Option.some.injEq] at h
    subst h; exact ok_mkF ho
  · rename_i ho
    injection h with h; subst h; exact ok_makeMap ho
  · rename_i ho
    split at h
    · rename_i e ht
      split at h
      · rename_i i z hi hz
        obtain ⟨h1, h2⟩ := cond_some h
        rw [Bool.and_eq_true] at h1
        rw [on2_some h2]
        have h3 := beq_e h1.1
        rw [lenL_eq] at h3
        exact ok_makeSlice ho ht hi hz h3 h1.2
      · cases h
    · cases h
  · -- slice
    rename_i ho
    split at h
    · rename_i n e ht
      split at h
      · rename_i s hs; rw [on1_some h]; exact ok_slA ho ht hs
      · cases h
    · rename_i ht
      split at h
      · rw [on1_some h]; exact ok_slT ho ht
      · cases h
    · rename_i e ht
      split at h
      · rename_i s hs; rw [on1_some h]; exact ok_slS ho ht hs
      · rename_i s hs; rw [on3_some h]; exact ok_sl3 ho ht hs
      · cases h
    · cases h
  · rename_i ho
    split at h
    · rename_i fs ht
      split at h
      · rename_i f hf
        split at h
        · rename_i n hn; rw [on1_some h]; exact ok_fieldAddr ho ht hf hn
        · cases h
      · cases h
    · cases h
  · rename_i ho
    split at h
    · rename_i fs ht
      split at h
      · rename_i f hf
        split at h
        · rename_i n hn; rw [on1_some h]; exact ok_field ho ht hf hn
        · cases h
      · cases h
    · cases h
  · rename_i ho
    split at h
    · rename_i n e ht
      split at h
      · rename_i s hs; rw [on2_some h]; exact ok_indexA ho ht hs
      · cases h
    · rename_i e ht
      split at h
      · rename_i s hs; rw [on2_some h]; exact ok_indexS ho ht hs
      · cases h
    · cases h
  · rename_i ho
    split at h
    · rename_i n e ht
      split at h
      · rename_i s hs; rw [on2_some h]; exact ok_indexV ho ht hs
      · cases h
    · rename_i ht; rw [on2_some h]; exact ok_indexT ho ht
    · cases h
  · rename_i ho
    split at h
    · rename_i kt e ht
      split at h
      · rename_i z hz
        obtain ⟨y, hy, h⟩ := onO_some h
        rw [on2_some h]; exact ok_lookup ho ht hy hz
      · cases h
    · cases h
  · rename_i ho
    split at h
    · rename_i kt e ht
      obtain ⟨y, hy, h⟩ := onO_some h
      rw [on3_some h]; exact ok_mapUpdate (.inl ho) ht hy
    · cases h
  · rename_i ho
    split at h
    · rename_i kt e ht
      obtain ⟨y, hy, h⟩ := onO_some h
      rw [on3_some h]; exact ok_mapUpdate (.inr ho) ht hy
    · cases h
  · rename_i ho
    split at h
    · rename_i ht; rw [on1_some h]; exact ok_range ho ht
    · cases h
  · rename_i ho; rw [on1_some h]; exact ok_next ho
  · rename_i ho; rw [on1_some h]; exact ok_entry ho
  · rename_i x u t ok ho
    split at h
    · cases h
    · cases h
    · rename_i d z hd ht hz
      cases ok with
      | true => rw [cond_true] at h; rw [on1_some h]; exact ok_taOk ho ht hd hz
      | false => rw [cond_false] at h; rw [on1_some h]; exact ok_ta ho ht hd
    · cases h
  · rename_i ho; rw [on1_some h]; exact ok_ext ho
  · rename_i ho; rw [on1_some h]; exact ⟨_, ho, rfl⟩
  · rename_i c ho
    split at h
    · rename_i f hc; rw [onB_eq] at h; rw [on1_some h]; exact ⟨c, f, ho, hc, rfl, rfl⟩
    · cases h
  · rename_i c ho
    split at h
    · rename_i f hc; rw [onB_eq, Option.some.injEq] at h; subst h; exact cFix_ok hcd ho hc
    · rename_i f hc _; rw [onB_eq] at h; rw [on1_some h]; exact ⟨c, f, ho, by assumption, rfl, rfl⟩
    · rename_i r m hc; rw [onB_eq] at h; rw [on1_some h]; exact hinv c r m ho hc
    · rename_i b hc; exact cBuiltin_ok ho hc h
  · cases h
end
end Go.Proofs.YtccadcefhfdmgaaGreatDoor.Ev
namespace Go.Proofs.YtccadcefhfdmgaaGreatDoor.Ev
open Go
section
variable {P : Program} {o : Oper} {cd : Operand → Bx Od}
theorem cInv_ok {c : Call} {r : Operand} {m : String} (ho : o.op = .call c) (hc : c.callee = .invoke r m) : CallOk P o cd (cInv P (cd r).out m (odsB cd c.args.toList).out) := by
  intro E R h w0 w e a ρ g l inv rel hq
  rw [ho] at rel
  have rr : Rel E R ((cd r).out e a) (ρ r) := rel r (by simp [Op.operands, Call.operands, hc])
  obtain ⟨t, v, hx, q1⟩ := onIfc_some hq
  rw [hx] at rr
  obtain ⟨rr, rv⟩ := rr.ifc
  obtain ⟨⟨f, y⟩, q2, q3⟩ := onO_some q1
  have hargs : ∀ (i : Nat) (u : AV) (u' : Value), ((odsB cd c.args.toList).out e a)[i]? = some u → (c.args.toList.map ρ)[i]? = some u' → Rel E R u u' := by
    intro i u u' hv hv'
    rw [odsB_out, List.getElem?_map, Option.map_eq_some_iff] at hv
    rw [List.getElem?_map, Option.map_eq_some_iff] at hv'
    obtain ⟨x, hx, rfl⟩ := hv
    obtain ⟨y, hy, rfl⟩ := hv'
    rw [hx] at hy
    injection hy with hy
    subst hy
    exact rel x (by simp only [Op.operands, Call.operands, hc]; simp; exact .inr (by simpa using List.mem_of_getElem? hx))
  have fin : ∀ (u : AV) (w' : Value), u.On R → (method (P.types.size + Made.depth) t (conc E v) m).run P w = .ok (f, conc E u) w → some (f, u :: (odsB cd c.args.toList).out e a) = some (g, l) →
      ∃ vs : List Value, (execOp ρ o).run P w = (callFunc g vs.toArray).run P w ∧ l.length = vs.length ∧ ∀ (i : Nat) (v : AV) (v' : Value), l[i]? = some v → vs[i]? = some v' → Rel E R v v' := by
    intro u w' hu hm he
    rw [Option.some.injEq, Prod.mk.injEq] at he
    obtain ⟨rfl, rfl⟩ := he
    refine ⟨conc E u :: c.args.toList.map ρ, ?_, by rw [List.length_cons, List.length_cons, odsB_out]; simp, fun i v v' hv hv' => ?_⟩
    · simp only [execOp, ho, resolve, hc]
      rw [run_b (Sem.run_pure P w _)]
      simp only [invoke]
      have h0 : (#[ρ r] ++ c.args.map ρ)[0]? = some (ρ r) := by rw [Array.getElem?_append_left (by simp)]; rfl
      have h1 : (#[ρ r] ++ c.args.map ρ).extract 1 (#[ρ r] ++ c.args.map ρ).size = c.args.map ρ := by
        apply Array.ext'
        rw [Array.toList_extract]
        simp [List.extract_eq_take_drop]
        exact List.take_of_length_le (by simp)
      rw [h0, h1, rr]
      simp only [callMethod]
      rw [run_b (run_program P w), run_b hm]
      simp only []
      congr 2
      apply Array.ext'
      simp
    · cases i with
      | zero => injection hv with hv; injection hv' with hv'; subst hv hv'; exact Rel.of hu
      | succ i => exact hargs i v v' hv hv'
  unfold methF at q2
  obtain ⟨inf, m1, m2⟩ := Option.bind_eq_some_iff.1 q2
  obtain ⟨mt, m3, m4⟩ := Option.bind_eq_some_iff.1 m2
  obtain ⟨fuel, hfuel⟩ : ∃ n, P.types.size + Made.depth = n + 1 := ⟨P.types.size + 99, rfl⟩
  split at m4
  · rename_i f' pr hp hfn
    have head : ∀ (k : Value), (receiverAt t (.val (conc E v)) pr (if mt.path.isEmpty then some ((m.splitOn ".").getLastD m) else none)).run P w = .ok k w → (method (P.types.size + Made.depth) t (conc E v) m).run P w = .ok (f', k) w := by
      intro k hk
      rw [hfuel, method, run_b (run_I m1), m3]
      simp only [hp, follow]
      rw [run_b (Sem.run_pure P w _)]
      simp only [hfn]
      rw [run_b hk]; rfl
    split at m4
    · rename_i e hu
      rw [Option.some.injEq, Prod.mk.injEq] at m4
      obtain ⟨rfl, rfl⟩ := m4
      exact fin v (conc E v) rv (head _ (by rw [receiverAt, run_b (run_U hu)]; rfl)) q3
    · rename_i el hu
      obtain ⟨n, hn, h5⟩ := Option.map_eq_some_iff.1 m4
      rw [Prod.mk.injEq] at h5
      obtain ⟨rfl, rfl⟩ := h5
      obtain ⟨i, k, hv, q4⟩ := onPtr_some (show v.onPtr none (fun i o => onB (ldB n (isAggT P el)) fun f => onO (f h i o) none fun w => some (f', w :: (odsB cd c.args.toList).out e a)) = some (g, l) from q3)
      rw [onB_eq] at q4
      obtain ⟨u, q5, q6⟩ := onO_some q4
      subst hv
      obtain ⟨r1, r2⟩ := loadVar_of inv hn rv q5
      refine fin u (conc E u) r2 (head _ ?_) q6
      rw [receiverAt, run_b (run_U hu)]
      simp only [Place.get]
      rw [run_b (Sem.run_pure P w _)]
      cases mt.path.isEmpty with
      | true =>
        simp only [if_true]
        rw [run_b (x := conc E (.ptr i k)) (w' := w) rfl]
        simp only [conc, asAddr]
        rw [run_b (Sem.run_pure P w _)]
        exact r1
      | false =>
        simp only [Bool.false_eq_true, if_false]
        rw [run_b (Sem.run_pure P w _)]
        simp only [conc, asAddr]
        rw [run_b (Sem.run_pure P w _)]
        exact r1
    · cases m4
    · rename_i d hd hu
      rw [Option.some.injEq, Prod.mk.injEq] at m4
      obtain ⟨rfl, rfl⟩ := m4
      exact fin v (conc E v) rv (head _ (by rw [receiverAt, run_b (run_U hu)]; cases d <;> first | rfl | exact absurd rfl (hd _))) q3
    · cases m4
  · cases m4
end
end Go.Proofs.YtccadcefhfdmgaaGreatDoor.Ev
