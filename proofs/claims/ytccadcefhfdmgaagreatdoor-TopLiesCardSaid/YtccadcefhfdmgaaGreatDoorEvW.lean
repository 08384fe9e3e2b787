/- World.written: some number, in whatever order the sites come. No condition beyond what each theorem states. -/
import Derived.Test.YtccadcefhfdmgaaGreatDoorIg
import Derived.Outline
import Derived.RangeFuncRecord
import Derived.Maps.RangeWalk
namespace Go.Proofs.YtccadcefhfdmgaaGreatDoor
open Go Go.RowKit Go.Maps

structure SitesAt (W : World) (mb : Nat) (es : Array MapEntry) (c : Nat) : Prop where
  map : W.heap[mb]? = some (.map es c)
  born : ∀ e ∈ es, e.born < c
  site : ∀ e ∈ es, ∃ sb so db dO n, e.val = .pointer (some ⟨sb, so, none⟩) ∧ W.cell? ⟨sb, so, none⟩ = some (.pointer (some ⟨db, dO, none⟩)) ∧ W.cell? ⟨db, dO + 1, none⟩ = some (.int .i64 n)

/-- entries that are yet to come -/
def unseenU (es : Array MapEntry) (seen : Array Nat) : Nat := (es.toList.filter fun e => !seen.contains e.born).length
def seenU (w : World) (r : Nat) : Array Nat := match w.heap[r]? with | some (.mapIter _ _ seen _) => seen | _ => #[]
theorem filterU_le {α : Type} (p q : α → Bool) (h : ∀ x, q x = true → p x = true) : ∀ l : List α, (l.filter q).length ≤ (l.filter p).length
  | [] => Nat.le_refl _
  | x :: l => by
    have ih := filterU_le p q h l
    rw [List.filter_cons, List.filter_cons]
    cases hq : q x with
    | true =>
      rw [h x hq]
      simp only [if_true, List.length_cons]
      omega
    | false =>
      simp only [Bool.false_eq_true, if_false]
      split
      · rw [List.length_cons]; omega
      · exact ih
theorem filterU_lt {α : Type} (p q : α → Bool) (h : ∀ x, q x = true → p x = true) (e : α) (hp : p e = true) (hq : q e = false) : ∀ l : List α, e ∈ l → (l.filter q).length < (l.filter p).length
  | [], he => by cases he
  | x :: l, he => by
    rw [List.filter_cons, List.filter_cons]
    rcases List.mem_cons.1 he with rfl | he
    · have := filterU_le p q h l
      rw [hp, hq]
      simp only [Bool.false_eq_true, if_false, if_true, List.length_cons]
      omega
    · have ih := filterU_lt p q h e hp hq l he
      cases hx : q x with
      | true =>
        rw [h x hx]
        simp only [if_true, List.length_cons]
        omega
      | false =>
        simp only [Bool.false_eq_true, if_false]
        split
        · rw [List.length_cons]; omega
        · exact ih
theorem unseenU_lt {es : Array MapEntry} {seen : Array Nat} {e : MapEntry} (he : e ∈ es) (hs : seen.contains e.born = false) : unseenU es (seen.push e.born) < unseenU es seen := by
  refine filterU_lt _ _ (fun x hx => ?_) e ?_ ?_ es.toList (by simpa using he)
  · cases h : seen.contains x.born with
    | false => rfl
    | true =>
      rw [Array.contains_iff_mem] at h
      have : (seen.push e.born).contains x.born = true := by rw [Array.contains_iff_mem]; exact Array.mem_push.2 (.inl h)
      rw [this] at hx; cases hx
  · rw [hs]; rfl
  · have : (seen.push e.born).contains e.born = true := by rw [Array.contains_iff_mem]; exact Array.mem_push_self
    rw [this]; rfl
section
variable {P : Program} {w : World} {r m : Nat} {es : Array MapEntry} {c : Nat} {seen : Array Nat}
/-- the step of a range over a map that stays as it is -/
theorem next_U (ty : TypeId) (hr : w.heap[r]? = some (.mapIter (some m) c seen c)) (hm : w.heap[m]? = some (.map es c)) (hb : ∀ e ∈ es, e.born < c) :
    (∃ w', (Instr.next (.pointer (some ⟨r, 0, none⟩)) false ty).run P w = .ok (.tuple #[.bool false]) w' ∧ w'.heap = w.heap ∧ Below w.heap.size w w') ∨
    ∃ e w', e ∈ es ∧ seen.contains e.born = false ∧ (Instr.next (.pointer (some ⟨r, 0, none⟩)) false ty).run P w = .ok (.tuple #[.bool true, e.key, e.val]) w' ∧ w'.heap = w.heap.setIfInBounds r (.mapIter (some m) c (seen.push e.born) c) ∧ w'.os = w.os ∧ w'.tape = w.tape ∧ w'.output = w.output := by
  have g1 : (getObj r).run P w = .ok (.mapIter (some m) c seen c) w := by simp [getObj, Sem.run, hr]
  have g2 : (getObj m).run P w = .ok (.map es c) w := by simp [getObj, Sem.run, hm]
  have hno : ¬ ((!seen.isEmpty && !es.isEmpty && es.all fun e => decide (e.born ≥ c)) = true) := by
    intro h
    rw [Bool.and_eq_true, Bool.and_eq_true] at h
    obtain ⟨⟨_, h2⟩, h3⟩ := h
    cases hs : es[0]? with
    | none =>
      have : es.size = 0 := by
        rcases Nat.eq_zero_or_pos es.size with h | h
        · exact h
        · rw [Array.getElem?_eq_getElem h] at hs; cases hs
      have : es.isEmpty = true := by rw [Array.isEmpty_iff_size_eq_zero]; exact this
      rw [this] at h2; cases h2
    | some e =>
      have he := Array.mem_of_getElem? hs
      obtain ⟨k, hk, hx⟩ := Array.mem_iff_getElem.1 he
      have := Array.all_eq_true.1 h3 k hk
      rw [hx] at this
      have h4 := hb e he
      simp at this
      omega
  have hall : (es.filter fun e => !seen.contains e.born).filter (fun e => decide (e.born < c)) = es.filter fun e => !seen.contains e.born := by
    rw [Array.filter_eq_self]
    intro e he
    have := hb e (Array.mem_filter.1 he).1
    simpa using this
  have hnew : (es.filter fun e => !seen.contains e.born).filter (fun e => decide (e.born ≥ c)) = #[] := by
    rw [Array.filter_eq_empty_iff]
    intro e he
    have := hb e (Array.mem_filter.1 he).1
    simp; omega
  obtain ⟨cs, hcs⟩ : ∃ cs : Array (Option MapEntry), cs = (if (es.filter fun e => !seen.contains e.born).isEmpty then #[none] else #[]) ++ ((es.filter fun (e : MapEntry) => !seen.contains e.born) ++ #[]).map some := ⟨_, rfl⟩
  have hstep : (Instr.next (.pointer (some ⟨r, 0, none⟩)) false ty).run P w = (choose (.mapNext cs.size) >>= fun (k : Nat) => match cs[k]? with
      | some (some e) => do
        setObj r (.mapIter (some m) c (seen.push e.born) c)
        pure (.tuple #[.bool true, e.key, e.val])
      | some none => pure (.tuple #[.bool false])
      | none => stuck "Next: no such candidate").run P w := by
    rw [Instr.next]
    simp only []
    rw [Sem.run_bind, g1]
    simp only [Result.andThen]
    rw [Sem.run_bind, g2]
    simp only [Result.andThen]
    rw [if_neg hno]
    rw [hcs]
    simp only [hall, hnew]
    rfl
  have hpos : 0 < cs.size := by
    rw [hcs, Array.size_append, Array.size_map, Array.append_empty]
    generalize (es.filter fun (e : MapEntry) => !seen.contains e.born) = x
    split
    · show 0 < 1 + _; omega
    · rename_i h
      have : x.size ≠ 0 := fun h0 => h (by rw [Array.isEmpty_iff_size_eq_zero]; exact h0)
      omega
  have hch : ∃ k w2, k < cs.size ∧ (choose (.mapNext cs.size)).run P w = .ok k w2 ∧ w2.heap = w.heap ∧ w2.os = w.os ∧ w2.tape = w.tape ∧ w2.output = w.output := by
    by_cases h1 : (Question.mapNext cs.size).forced = true
    · exact ⟨0, w, hpos, by simp [choose, Sem.run, h1], rfl, rfl, rfl, rfl⟩
    · refine ⟨_, { w with drawn := w.drawn + 1 }, ?_, by simp only [choose, Sem.run, h1]; rfl, rfl, rfl, rfl, rfl⟩
      simp only [Question.cut]
      exact Nat.mod_lt _ hpos
  obtain ⟨k, w2, hk, hrun, e1, e2, e3, e4⟩ := hch
  rw [Sem.run_bind, hrun] at hstep
  simp only [Result.andThen] at hstep
  rw [Array.getElem?_eq_getElem hk] at hstep
  cases hx : cs[k] with
  | none =>
    rw [hx] at hstep
    exact .inl ⟨w2, hstep, e1, ⟨e2, e3, e4, by rw [e1]; exact Nat.le_refl _, fun j _ => by rw [e1]⟩⟩
  | some e =>
    rw [hx] at hstep
    right
    have hmem : some e ∈ cs := by rw [← hx]; exact Array.getElem_mem hk
    have hin : e ∈ es.filter fun e => !seen.contains e.born := by
      rw [hcs] at hmem
      rcases Array.mem_append.1 hmem with h | h
      · split at h <;> simp at h
      · simpa using h
    obtain ⟨h5, h6⟩ := Array.mem_filter.1 hin
    have hr2 : w2.heap[r]? = some (.mapIter (some m) c seen c) := by rw [e1]; exact hr
    refine ⟨e, { w2 with heap := w2.heap.setIfInBounds r (.mapIter (some m) c (seen.push e.born) c) }, h5, by simpa using h6, ?_, by rw [e1], e2, e3, e4⟩
    rw [hstep]
    simp [setObj, Sem.run, hr2, Result.andThen]
theorem entry_U {e : MapEntry} (hr : w.heap[r]? = some (.mapIter (some m) c (seen.push e.born) c)) (hm : w.heap[m]? = some (.map es c)) (he : e ∈ es) :
    ∃ e' ∈ es, (Instr.entry (.pointer (some ⟨r, 0, none⟩))).run P w = .ok (.tuple #[e'.key, e'.val]) w := by
  have g1 : (getObj r).run P w = .ok (.mapIter (some m) c (seen.push e.born) c) w := by simp [getObj, Sem.run, hr]
  have g2 : (getObj m).run P w = .ok (.map es c) w := by simp [getObj, Sem.run, hm]
  cases hf : es.find? (·.born == e.born) with
  | none =>
    have := Array.find?_eq_none.1 hf e he
    simp at this
  | some e' =>
    refine ⟨e', Array.mem_of_find?_eq_some hf, ?_⟩
    rw [Instr.entry]
    simp only []
    rw [Sem.run_bind, g1]
    simp only [Result.andThen, Array.back?_push]
    rw [Sem.run_bind, g2]
    simp only [Result.andThen]
    simp [hf]
end
section
variable {P : Program} (w : World) {ops : Array Oper} {rest : List Oper} {o : Oper} {a : Act} {Q : Exit → Act → World → Prop}
theorem wp_rangeU (hg : o.guard = none) (x : Operand) (t : TypeId) (hop : o.op = Op.range t x) (k e : TypeId) (ht : P.underlying t = some (.map k e)) (b : Nat) (es : Array MapEntry) (c : Nat) (hx : a.eval x = .map (some b)) (hm : w.heap[b]? = some (.map es c))
    (hK : ∀ w', w' = w.alloc (.mapIter (some b) c #[] c) → wpList P ops Q rest (a.put o.dst (.pointer (some ⟨w.heap.size, 0, none⟩))) w') : wpList P ops Q (o :: rest) a w := by
  refine wpList_plain hg fun K' hK' => ?_
  unfold Oper.wp
  have hrun : (Instr.range t (a.eval x)).run P w = .ok (.pointer (some ⟨w.heap.size, 0, none⟩)) (w.alloc (.mapIter (some b) c #[] c)) := by
    have g2 : (getObj b).run P w = .ok (.map es c) w := by simp [getObj, Sem.run, hm]
    rw [Instr.range, hx]
    simp [Sem.run_bind, run_underlying ht, Result.andThen, g2]
  simp [execOp, hop, hrun, Result.andThen]
  exact hK' _ _ (hK _ rfl)
theorem wp_nextU (hg : o.guard = none) (it : Operand) (hop : o.op = Op.next it false) {r m : Nat} {es : Array MapEntry} {c : Nat} {seen : Array Nat} (hit : a.eval it = .pointer (some ⟨r, 0, none⟩)) (hne : r ≠ m) (hr : w.heap[r]? = some (.mapIter (some m) c seen c)) (hm : w.heap[m]? = some (.map es c)) (hb : ∀ e ∈ es, e.born < c)
    (hDone : ∀ w', w'.heap = w.heap → Below w.heap.size w w' → wpList P ops Q rest (a.put o.dst (.tuple #[.bool false])) w')
    (hMore : ∀ (u v : Value) (e e' : MapEntry) (w' : World), e ∈ es → seen.contains e.born = false → e' ∈ es → w'.heap = w.heap.setIfInBounds r (.mapIter (some m) c (seen.push e.born) c) → w'.os = w.os → w'.tape = w.tape → w'.output = w.output →
      (Instr.entry (.pointer (some ⟨r, 0, none⟩))).run P w' = .ok (.tuple #[e'.key, e'.val]) w' → wpList P ops Q rest (a.put o.dst (.tuple #[.bool true, u, v])) w') : wpList P ops Q (o :: rest) a w := by
  refine wpList_plain hg fun K' hK' => ?_
  unfold Oper.wp
  rcases next_U (P := P) o.type hr hm hb with ⟨w', hrun, h1, h2⟩ | ⟨e, w', h1, h2, hrun, h3, h4, h5, h6⟩
  · simp [execOp, hop, hit, hrun, Result.andThen]
    exact hK' _ _ (hDone w' h1 h2)
  · simp [execOp, hop, hit, hrun, Result.andThen]
    have hlt : r < w.heap.size := (Array.getElem?_eq_some_iff.1 hr).1
    obtain ⟨e', h7, h8⟩ := entry_U (P := P) (w := w') (r := r) (m := m) (es := es) (c := c) (seen := seen) (e := e) (by rw [h3]; simp [hlt]) (by rw [h3, Array.getElem?_setIfInBounds_ne hne]; exact hm) h1
    exact hK' _ _ (hMore _ _ e e' w' h1 h2 h7 h3 h4 h5 h6 h8)
end
end Go.Proofs.YtccadcefhfdmgaaGreatDoor
