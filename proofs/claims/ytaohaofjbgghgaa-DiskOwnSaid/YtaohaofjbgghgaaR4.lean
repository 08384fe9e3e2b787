/- A region that draws its order, by what holds of each operation's value: one proof for each operation, not for each order. No condition beyond what each theorem states. -/
import Derived.Test.YtaohaofjbgghgaaR
namespace Go.Proofs.Ytaohaofjbgghgaa
open Go.RowKit
section
variable {P : Program} {ops : Array Oper} {Q : Exit → Act → World → Prop}

/-- the values of the operations, number i turned -/
def upd (x : Nat → Value) (i : Nat) (v : Value) : Nat → Value := fun j => if j = i then v else x j
theorem upd_same (x : Nat → Value) (i : Nat) (v : Value) : upd x i v i = v := if_pos rfl
theorem upd_ne (x : Nat → Value) {i j : Nat} (v : Value) (h : i ≠ j) : upd x i v j = x j := if_neg fun e => h e.symm
def dstOf (ops : Array Oper) (i : Nat) : Option Nat := (ops[i]?).bind (·.dst)
def puts (ops : Array Oper) (x : Nat → Value) : List Nat → Act → Act
  | [], a => a
  | i :: l, a => puts ops x l (a.put (dstOf ops i) (x i))
theorem put_put (a : Act) (d : Option Nat) (u v : Value) : (a.put d u).put d v = a.put d v := by
  cases d <;> simp [Act.put]
theorem put_comm (a : Act) (d e : Option Nat) (u v : Value) (h : d = none ∨ d ≠ e) : (a.put d u).put e v = (a.put e v).put d u := by
  cases d with
  | none => cases e <;> rfl
  | some d =>
    cases e with
    | none => rfl
    | some e =>
      have hn : d ≠ e := by
        rcases h with h | h
        · cases h
        · exact fun he => h (by rw [he])
      simp only [Act.put]
      rw [Array.setIfInBounds_comm _ _ hn]
theorem puts_put (x : Nat → Value) (i : Nat) (v : Value) : ∀ (l : List Nat) (a : Act), (∀ j ∈ l, dstOf ops j = none ∨ dstOf ops j ≠ dstOf ops i) → puts ops x l (a.put (dstOf ops i) v) = (puts ops x l a).put (dstOf ops i) v
  | [], _, _ => rfl
  | j :: l, a, h => by
    show puts ops x l ((a.put (dstOf ops i) v).put (dstOf ops j) (x j)) = (puts ops x l (a.put (dstOf ops j) (x j))).put (dstOf ops i) v
    rw [← puts_put x i v l _ fun k hk => h k (List.mem_cons_of_mem _ hk), put_comm _ _ _ _ _ (h j (List.mem_cons_self ..))]
theorem puts_congr (x y : Nat → Value) : ∀ (l : List Nat) (a : Act), (∀ j ∈ l, x j = y j) → puts ops x l a = puts ops y l a
  | [], _, _ => rfl
  | j :: l, a, h => by
    show puts ops x l (a.put (dstOf ops j) (x j)) = puts ops y l (a.put (dstOf ops j) (y j))
    rw [h j (List.mem_cons_self ..), puts_congr x y l _ fun k hk => h k (List.mem_cons_of_mem _ hk)]
theorem puts_upd (x : Nat → Value) (i : Nat) (v : Value) : ∀ (l : List Nat) (a : Act), l.Nodup → i ∈ l → (∀ j ∈ l, j = i ∨ dstOf ops j = none ∨ dstOf ops j ≠ dstOf ops i) → (puts ops x l a).put (dstOf ops i) v = puts ops (upd x i v) l a
  | [], _, _, h, _ => by cases h
  | j :: l, a, hn, hi, hd => by
    obtain ⟨h1, h2⟩ := List.nodup_cons.1 hn
    by_cases e : j = i
    · subst e
      show (puts ops x l (a.put (dstOf ops j) (x j))).put (dstOf ops j) v = puts ops (upd x j v) l (a.put (dstOf ops j) (upd x j v j))
      have hl : ∀ k ∈ l, dstOf ops k = none ∨ dstOf ops k ≠ dstOf ops j := fun k hk => by
        rcases hd k (List.mem_cons_of_mem _ hk) with h | h
        · exact absurd (by rw [← h]; exact hk) h1
        · exact h
      rw [← puts_put x j v l _ hl, put_put, upd_same]
      exact puts_congr _ _ l _ fun k hk => (upd_ne x v fun e => h1 (by rw [e]; exact hk)).symm
    · have hi' : i ∈ l := by
        rcases List.mem_cons.1 hi with h | h
        · exact absurd h.symm e
        · exact h
      show (puts ops x l (a.put (dstOf ops j) (x j))).put (dstOf ops i) v = puts ops (upd x i v) l (a.put (dstOf ops j) (upd x i v j))
      rw [upd_ne x v (fun h => e h.symm), puts_upd x i v l _ h2 hi' fun k hk => hd k (List.mem_cons_of_mem _ hk)]
theorem puts_id (a : Act) : ∀ l : List Nat, puts ops (fun i => match dstOf ops i with | some d => a.tmps.getD d undef | none => undef) l a = a
  | [] => rfl
  | j :: l => by
    show puts ops _ l (a.put (dstOf ops j) _) = a
    have e : a.put (dstOf ops j) (match dstOf ops j with | some d => a.tmps.getD d undef | none => undef) = a := by
      cases h : dstOf ops j with
      | none => rfl
      | some d =>
        simp only [Act.put]
        have : a.tmps.setIfInBounds d (a.tmps.getD d undef) = a.tmps := by
          apply Array.ext
          · simp
          · intro k h1 h2
            rw [Array.getElem_setIfInBounds (by simpa using h2)]
            split
            · rename_i hk; subst hk; simp [Array.getD, h2]
            · rfl
        rw [this]
    rw [e]
    exact puts_id a l
/-- after whom does it come? -/
def comesAfter (ops : Array Oper) (j i : Nat) : Bool := ((ops[j]?).map (·.after.any fun e => Region.binds .any e && e.on == i)).getD false
def okRg (ops : Array Oper) : Bool :=
  (List.range ops.size).all fun i => ((ops[i]?).map (·.after.all fun e => !Region.binds .any e || decide (e.on < i))).getD false &&
    (List.range ops.size).all fun j => i == j || (dstOf ops j).isNone || dstOf ops j != dstOf ops i
theorem left_set {n i : Nat} {listed : Array Bool} (hs : listed.size = n) (hi : i < n) (hu : listed.getD i true = false) : ((List.range n).filter fun j => !(listed.setIfInBounds i true).getD j true).length + 1 = ((List.range n).filter fun j => !listed.getD j true).length := by
  have e : ((List.range n).filter fun j => !(listed.setIfInBounds i true).getD j true) = ((List.range n).filter fun j => !listed.getD j true).erase i := by
    rw [List.Nodup.erase_eq_filter (List.Pairwise.filter _ List.nodup_range), List.filter_filter]
    refine List.filter_congr fun j hj => ?_
    have hj := List.mem_range.1 hj
    by_cases h : j = i
    · subst h; simp [Array.getD, hs, hi]
    · have h2 : i ≠ j := fun e => h e.symm
      simp [Array.getD, hs, hj, h2, h]
  have hm : i ∈ (List.range n).filter fun j => !listed.getD j true := by
    rw [List.mem_filter]
    exact ⟨List.mem_range.2 hi, by rw [hu]; rfl⟩
  rw [e, List.length_erase_of_mem hm]
  have := List.length_pos_of_mem hm
  omega
theorem rg_all {id : Nat} {a : Act} {w : World} (idx : List Nat) (hidx : idx = List.range ops.size) (fr : (Nat → Value) → Act) (hfr : ∀ x, puts ops x idx a = fr x) (Pj : Nat → (Nat → Value) → World → Prop) (F : World → Prop) (R : Nat → World → World → Prop) (hm : P.follows .mixedOrders = true) (hok : okRg ops = true) (hF : F w.drew)
    (mono : ∀ i j x v w w', i ≠ j → comesAfter ops j i = false → R i w w' → Pj j x w → Pj j (upd x i v) w')
    (step : ∀ i oi, ops[i]? = some oi → ∀ x w K, F w → (∀ j, comesAfter ops i j = true → Pj j x w) → (∀ a' v w', a' = fr (upd x i v) → Pj i (upd x i v) w' → F w' → R i w w' → K a' w') → wpOp P ops Q i K (fr x) w)
    (hend : ∀ x w, F w → (∀ j, j < ops.size → Pj j x w) → Q .normal (fr x) w) : (Code.region id ops true).wp P Q a w := by
  refine wp_region_any hm ?_
  subst hidx
  obtain rfl : (fun x => puts ops x (List.range ops.size) a) = fr := funext hfr
  have hok1 : ∀ i oi, ops[i]? = some oi → ∀ e ∈ oi.after, Region.binds .any e = true → e.on < i := fun i oi hi e he hb => by
    have h1 := List.all_eq_true.1 hok i (List.mem_range.2 (Array.getElem?_eq_some_iff.1 hi).1)
    rw [Bool.and_eq_true, hi] at h1
    obtain ⟨n, hn, hx⟩ := Array.mem_iff_getElem.1 he
    have h2 := Array.all_eq_true.1 h1.1 n hn
    rw [hx, hb] at h2
    simpa using h2
  have key : ∀ (fuel : Nat) (listed : Array Bool) (a' : Act) (w : World), listed.size = ops.size → ((List.range ops.size).filter fun j => !listed.getD j true).length = fuel →
      (∀ j i, listed.getD j false = true → comesAfter ops j i = true → listed.getD i false = true) →
      (∃ x, a' = puts ops x (List.range ops.size) a ∧ F w ∧ ∀ j, j < ops.size → listed.getD j false = true → Pj j x w) → wpAny P .any ops Q fuel listed a' w := by
    intro fuel
    induction fuel with
    | zero =>
      rintro listed a' w hs hl _ ⟨x, rfl, hf, hp⟩
      have hall : ∀ j, j < ops.size → listed.getD j true = true := fun j hj => by
        have h0 := List.eq_nil_of_length_eq_zero hl
        cases h : listed.getD j true with
        | true => rfl
        | false =>
          have : j ∈ (List.range ops.size).filter fun j => !listed.getD j true := List.mem_filter.2 ⟨List.mem_range.2 hj, by rw [h]; rfl⟩
          rw [h0] at this; cases this
      refine ⟨?_, hend x w hf fun j hj => hp j hj ?_⟩
      · unfold Region.ready
        rw [List.filter_eq_nil_iff]
        intro j hj
        rw [hall j (List.mem_range.1 hj)]
        simp
      · have := hall j hj
        simpa [Array.getD, hs, hj] using this
    | succ fuel ih =>
      rintro listed a' w hs hl hc ⟨x, rfl, hf, hp⟩
      refine ⟨fun h0 => ?_, fun i hi => ?_⟩
      · exfalso
        have hall : ∀ j, j < ops.size → listed.getD j false = true := by
          intro j
          induction j using Nat.strongRecOn with
          | ind j ihj =>
            intro hj
            cases h : listed.getD j true with
            | true => simpa [Array.getD, hs, hj] using h
            | false =>
              have : j ∈ Region.ready .any ops listed := by
                unfold Region.ready
                rw [List.mem_filter]
                refine ⟨List.mem_range.2 hj, ?_⟩
                rw [h, Array.getElem?_eq_getElem hj]
                simp only [Bool.not_false, Option.map_some, Option.getD_some, Bool.true_and]
                rw [Array.all_eq_true]
                intro n hn
                cases hb : Region.binds .any ops[j].after[n] with
                | false => rfl
                | true =>
                  have hlt := hok1 j ops[j] (Array.getElem?_eq_getElem hj) _ (Array.getElem_mem hn) hb
                  rw [ihj _ hlt (by omega)]; rfl
              rw [h0] at this; cases this
        have : ((List.range ops.size).filter fun j => !listed.getD j true) = [] := by
          rw [List.filter_eq_nil_iff]
          intro j hj
          have := hall j (List.mem_range.1 hj)
          have h2 : listed.getD j true = true := by simpa [Array.getD, hs, List.mem_range.1 hj] using this
          rw [h2]; simp
        rw [this] at hl; cases hl
      · obtain ⟨hun, oi, hoi, haf⟩ := mem_ready.1 hi
        have hil := (Array.getElem?_eq_some_iff.1 hoi).1
        have hca : ∀ j, comesAfter ops i j = true → listed.getD j false = true := fun j hj => by
          unfold comesAfter at hj
          rw [hoi] at hj
          obtain ⟨n, hn, he⟩ := Array.any_eq_true.1 hj
          simp only [Bool.and_eq_true, beq_iff_eq] at he
          have := haf _ (Array.getElem_mem hn) he.1
          rwa [he.2] at this
        have hlt : ∀ j, comesAfter ops i j = true → j < ops.size := fun j hj => by
          unfold comesAfter at hj
          rw [hoi] at hj
          obtain ⟨n, hn, he⟩ := Array.any_eq_true.1 hj
          simp only [Bool.and_eq_true, beq_iff_eq] at he
          have := hok1 i oi hoi _ (Array.getElem_mem hn) he.1
          omega
        refine step i oi hoi x w _ hf (fun j hj => hp j (hlt j hj) (hca j hj)) fun a2 v w2 ha hpi hf2 hr => ?_
        have hset : ∀ j, j ≠ i → (listed.setIfInBounds i true).getD j false = listed.getD j false := fun j hj => by
          simp only [Array.getD_eq_getD_getElem?]
          rw [Array.getElem?_setIfInBounds_ne (fun e => hj e.symm)]
        have hsi : (listed.setIfInBounds i true).getD i false = true := by simp [Array.getD, hs, hil]
        refine ih _ a2 w2 (by simpa using hs) ?_ (fun j k hj hk => ?_) ⟨upd x i v, ha, hf2, fun j hj hl2 => ?_⟩
        · have := left_set hs hil hun; omega
        · by_cases e : j = i
          · subst e
            by_cases e2 : k = j
            · subst e2; exact hsi
            · rw [hset k e2]; exact hca k hk
          · rw [hset j e] at hj
            have := hc j k hj hk
            by_cases e2 : k = i
            · subst e2; exact hsi
            · rw [hset k e2]; exact this
        · by_cases e : j = i
          · subst e; exact hpi
          · rw [hset j e] at hl2
            refine mono i j x v w w2 (fun h => e h.symm) ?_ hr (hp j hj hl2)
            cases h : comesAfter ops j i with
            | false => rfl
            | true =>
              have := hc j i hl2 h
              have h3 : listed.getD i false = false := by simpa [Array.getD, hs, hil] using hun
              rw [h3] at this; cases this
  refine key ops.size _ a _ (by simp) ?_ (fun j i hj => ?_) ⟨_, (puts_id a _).symm, hF, fun j hj hl => ?_⟩
  · rw [List.filter_eq_self.2 fun j hj => ?_, List.length_range]
    have := List.mem_range.1 hj
    simp [Array.getD, this]
  · exfalso
    by_cases h : j < ops.size <;> simp [Array.getD, h] at hj
  · exfalso
    simp [Array.getD, hj] at hl
/-- an operation that is wanted -/
theorem ro_do {i : Nat} {oi : Oper} {K : Act → World → Prop} {a : Act} {w : World} (hi : ops[i]? = some oi) (hy : Region.wanted oi (yielded ops a.tmps) = true) (h : Oper.wp P oi a w K Q) : wpOp P ops Q i K a w := by
  unfold wpOp
  simp only [hi, hy, if_true]
  exact .inl h
/-- an operation that is not -/
theorem ro_pass {i : Nat} {oi : Oper} {K : Act → World → Prop} {a : Act} {w : World} (hi : ops[i]? = some oi) (hy : Region.wanted oi (yielded ops a.tmps) = false) (h : K (a.put oi.dst undef) w) : wpOp P ops Q i K a w := by
  unfold wpOp
  simp only [hi, hy]
  exact h
/-- where an operation's value goes -/
theorem okRg_put (hok : okRg ops = true) {i : Nat} {oi : Oper} (hi : ops[i]? = some oi) (x : Nat → Value) (a : Act) (v : Value) : (puts ops x (List.range ops.size) a).put oi.dst v = puts ops (upd x i v) (List.range ops.size) a := by
  have hil := (Array.getElem?_eq_some_iff.1 hi).1
  have e : oi.dst = dstOf ops i := by unfold dstOf; rw [hi]; rfl
  rw [e]
  refine puts_upd x i v _ a List.nodup_range (List.mem_range.2 hil) fun j hj => ?_
  have h1 := List.all_eq_true.1 hok i (List.mem_range.2 hil)
  rw [Bool.and_eq_true] at h1
  have h2 := List.all_eq_true.1 h1.2 j hj
  simp only [Bool.or_eq_true, beq_iff_eq, bne_iff_ne, Option.isNone_iff_eq_none] at h2
  rcases h2 with (h | h) | h
  · exact .inl h.symm
  · exact .inr (.inl h)
  · exact .inr (.inr h)
end
end Go.Proofs.Ytaohaofjbgghgaa
