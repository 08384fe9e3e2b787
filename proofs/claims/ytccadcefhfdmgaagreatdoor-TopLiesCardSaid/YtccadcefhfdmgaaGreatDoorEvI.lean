/- The evaluator is sound: what it answers the program does. No condition beyond what each theorem states. -/
import Derived.Test.YtccadcefhfdmgaaGreatDoorEvH
import Derived.OrdersIn
namespace Go.Proofs.YtccadcefhfdmgaaGreatDoor.Ev
open Go
section
variable {P : Program} {F : Fence} {n : Nat} {ops : Array Oper} {Q : Exit → Act → World → Prop}
theorem left_set {n i : Nat} {listed : Array Bool} (hs : listed.size = n) (hi : i < n) (hu : listed.getD i true = false) : ((List.range n).filter fun j => !(listed.setIfInBounds i true).getD j true).length + 1 = ((List.range n).filter fun j => !listed.getD j true).length := by
  have e : ((List.range n).filter fun j => !(listed.setIfInBounds i true).getD j true) = ((List.range n).filter fun j => !listed.getD j true).erase i := by
    rw [List.Nodup.erase_eq_filter (List.Pairwise.filter _ List.nodup_range), List.filter_filter]
    refine List.filter_congr fun j hj => ?_
    have hj := List.mem_range.1 hj
    by_cases h : j = i
    · subst h; simp [Array.getD, hs, hi]
    · have h2 : i ≠ j := fun e => h e.symm
      simp [Array.getD, hs, hj, h2, h]
  have hm : i ∈ (List.range n).filter fun j => !listed.getD j true := by
    rw [List.mem_filter]
    exact ⟨List.mem_range.2 hi, by rw [hu]; rfl⟩
  rw [e, List.length_erase_of_mem hm]
  have := List.length_pos_of_mem hm
  omega
/-- a region that draws its order, by what holds when so many have come -/
theorem rgAny_gen {id : Nat} {a : Act} {w : World} (hm : P.follows .mixedOrders = true) (J : (Nat → Prop) → Act → World → Prop) (hok : ∀ (i : Nat) (oi : Oper), ops[i]? = some oi → ∀ e ∈ oi.after, Region.binds .any e = true → e.on < i)
    (h0 : J (fun _ => False) a { w with drawn := w.drawn + 1 })
    (step : ∀ (L : Nat → Prop) (i : Nat) (oi : Oper) (a : Act) (w : World), ops[i]? = some oi → ¬ L i → (∀ e ∈ oi.after, Region.binds .any e = true → L e.on) → J L a w → ∀ K : Act → World → Prop, (∀ (L' : Nat → Prop) a' w', (∀ j, L' j ↔ L j ∨ j = i) → J L' a' w' → K a' w') → wpOpIn F n P ops Q i K a w)
    (hend : ∀ (L : Nat → Prop) (a : Act) (w : World), (∀ j, j < ops.size → L j) → J L a w → Q .normal a w) : (Code.region id ops true).wpIn F n P Q a w := by
  refine wpIn_region_any hm ?_
  have key : ∀ (fuel : Nat) (listed : Array Bool) (L : Nat → Prop) (a' : Act) (w : World), listed.size = ops.size → ((List.range ops.size).filter fun j => !listed.getD j true).length = fuel →
      (∀ j, L j ↔ listed.getD j false = true) → J L a' w → wpAnyIn F n P .any ops Q fuel listed a' w := by
    intro fuel
    induction fuel with
    | zero =>
      intro listed L a' w hs hl hL hJ
      have hall : ∀ j, j < ops.size → listed.getD j true = true := fun j hj => by
        have h0 := List.eq_nil_of_length_eq_zero hl
        cases h : listed.getD j true with
        | true => rfl
        | false =>
          have : j ∈ (List.range ops.size).filter fun j => !listed.getD j true := List.mem_filter.2 ⟨List.mem_range.2 hj, by rw [h]; rfl⟩
          rw [h0] at this; cases this
      refine ⟨?_, hend L a' w (fun j hj => (hL j).2 ?_) hJ⟩
      · unfold Region.ready
        rw [List.filter_eq_nil_iff]
        intro j hj
        rw [hall j (List.mem_range.1 hj)]
        simp
      · have := hall j hj
        simpa [Array.getD, hs, hj] using this
    | succ fuel ih =>
      intro listed L a' w hs hl hL hJ
      refine ⟨fun h0 => ?_, fun i hi => ?_⟩
      · exfalso
        have hall : ∀ j, j < ops.size → listed.getD j false = true := by
          intro j
          induction j using Nat.strongRecOn with
          | ind j ihj =>
            intro hj
            cases h : listed.getD j true with
            | true => simpa [Array.getD, hs, hj] using h
            | false =>
              have : j ∈ Region.ready .any ops listed := by
                unfold Region.ready
                rw [List.mem_filter]
                refine ⟨List.mem_range.2 hj, ?_⟩
                rw [h, Array.getElem?_eq_getElem hj]
                simp only [Bool.not_false, Option.map_some, Option.getD_some, Bool.true_and]
                rw [Array.all_eq_true]
                intro n hn
                cases hb : Region.binds .any ops[j].after[n] with
                | false => rfl
                | true =>
                  have hlt := hok j ops[j] (Array.getElem?_eq_getElem hj) _ (Array.getElem_mem hn) hb
                  rw [ihj _ hlt (by omega)]; rfl
              rw [h0] at this; cases this
        have : ((List.range ops.size).filter fun j => !listed.getD j true) = [] := by
          rw [List.filter_eq_nil_iff]
          intro j hj
          have := hall j (List.mem_range.1 hj)
          have h2 : listed.getD j true = true := by simpa [Array.getD, hs, List.mem_range.1 hj] using this
          rw [h2]; simp
        rw [this] at hl; cases hl
      · obtain ⟨hun, oi, hoi, haf⟩ := mem_ready.1 hi
        have hil := (Array.getElem?_eq_some_iff.1 hoi).1
        refine step L i oi a' w hoi (fun hc => ?_) (fun e he hb => (hL _).2 (haf e he hb)) hJ _ fun L' a2 w2 hL' hJ' => ?_
        · have := (hL i).1 hc
          have h3 : listed.getD i false = false := by simpa [Array.getD, hs, hil] using hun
          rw [h3] at this; cases this
        · refine ih _ L' a2 w2 (by simpa using hs) ?_ (fun j => ?_) hJ'
          · have := left_set hs hil hun; omega
          · rw [hL', hL]
            by_cases e : j = i
            · subst e
              simp [Array.getD, hs, hil]
            · simp only [e, or_false, Array.getD_eq_getD_getElem?]
              rw [Array.getElem?_setIfInBounds_ne (fun h => e h.symm)]
  refine key ops.size _ (fun _ => False) a _ (by simp) ?_ (fun j => ?_) h0
  · rw [List.filter_eq_self.2 fun j hj => ?_, List.length_range]
    have := List.mem_range.1 hj
    simp [Array.getD, this]
  · by_cases h : j < ops.size <;> simp [Array.getD, h]
end
end Go.Proofs.YtccadcefhfdmgaaGreatDoor.Ev
namespace Go.Proofs.YtccadcefhfdmgaaGreatDoor.Ev
open Go
theorem bit_eq (m i : Nat) : bit m i = m.testBit i := by
  rw [Nat.testBit_eq_decide_div_mod_eq]
  show Nat.beq ((m >>> i) % 2) 1 = _
  rw [Nat.shiftRight_eq_div_pow]
  cases h : Nat.beq (m / 2 ^ i % 2) 1 with
  | true => rw [beq_e h]; rfl
  | false => exact (decide_eq_false (beq_ne h)).symm
noncomputable def msk (ms : List Nat) (i : Nat) : Nat := (nthL ms i).getD 0
theorem bit_zero (i : Nat) : bit 0 i = false := by rw [bit_eq]; exact Nat.zero_testBit i
theorem maskE_bit (acc : List Nat) (b : Nat) : ∀ l : List Edge, bit (maskE acc l) b = true → ∃ e ∈ l, Region.binds .any e = true ∧ (b = e.on ∨ bit (msk acc e.on) b = true)
  | [], h => by
    have h : bit 0 b = true := h
    rw [bit_zero] at h; cases h
  | e :: l, h => by
    have h : bit (cnd (Region.binds .any e) (Nat.lor (Nat.pow 2 e.on) (Nat.lor (msk acc e.on) (maskE acc l))) (maskE acc l)) b = true := h
    cases hb : Region.binds .any e with
    | true =>
      rw [hb, cnd_t, bit_eq] at h
      have h : (2 ^ e.on ||| (msk acc e.on ||| maskE acc l)).testBit b = true := h
      rw [Nat.testBit_or, Nat.testBit_or, Nat.testBit_two_pow, Bool.or_eq_true, Bool.or_eq_true, decide_eq_true_eq] at h
      rcases h with h | h | h
      · exact ⟨e, List.mem_cons_self .., hb, .inl h.symm⟩
      · exact ⟨e, List.mem_cons_self .., hb, .inr (by rw [bit_eq]; exact h)⟩
      · obtain ⟨e', h1, h2, h3⟩ := maskE_bit acc b l (by rw [bit_eq]; exact h)
        exact ⟨e', List.mem_cons_of_mem _ h1, h2, h3⟩
    | false =>
      rw [hb, cnd_f] at h
      obtain ⟨e', h1, h2, h3⟩ := maskE_bit acc b l h
      exact ⟨e', List.mem_cons_of_mem _ h1, h2, h3⟩
theorem masks_pre : ∀ (l : List Oper) (acc : List Nat), ∃ x, masks l acc = acc ++ x
  | [], acc => ⟨[], by simp [masks]⟩
  | o :: l, acc => by
    have e : masks (o :: l) acc = masks l (acc ++ [maskE acc o.after.toList]) := by simp only [masks, stN_eq, appL_eq]
    obtain ⟨x, hx⟩ := masks_pre l (acc ++ [maskE acc o.after.toList])
    exact ⟨maskE acc o.after.toList :: x, by rw [e, hx]; simp⟩
theorem masks_bit : ∀ (l : List Oper) (acc : List Nat) (i : Nat) (o : Oper) (b : Nat), l[i]? = some o → bit (msk (masks l acc) (acc.length + i)) b = true → ∃ e ∈ o.after.toList, Region.binds .any e = true ∧ (b = e.on ∨ bit (msk (masks l acc) e.on) b = true)
  | [], acc, i, o, b, h, _ => by cases h
  | o' :: l, acc, i, o, b, h, hb => by
    have e : masks (o' :: l) acc = masks l (acc ++ [maskE acc o'.after.toList]) := by simp only [masks, stN_eq, appL_eq]
    rw [e] at hb ⊢
    cases i with
    | zero =>
      injection h with h
      subst h
      obtain ⟨x, hx⟩ := masks_pre l (acc ++ [maskE acc o'.after.toList])
      have hm : msk (masks l (acc ++ [maskE acc o'.after.toList])) (acc.length + 0) = maskE acc o'.after.toList := by
        rw [hx]; simp [msk, nthL_eq]
      rw [hm] at hb
      obtain ⟨e, h1, h2, h3⟩ := maskE_bit acc b _ hb
      refine ⟨e, h1, h2, h3.imp id fun h => ?_⟩
      rw [hx]
      by_cases hlt : e.on < acc.length
      · have : msk (acc ++ [maskE acc o'.after.toList] ++ x) e.on = msk acc e.on := by rw [msk, msk, nthL_eq, nthL_eq, List.append_assoc, List.getElem?_append_left hlt]
        rw [this]; exact h
      · have : msk acc e.on = 0 := by simp [msk, nthL_eq, Nat.le_of_not_lt hlt]
        rw [this, bit_zero] at h; cases h
    | succ i =>
      exact masks_bit l (acc ++ [maskE acc o'.after.toList]) i o b h (by simpa [Nat.add_comm, Nat.add_left_comm, Nat.add_assoc] using hb)
theorem masks_len (l : List Oper) : ∀ acc : List Nat, (masks l acc).length = acc.length + l.length := by
  induction l with
  | nil => intro acc; simp [masks]
  | cons o l ih => intro acc; simp only [masks, stN_eq, appL_eq, ih, List.length_append, List.length_cons, List.length_nil]; omega
/-- ancestors have come -/
def Closed (ms : List Nat) (L : Nat → Prop) : Prop := ∀ j, L j → ∀ b, bit (msk ms j) b = true → L b
theorem ready_bits {l : List Oper} {L : Nat → Prop} {i : Nat} {o : Oper} (hc : Closed (masks l []) L) (ho : l[i]? = some o) (hr : ∀ e ∈ o.after, Region.binds .any e = true → L e.on) (b : Nat) (hb : bit (msk (masks l []) i) b = true) : L b := by
  obtain ⟨e, h1, h2, h3⟩ := masks_bit l [] i o b ho (by simpa using hb)
  have := hr e (by simpa using h1) h2
  rcases h3 with rfl | h3
  · exact this
  · exact hc _ this b h3
theorem closed_add {ms : List Nat} {L L' : Nat → Prop} {i : Nat} (hL : ∀ j, L' j ↔ L j ∨ j = i) (hc : Closed ms L) (hi : ∀ b, bit (msk ms i) b = true → L b) : Closed ms L' := by
  intro j hj b hb
  rcases (hL j).1 hj with h | rfl
  · exact (hL b).2 (.inl (hc j h b hb))
  · exact (hL b).2 (.inl (hi b hb))
/-! who writes a slot -/
def dstAt (l : List Oper) (j : Nat) : Option Nat := (l[j]?).bind (·.dst)
theorem writer_some {t : Nat} : ∀ (l : List Oper) (k j : Nat), writer t l k = some j → k ≤ j ∧ dstAt l (j - k) = some t
  | [], k, j, h => by cases h
  | o :: l, k, j, h => by
    unfold writer at h
    cases hd : o.dst with
    | none =>
      rw [hd] at h
      obtain ⟨h1, h2⟩ := writer_some l (k + 1) j h
      refine ⟨by omega, ?_⟩
      rw [show j - k = (j - (k + 1)) + 1 by omega]; exact h2
    | some d =>
      rw [hd] at h
      have h : cnd (Nat.beq d t) (some k) (writer t l (k + 1)) = some j := h
      cases hb : Nat.beq d t with
      | true =>
        rw [hb, cnd_t] at h
        injection h with h
        subst h
        refine ⟨Nat.le_refl _, ?_⟩
        rw [Nat.sub_self]
        show o.dst = _
        rw [hd, beq_e hb]
      | false =>
        rw [hb, cnd_f] at h
        obtain ⟨h1, h2⟩ := writer_some l (k + 1) j h
        refine ⟨by omega, ?_⟩
        rw [show j - k = (j - (k + 1)) + 1 by omega]; exact h2
theorem writer_none {t : Nat} : ∀ (l : List Oper) (k : Nat), writer t l k = none → ∀ j, dstAt l j ≠ some t
  | [], k, h, j => fun e => by cases e
  | o :: l, k, h, j => by
    unfold writer at h
    cases hd : o.dst with
    | none =>
      rw [hd] at h
      cases j with
      | zero => intro e; have e : o.dst = some t := e; rw [hd] at e; cases e
      | succ j => exact writer_none l (k + 1) h j
    | some d =>
      rw [hd] at h
      have h : cnd (Nat.beq d t) (some k) (writer t l (k + 1)) = none := h
      cases hb : Nat.beq d t with
      | true => rw [hb] at h; cases h
      | false =>
        rw [hb, cnd_f] at h
        cases j with
        | zero => intro e; have e : o.dst = some t := e; rw [hd] at e; injection e with e; exact beq_ne hb e
        | succ j => exact writer_none l (k + 1) h j
theorem once_uniq {t : Nat} : ∀ (l : List Oper), onceB l = true → ∀ i j, dstAt l i = some t → dstAt l j = some t → i = j
  | [], _, i, j, h, _ => by cases h
  | o :: l, h, i, j, hi, hj => by
    unfold onceB at h
    have rest : onceB l = true := by
      cases hd : o.dst with
      | none => rw [hd] at h; exact h
      | some d =>
        rw [hd] at h
        simp only at h
        split at h
        · cases h
        · exact h
    have head : ∀ j, o.dst = some t → dstAt l j ≠ some t := fun j hd => by
      rw [hd] at h
      simp only at h
      split at h
      · cases h
      · rename_i hn; exact writer_none l 0 hn j
    cases i with
    | zero =>
      cases j with
      | zero => rfl
      | succ j => exact absurd hj (head j hi)
    | succ i =>
      cases j with
      | zero => exact absurd hi (head i hj)
      | succ j => rw [once_uniq l rest i j hi hj]
theorem writer_once {t : Nat} (l : List Oper) (h : onceB l = true) {j : Nat} (hj : dstAt l j = some t) : writer t l 0 = some j := by
  cases hw : writer t l 0 with
  | none => exact absurd hj (writer_none l 0 hw j)
  | some k =>
    obtain ⟨_, h2⟩ := writer_some l 0 k hw
    rw [Nat.sub_zero] at h2
    rw [once_uniq l h j k hj h2]
/-- the frame at the end -/
theorem backB_get {W : Tr Bool} {nt : Nat} {t : Nat} (hW : memW W t = true) (b : A) : ∀ (l : List Oper) (k : Nat) (a : A), (∃ j, dstAt l j = some t ∧ (getS t).out ((backB W nt l k).out b a) = (getS (nt + (k + j))).out b) ∨ (getS t).out ((backB W nt l k).out b a) = bad ∨
    ((∀ j, dstAt l j ≠ some t) ∧ (getS t).out ((backB W nt l k).out b a) = (getS t).out a)
  | [], k, a => .inr (.inr ⟨fun j e => (by cases e), rfl⟩)
  | o :: l, k, a => by
    have up : ∀ a', (o.dst = some t → (getS t).out a' = (getS (nt + k)).out b ∨ (getS t).out a' = bad) → (o.dst ≠ some t → (getS t).out a' = (getS t).out a) → (backB W nt (o :: l) k).out b a = (backB W nt l (k + 1)).out b a' →
        (∃ j, dstAt (o :: l) j = some t ∧ (getS t).out ((backB W nt (o :: l) k).out b a) = (getS (nt + (k + j))).out b) ∨ (getS t).out ((backB W nt (o :: l) k).out b a) = bad ∨ ((∀ j, dstAt (o :: l) j ≠ some t) ∧ (getS t).out ((backB W nt (o :: l) k).out b a) = (getS t).out a) := by
      intro a' h1 h2 he
      rw [he]
      rcases backB_get hW b l (k + 1) a' with ⟨j, h3, h4⟩ | h3 | ⟨h3, h4⟩
      · exact .inl ⟨j + 1, h3, by rw [h4, show k + 1 + j = k + (j + 1) by omega]⟩
      · exact .inr (.inl h3)
      · by_cases hd : o.dst = some t
        · rcases h1 hd with h5 | h5
          · exact .inl ⟨0, hd, by rw [h4, h5]; rfl⟩
          · exact .inr (.inl (by rw [h4, h5]))
        · refine .inr (.inr ⟨fun j => ?_, by rw [h4, h2 hd]⟩)
          cases j with
          | zero => exact hd
          | succ j => exact h3 j
    cases hd : o.dst with
    | none =>
      refine up a (fun h => by rw [hd] at h; cases h) (fun _ => rfl) ?_
      simp only [backB, onB_eq, hd, Bx.out_mk]
    | some u =>
      cases hm : memW W u with
      | false =>
        refine up a (fun h => by rw [hd] at h; injection h with h; subst h; rw [hW] at hm; cases hm) (fun _ => rfl) ?_
        simp only [backB, onB_eq, hd, hm, cnd_f, Bx.out_mk]
      | true =>
        refine up ((setS u).out ((getS (nt + k)).out b) a) (fun h => ?_) (fun h => ?_) ?_
        · rw [hd] at h; injection h with h; subst h
          by_cases ht : u < 256
          · exact .inl (get_set_same u _ a ht)
          · right
            have hb : Nat.ble u 255 = false := ble_f (fun h => ht (Nat.lt_succ_of_le h))
            simp only [getS, hb, cnd_f, Bx.out_mk]
        · rw [hd] at h
          exact get_set_ne t u _ a fun e => h (by rw [e])
        · simp only [backB, onB_eq, hd, hm, cnd_t, Bx.out_mk, bkNext]; rfl
/-! stages -/
def Laid (qs : List QO) (c k : Nat) (h h' : H) : Prop := h'.n = h.n ∧ ∀ j, (∀ q ∈ qs, q.lo = k → j ≠ c + q.co.i) → h'.get j = h.get j
inductive Tail (s : S) (qs : List QO) (c : Nat) : Nat → List CO → H → A → List H → List (List AV) → Prop
  | nil {k : Nat} {h : H} {aF : A} : Tail s qs c k [] h aF [h] []
  | cons {k : Nat} {co : CO} {ls : List CO} {h : H} {a1 b : A} {ds : List ADef} {h2 h3 : H} {aF : A} {hs : List H} {rds : List (List AV)} : co.lf s [] a1 [] h keepK = .norm b ds h2 → Laid qs c (k + 1) h2 h3 → Tail s qs c (k + 1) ls h3 aF hs rds → Tail s qs c k (co :: ls) h aF (h :: hs) ((b.a0.a0 :: co.rd [] a1) :: rds)
theorem keepK_norm {v : AV} {ds : List ADef} {h : H} {a : A} {ds' : List ADef} {h' : H} (e : keepK v ds h = .norm a ds' h') : ds = [] ∧ a = rep16 (rep16 v) ∧ h' = h := by
  cases ds with
  | nil =>
    have e : Out.norm (rep16 (rep16 v)) [] h = .norm a ds' h' := e
    injection e with e1 e2 e3
    exact ⟨rfl, e1.symm, e3.symm⟩
  | cons d ds => cases e
theorem outQ_some {o : Out} {f : AV → H → Option Tra} {x : Tra} (h : outQ o f = some x) : ∃ a ds h', o = .norm a ds h' ∧ f a.a0.a0 h' = some x := by
  cases o with
  | norm a ds h' => exact ⟨a, ds, h', rfl, h⟩
  | _ => cases h
def PutOk (nt : Nat) (c : CO) : Prop := c.put = (setS (nt + c.i)).out
theorem qsB_ok {nt k c : Nat} : ∀ (qs : List QO), (∀ q ∈ qs, PutOk nt q.co) → ∀ (a : A) (h : H) (f : A → H → Option Tra) (x : Tra), (qsB k qs).out c a h f = some x → ∃ a' h', f a' h' = some x ∧ Laid qs c k h h' ∧ ∀ t, t < nt → (getS t).out a' = (getS t).out a
  | [], _, a, h, f, x, e => ⟨a, h, e, ⟨rfl, fun _ _ => rfl⟩, fun _ _ => rfl⟩
  | q :: qs, hp, a, h, f, x, e => by
    have hp' : ∀ q ∈ qs, PutOk nt q.co := fun q hq => hp q (List.mem_cons_of_mem _ hq)
    have hq := hp q (List.mem_cons_self ..)
    have same : ∀ v t, t < nt → (getS t).out (q.co.put v a) = (getS t).out a := fun v t ht => by rw [hq]; exact get_set_ne t _ v a (by omega)
    unfold qsB at e
    rw [onB_eq] at e
    cases hk : Nat.beq q.lo k with
    | false =>
      rw [hk, cnd_f] at e
      obtain ⟨a', h', h1, h2, h3⟩ := qsB_ok qs hp' a h f x e
      exact ⟨a', h', h1, ⟨h2.1, fun j hj => h2.2 j fun q hq hl => hj q (List.mem_cons_of_mem _ hq) hl⟩, h3⟩
    | true =>
      have hk' := beq_e hk
      rw [hk, cnd_t] at e
      have e : (q.co.qf a h (Nat.add c q.co.i)).on none (fun v => (qsB k qs).out c (q.co.put v a) h f) (fun v => (qsB k qs).out c (q.co.put v a) h f) (fun v o => (qsB k qs).out c (q.co.put v a) (h.set (Nat.add c q.co.i) o) f) = some x := e
      cases hr : q.co.qf a h (Nat.add c q.co.i) with
      | no => rw [hr] at e; cases e
      | v v =>
        rw [hr] at e
        obtain ⟨a', h', h1, h2, h3⟩ := qsB_ok qs hp' _ h f x e
        exact ⟨a', h', h1, ⟨h2.1, fun j hj => h2.2 j fun q hq hl => hj q (List.mem_cons_of_mem _ hq) hl⟩, fun t ht => (h3 t ht).trans (same v t ht)⟩
      | gho v =>
        rw [hr] at e
        obtain ⟨a', h', h1, h2, h3⟩ := qsB_ok qs hp' _ h f x e
        exact ⟨a', h', h1, ⟨h2.1, fun j hj => h2.2 j fun q hq hl => hj q (List.mem_cons_of_mem _ hq) hl⟩, fun t ht => (h3 t ht).trans (same v t ht)⟩
      | new v o =>
        rw [hr] at e
        obtain ⟨a', h', h1, h2, h3⟩ := qsB_ok qs hp' _ _ f x e
        refine ⟨a', h', h1, ⟨h2.1, fun j hj => ?_⟩, fun t ht => (h3 t ht).trans (same v t ht)⟩
        rw [h2.2 j fun q hq hl => hj q (List.mem_cons_of_mem _ hq) hl, H.set, put_get, if_neg]
        intro hc
        exact hj q (List.mem_cons_self ..) hk' hc.1
theorem stages_ok {nt c : Nat} {s : S} (qs : List QO) (hp : ∀ q ∈ qs, PutOk nt q.co) : ∀ (ls : List CO) (k : Nat), (∀ q ∈ ls, PutOk nt q) → ∀ (a : A) (h : H) (x : Tra), (stagesB qs k ls).out c s a h = some x → ∃ h1, Laid qs c k h h1 ∧ Tail s qs c k ls h1 x.1 x.2.1 x.2.2 ∧ ∀ t, t < nt → (getS t).out x.1 = (getS t).out a
  | [], k, _, a, h, x, e => by
    unfold stagesB at e
    rw [onB_eq] at e
    have e : (qsB k qs).out c a h (fun a h => some (a, [h], [])) = some x := e
    obtain ⟨a', h', h1, h2, h3⟩ := qsB_ok qs hp a h _ x e
    injection h1 with h1
    subst h1
    exact ⟨h', h2, .nil, h3⟩
  | co :: ls, k, hl, a, h, x, e => by
    unfold stagesB at e
    rw [onB_eq, onB_eq] at e
    have e : (qsB k qs).out c a h (fun a h => outQ (co.lf s [] a [] h keepK) fun v h' => onO ((stagesB qs (k + 1) ls).out c s (co.put v a) h') none fun x => some (x.1, h :: x.2.1, (v :: co.rd [] a) :: x.2.2)) = some x := e
    obtain ⟨a', h', h1, h2, h3⟩ := qsB_ok qs hp a h _ x e
    obtain ⟨b, ds, h4, h5, h6⟩ := outQ_some h1
    obtain ⟨y, h7, h8⟩ := onO_some h6
    injection h8 with h8
    subst h8
    obtain ⟨h9, l1, l2, l3⟩ := stages_ok qs hp ls (k + 1) (fun q hq => hl q (List.mem_cons_of_mem _ hq)) _ h4 y h7
    have hq := hl co (List.mem_cons_self ..)
    refine ⟨h', h2, ?_, fun t ht => ?_⟩
    · exact .cons h5 l1 l2
    · rw [l3 t ht, hq, get_set_ne t _ _ _ (by omega), h3 t ht]
end Go.Proofs.YtccadcefhfdmgaaGreatDoor.Ev
namespace Go.Proofs.YtccadcefhfdmgaaGreatDoor.Ev
open Go
section
variable {P : Program}
theorem gdX_eq (ops : Array Oper) : gdX ops none = .func 0 := rfl
structure COk (P : Program) (cc : Nat → Code → Bx CF) (rd : Bool) (nt : Nat) (W : Tr Bool) (ops : Array Oper) (ms : List Nat) (i : Nat) (o : Oper) (co : CO) : Prop where
  made : ∃ (m : Nat) (q : Op') (g : Option (Od × Bool)), nthL ms i = some m ∧ cOp P (cd2 nt W ops.toList m) o = some q ∧ cGd2 nt W m ops o.guard = some g ∧
    co = ⟨i, isLoud q, (getS (nt + i)).out, (setS (nt + i)).out, (guardB g (runB P cc rd q).out).out, (qGdB g (qRunB q).out).out, (odsB (cd2 nt W ops.toList m) (gdX ops o.guard :: o.op.operands.toList)).out⟩
  lt : ltT nt o.dst = true
  seen : tmpsB (seenB ops.toList ms i) o.op.operands.toList = true
  edges : edgesB i o.after.toList = true
theorem cOperD_some {cc : Nat → Code → Bx CF} {rd : Bool} {nt : Nat} {W : Tr Bool} {ops : Array Oper} {ms : List Nat} {i : Nat} {o : Oper} {co : CO} (h : cOperD P cc rd nt W ops ms i o = some co) : COk P cc rd nt W ops ms i o co := by
  unfold cOperD at h
  obtain ⟨m, h1, h⟩ := onO_some h
  obtain ⟨q, h2, h⟩ := onO_some h
  obtain ⟨g, h3, h⟩ := onO_some h
  obtain ⟨h4, h⟩ := cnd_some h
  obtain ⟨h5, h⟩ := cnd_some h
  simp only [onB_eq] at h
  obtain ⟨h6, h⟩ := cnd_some h
  injection h with h
  exact ⟨⟨m, q, g, h1, h2, h3, h.symm⟩, h4, h5, h6⟩
theorem cOpersD_some {cc : Nat → Code → Bx CF} {rd : Bool} {nt : Nat} {W : Tr Bool} {ops : Array Oper} {ms : List Nat} : ∀ (l : List Oper) (i : Nat) (all : List CO), cOpersD P cc rd nt W ops ms l i = some all →
    all.length = l.length ∧ ∀ (p : Nat) (o : Oper), l[p]? = some o → ∃ co, all[p]? = some co ∧ COk P cc rd nt W ops ms (i + p) o co
  | [], i, all, h => by injection h with h; subst h; exact ⟨rfl, fun p o ho => by cases ho⟩
  | o :: l, i, all, h => by
    unfold cOpersD at h
    obtain ⟨c, h1, h⟩ := onO_some h
    obtain ⟨m, h2, h⟩ := onO_some h
    injection h with h
    subst h
    obtain ⟨h3, h4⟩ := cOpersD_some l (i + 1) m h2
    refine ⟨by simp [h3], fun p o' ho => ?_⟩
    cases p with
    | zero => injection ho with ho; subst ho; exact ⟨c, rfl, cOperD_some h1⟩
    | succ p =>
      obtain ⟨co, h5, h6⟩ := h4 p o' ho
      exact ⟨co, h5, by rw [show i + (p + 1) = i + 1 + p by omega]; exact h6⟩
theorem edgesB_lt {i : Nat} : ∀ (l : List Edge), edgesB i l = true → ∀ e ∈ l, Region.binds .any e = true → e.on < i
  | [], _, e, he, _ => by cases he
  | x :: l, h, e, he, hb => by
    have h : cnd (Region.binds .any x) (cnd (Nat.ble (Nat.succ x.on) i) (edgesB i l) false) (edgesB i l) = true := h
    rcases List.mem_cons.1 he with rfl | he
    · rw [hb, cnd_t] at h
      cases h2 : Nat.ble (Nat.succ e.on) i with
      | true => exact ble_le h2
      | false => rw [h2] at h; cases h
    · refine edgesB_lt l ?_ e he hb
      cases hx : Region.binds .any x with
      | true =>
        rw [hx, cnd_t] at h
        cases h2 : Nat.ble (Nat.succ x.on) i with
        | true => rw [h2] at h; exact h
        | false => rw [h2] at h; cases h
      | false => rw [hx] at h; exact h
theorem tmpsB_mem {f : Nat → Bool} : ∀ (l : List Operand), tmpsB f l = true → ∀ t, Operand.tmp t ∈ l → f t = true
  | [], _, t, h => by cases h
  | x :: l, h, t, ht => by
    cases x with
    | tmp u =>
      have h : cnd (f u) (tmpsB f l) false = true := h
      cases hu : f u with
      | false => rw [hu] at h; cases h
      | true =>
        rw [hu, cnd_t] at h
        rcases List.mem_cons.1 ht with ht | ht
        · injection ht with ht; subst ht; exact hu
        · exact tmpsB_mem l h t ht
    | const v => exact tmpsB_mem l h t (by simpa using ht)
    | global v => exact tmpsB_mem l h t (by simpa using ht)
    | func v => exact tmpsB_mem l h t (by simpa using ht)
/-- the slots while a region is under way -/
structure SlotD (E : Env) (R : Nat → Prop) (W : Tr Bool) (nt : Nat) (l : List Oper) (aF a0 : A) (L : Nat → Prop) (tmps : Array Value) : Prop where
  new : ∀ j t, dstAt l j = some t → L j → Rel E R ((getS (nt + j)).out aF) (tmps.getD t undef)
  old : ∀ t, memW W t = true → (∀ j, dstAt l j = some t → ¬ L j) → Rel E R ((getS t).out a0) (tmps.getD t undef)
theorem SlotD.step {E E' : Env} {R R' : Nat → Prop} {W : Tr Bool} {nt : Nat} {l : List Oper} {aF a0 : A} {L : Nat → Prop} {tmps : Array Value} (x : SlotD E R W nt l aF a0 L tmps) (hR : ∀ i, R i → R' i) (hE : ∀ i, R i → E.Agree E' i) : SlotD E' R' W nt l aF a0 L tmps :=
  ⟨fun j t h1 h2 => (x.new j t h1 h2).mono hR hE, fun t h1 h2 => (x.old t h1 h2).mono hR hE⟩
theorem SlotD.put {E : Env} {R : Nat → Prop} {W : Tr Bool} {nt : Nat} {l : List Oper} {aF a0 : A} {L L' : Nat → Prop} {act : Act} {i : Nat} {d : Option Nat} {v' : Value} (x : SlotD E R W nt l aF a0 L act.tmps) (hon : onceB l = true) (hL : ∀ j, L' j ↔ L j ∨ j = i) (hd : dstAt l i = d) (hlt : ∀ t, d = some t → t < act.tmps.size)
    (hr : Rel E R ((getS (nt + i)).out aF) v') : SlotD E R W nt l aF a0 L' (act.put d v').tmps := by
  cases d with
  | none =>
    refine ⟨fun j t h1 h2 => ?_, fun t h1 h2 => x.old t h1 fun j hj hc => h2 j hj ((hL j).2 (.inl hc))⟩
    rcases (hL j).1 h2 with h | rfl
    · exact x.new j t h1 h
    · rw [hd] at h1; cases h1
  | some u =>
    have hu := hlt u rfl
    show SlotD E R W nt l aF a0 L' (act.tmps.setIfInBounds u v')
    refine ⟨fun j t h1 h2 => ?_, fun t h1 h2 => ?_⟩
    · rw [getD_set _ _ _ _ hu]
      by_cases e : t = u
      · subst e
        rw [if_pos rfl, once_uniq l hon j i h1 hd]; exact hr
      · rw [if_neg e]
        rcases (hL j).1 h2 with h | rfl
        · exact x.new j t h1 h
        · rw [hd] at h1; injection h1 with h1; exact absurd h1.symm e
    · rw [getD_set _ _ _ _ hu]
      by_cases e : t = u
      · subst e
        exact absurd ((hL i).2 (.inr rfl)) (h2 i hd)
      · rw [if_neg e]
        exact x.old t h1 fun j hj hc => h2 j hj ((hL j).2 (.inl hc))
/-- a slot that a ready operation looks at -/
theorem slot_rel {E : Env} {R : Nat → Prop} {W : Tr Bool} {nt : Nat} {l : List Oper} {ms : List Nat} {aF a0 : A} {L : Nat → Prop} {tmps : Array Value} {i m t : Nat} (x : SlotD E R W nt l aF a0 L tmps) (hon : onceB l = true) (hag : ∀ t, t < nt → (getS t).out aF = (getS t).out a0) (hc : Closed ms L) (hi : ¬ L i) (hr : ∀ b, bit (msk ms i) b = true → L b)
    (hm : nthL ms i = some m) (hs : seenB l ms i t = true) (e : List AV) : Rel E R ((cd2 nt W l m (.tmp t)).out e aF) (tmps.getD t undef) := by
  have hmm : msk ms i = m := by simp only [msk, hm, Option.getD_some]
  unfold cd2
  simp only
  unfold seenB at hs
  have old : (∀ j, dstAt l j = some t → ¬ L j) → Rel E R ((cnd (in2 nt W t) (odS t) (odK bad)).out e aF) (tmps.getD t undef) := by
    intro h
    cases h1 : in2 nt W t with
    | false => exact Rel.bad E R _
    | true =>
      rw [cnd_t, odS_out]
      have h1 : cnd (Nat.ble (Nat.succ t) nt) (memW W t) false = true := h1
      cases h2 : Nat.ble (Nat.succ t) nt with
      | false => rw [h2] at h1; cases h1
      | true =>
        rw [h2, cnd_t] at h1
        rw [hag t (ble_le h2)]
        exact x.old t h1 h
  cases hw : writer t l 0 with
  | none => exact old fun j hj => absurd hj (writer_none l 0 hw j)
  | some j =>
    obtain ⟨_, hj⟩ := writer_some l 0 j hw
    rw [Nat.sub_zero] at hj
    rw [hw] at hs
    simp only at hs ⊢
    cases hb : bit m j with
    | true =>
      rw [cnd_t, odS_out]
      exact x.new j t hj (hr j (by rw [hmm]; exact hb))
    | false =>
      rw [cnd_f]
      refine old fun j' hj' hL => ?_
      rw [once_uniq l hon j' j hj' hj] at hL
      have hs : orB (bit (msk ms i) j) (bit (msk ms j) i) = true := hs
      rw [hmm, hb] at hs
      exact hi (hc j hL i hs)
theorem inv_lay {E : Env} {R : Nat → Prop} {h h' : H} {w0 w : World} (inv : Inv P E R h w0 w) (hn : h.n ≤ h'.n) (hg : ∀ j, R j → h'.get j = h.get j) (ht : ∀ i, h'.n ≤ i → h'.get i = none) : Inv P E R h' w0 w :=
  ⟨fun i hi => Nat.lt_of_lt_of_le (inv.dom i hi) hn, ht, fun i o hi ho => inv.low i o hi (hg i hi ▸ ho), fun i j o p hi hj ho hp he => inv.inj i j o p hi hj (hg i hi ▸ ho) (hg j hj ▸ hp) he, fun i o hi ho => inv.obj i o hi (hg i hi ▸ ho), inv.bel⟩
theorem inv_drew2 {E : Env} {R : Nat → Prop} {h : H} {w0 w : World} (inv : Inv P E R h w0 w) : Inv P E R h w0 { w with drawn := w.drawn + 1 } :=
  ⟨inv.dom, inv.top, inv.low, inv.inj, fun i o hi ho => objOk_step (fun _ _ => ⟨rfl, rfl, rfl, rfl⟩) (fun _ h => h) hi rfl (inv.obj i o hi ho), inv.bel.trans ⟨rfl, rfl, rfl, Nat.le_refl _, fun _ _ => rfl⟩⟩
/-! louds and quiets -/
theorem louds_mem : ∀ (l : List CO) (c : CO), c ∈ loudsOf l ↔ c ∈ l ∧ c.ld = true
  | [], c => by simp [loudsOf]
  | d :: l, c => by
    unfold loudsOf
    cases hd : d.ld with
    | true =>
      rw [cnd_t, List.mem_cons, louds_mem l c, List.mem_cons]
      constructor
      · rintro (rfl | ⟨h1, h2⟩)
        · exact ⟨.inl rfl, hd⟩
        · exact ⟨.inr h1, h2⟩
      · rintro ⟨rfl | h1, h2⟩
        · exact .inl rfl
        · exact .inr ⟨h1, h2⟩
    | false =>
      rw [cnd_f, louds_mem l c, List.mem_cons]
      constructor
      · rintro ⟨h1, h2⟩; exact ⟨.inr h1, h2⟩
      · rintro ⟨rfl | h1, h2⟩
        · rw [hd] at h2; cases h2
        · exact ⟨h1, h2⟩
theorem quiets_mem : ∀ (l : List CO) (c : CO), c ∈ quietsOf l ↔ c ∈ l ∧ c.ld = false
  | [], c => by simp [quietsOf]
  | d :: l, c => by
    unfold quietsOf
    cases hd : d.ld with
    | false =>
      rw [cnd_f, List.mem_cons, quiets_mem l c, List.mem_cons]
      constructor
      · rintro (rfl | ⟨h1, h2⟩)
        · exact ⟨.inl rfl, hd⟩
        · exact ⟨.inr h1, h2⟩
      · rintro ⟨rfl | h1, h2⟩
        · exact .inl rfl
        · exact .inr ⟨h1, h2⟩
    | true =>
      rw [cnd_t, quiets_mem l c, List.mem_cons]
      constructor
      · rintro ⟨h1, h2⟩; exact ⟨.inr h1, h2⟩
      · rintro ⟨rfl | h1, h2⟩
        · rw [hd] at h2; cases h2
        · exact ⟨h1, h2⟩
theorem qos_mem (ms : List Nat) (ls : List CO) : ∀ (l : List CO) (q : QO), q ∈ qosOf ms ls l ↔ ∃ c ∈ l, q = ⟨c, stageOf (msk ms c.i) ls, lastOf ms c.i ls⟩
  | [], q => by simp [qosOf]
  | c :: l, q => by
    have e : qosOf ms ls (c :: l) = ⟨c, stageOf (msk ms c.i) ls, lastOf ms c.i ls⟩ :: qosOf ms ls l := by simp only [qosOf, stN_eq]; rfl
    rw [e, List.mem_cons, qos_mem ms ls l q]
    constructor
    · rintro (rfl | ⟨d, h1, h2⟩)
      · exact ⟨c, List.mem_cons_self .., rfl⟩
      · exact ⟨d, List.mem_cons_of_mem _ h1, h2⟩
    · rintro ⟨d, h1, h2⟩
      rcases List.mem_cons.1 h1 with rfl | h1
      · exact .inl h2
      · exact .inr ⟨d, h1, h2⟩
theorem stageOf_bit (m : Nat) : ∀ (ls : List CO) (p : Nat), p < stageOf m ls → ∃ c, ls[p]? = some c ∧ bit m c.i = true
  | [], p, h => by simp [stageOf] at h
  | c :: l, p, h => by
    unfold stageOf at h
    cases hb : bit m c.i with
    | false => rw [hb] at h; exact absurd h (Nat.not_lt_zero _)
    | true =>
      rw [hb, cnd_t] at h
      cases p with
      | zero => exact ⟨c, rfl, hb⟩
      | succ p => exact stageOf_bit m l p (by omega)
theorem lastOf_bit (ms : List Nat) (i : Nat) : ∀ (ls : List CO), lastOf ms i ls ≤ ls.length ∧ (lastOf ms i ls < ls.length → ∃ c, ls[lastOf ms i ls]? = some c ∧ bit (msk ms c.i) i = true)
  | [] => ⟨Nat.le_refl _, fun h => absurd h (Nat.not_lt_zero _)⟩
  | c :: l => by
    unfold lastOf
    obtain ⟨h1, h2⟩ := lastOf_bit ms i l
    have e : (nthL ms c.i).getD 0 = msk ms c.i := rfl
    rw [e]
    cases hb : bit (msk ms c.i) i with
    | true => rw [cnd_t]; exact ⟨Nat.zero_le _, fun _ => ⟨c, rfl, hb⟩⟩
    | false =>
      rw [cnd_f]
      refine ⟨by simpa using h1, fun h => ?_⟩
      obtain ⟨d, h3, h4⟩ := h2 (by simpa using h)
      exact ⟨d, h3, h4⟩
theorem chain_bit (ms : List Nat) : ∀ (ls : List CO), chainB ms ls = true → ∀ (p : Nat) (a b : CO), ls[p]? = some a → ls[p + 1]? = some b → bit (msk ms b.i) a.i = true
  | [], _, p, a, b, h, _ => by cases h
  | [c], _, p, a, b, _, h => by simp at h
  | c :: d :: l, h, p, a, b, ha, hb => by
    have h : cnd (bit (msk ms d.i) c.i) (chainB ms (d :: l)) false = true := h
    cases h1 : bit (msk ms d.i) c.i with
    | false => rw [h1] at h; cases h
    | true =>
      rw [h1, cnd_t] at h
      cases p with
      | zero => injection ha with ha; injection hb with hb; subst ha hb; exact h1
      | succ p => exact chain_bit ms (d :: l) h p a b ha hb
end
end Go.Proofs.YtccadcefhfdmgaaGreatDoor.Ev
namespace Go.Proofs.YtccadcefhfdmgaaGreatDoor.Ev
open Go
noncomputable def tryC (c : Nat) (a : A) (q : QO) (h : H) : Bool := (q.co.qf a h (Nat.add c q.co.i)).on false (fun v => eqV v (q.co.get a)) (fun v => cnd (eqV v (q.co.get a)) (onO (h.get (Nat.add c q.co.i)) true fun _ => false) false) fun v o => cnd (eqV v (q.co.get a)) (eqO o (h.get (Nat.add c q.co.i))) false
theorem tryQ_at (c : Nat) (a : A) (q : QO) : ∀ (hs : List H) (k p : Nat) (h : H), tryQ c a q hs k = true → hs[p]? = some h → q.lo ≤ k + p → k + p ≤ q.hi → tryC c a q h = true
  | [], k, p, h, _, e, _, _ => by cases e
  | x :: hs, k, p, h, ht, e, h1, h2 => by
    have ht : cnd (cnd (Nat.ble q.lo k) (Nat.ble k q.hi) false) (cnd (tryC c a q x) (tryQ c a q hs (k + 1)) false) (tryQ c a q hs (k + 1)) = true := ht
    cases p with
    | zero =>
      injection e with e
      subst e
      rw [ble_t (show q.lo ≤ k from h1), cnd_t, ble_t (show k ≤ q.hi from h2), cnd_t] at ht
      cases hc : tryC c a q x with
      | true => rfl
      | false => rw [hc] at ht; cases ht
    | succ p =>
      refine tryQ_at c a q hs (k + 1) p h ?_ e (by omega) (by omega)
      cases h3 : cnd (Nat.ble q.lo k) (Nat.ble k q.hi) false with
      | false => rw [h3] at ht; exact ht
      | true =>
        rw [h3, cnd_t] at ht
        cases h4 : tryC c a q x with
        | true => rw [h4] at ht; exact ht
        | false => rw [h4] at ht; cases ht
theorem tryQs_mem (c : Nat) (a : A) (hs : List H) : ∀ (qs : List QO), tryQs c a hs qs = true → ∀ q ∈ qs, tryQ c a q hs 0 = true
  | [], _, q, h => by cases h
  | x :: qs, h, q, hq => by
    have h : cnd (tryQ c a x hs 0) (tryQs c a hs qs) false = true := h
    cases h1 : tryQ c a x hs 0 with
    | false => rw [h1] at h; cases h
    | true =>
      rw [h1, cnd_t] at h
      rcases List.mem_cons.1 hq with rfl | hq
      · exact h1
      · exact tryQs_mem c a hs qs h q hq
theorem tail_head {s : S} {qs : List QO} {c k : Nat} {ls : List CO} {h : H} {aF : A} {hs : List H} {rds : List (List AV)} (t : Tail s qs c k ls h aF hs rds) : hs[0]? = some h := by cases t <;> rfl
theorem eqRow_eq {r s : Row} (h : eqRow r s = true) : r = s := by
  cases r with
  | sm l =>
    cases s with
    | sm m => rw [eqVs_eq l m h]
    | big t n c z => cases h
  | big t n c z =>
    cases s with
    | sm m => cases h
    | big t' n' c' z' =>
      have h : cnd (isE t) (cnd (isE t') (cnd (Nat.beq n n') (cnd (Nat.beq c c') (eqVs z z') false) false) false) false = true := h
      cases t with
      | n v l r => cases h
      | e =>
        cases t' with
        | n v l r => cases h
        | e =>
          have h : cnd (Nat.beq n n') (cnd (Nat.beq c c') (eqVs z z') false) false = true := h
          cases h1 : Nat.beq n n' with
          | false => rw [h1] at h; cases h
          | true =>
            rw [h1, cnd_t] at h
            cases h2 : Nat.beq c c' with
            | false => rw [h2] at h; cases h
            | true =>
              rw [h2, cnd_t] at h
              rw [beq_e h1, beq_e h2, eqVs_eq z z' h]
theorem eqO_eq {x : AO} {y : Option AO} (h : eqO x y = true) : y = some x := by
  cases x with
  | cells r sp =>
    cases y with
    | none => cases h
    | some y =>
      cases y with
      | cells r' sp' =>
        have h : cnd (Nat.beq sp sp') (eqRow r r') false = true := h
        cases h1 : Nat.beq sp sp' with
        | false => rw [h1] at h; cases h
        | true => rw [h1, cnd_t] at h; rw [beq_e h1, eqRow_eq h]
      | _ => cases h
  | map es c =>
    cases y with
    | none => cases h
    | some y =>
      cases y with
      | map es' c' =>
        cases es with
        | cons a l => cases h
        | nil =>
          cases es' with
          | cons a l => cases h
          | nil =>
            have h : Nat.beq c c' = true := h
            rw [beq_e h]
      | _ => cases h
  | iter m a b c => cases h
  | loop => cases h
  | dfr => cases h
section
variable {P : Program}
structure DJ (P : Program) (s : S) (qs : List QO) (nt : Nat) (W : Tr Bool) (l : List Oper) (ms : List Nat) (lds : List CO) (aF a0 : A) (c n : Nat) (E0 : Env) (R0 : Nat → Prop) (h0 : H) (w0 : World) (hsA : List H) (defs : List Deferred) (L : Nat → Prop) (act : Act) (w : World) : Prop where
  ex : ∃ (k : Nat) (ls : List CO) (h : H) (hs : List H) (rds : List (List AV)) (E : Env) (R : Nat → Prop), Tail s qs c k ls h aF hs rds ∧ (∀ p, hsA[k + p]? = hs[p]?) ∧ tryLs aF ls rds = true ∧ ls = lds.drop k ∧ k ≤ lds.length ∧ Inv P E R h w0 w ∧ Step E0 R0 h0 E R h ∧
    (∀ j, j < n → ¬ L j → ¬ R (c + j)) ∧ c + n ≤ h.n ∧ (∀ p co, lds[p]? = some co → (L co.i ↔ p < k)) ∧ SlotD E R W nt l aF a0 L act.tmps
  closed : Closed ms L
  nt : nt ≤ act.tmps.size
  defs : act.defers = defs
theorem cGd2_some {nt m : Nat} {W : Tr Bool} {ops : Array Oper} {j : Nat} {wn : Bool} {g : Option (Od × Bool)} (h : cGd2 nt W m ops (some (j, wn)) = some g) : ∃ t, dstAt ops.toList j = some t ∧ bit m j = true ∧ gdX ops (some (j, wn)) = .tmp t ∧ g = some ((cd2 nt W ops.toList m (.tmp t)).out, wn) := by
  unfold cGd2 at h
  simp only at h
  split at h
  · rename_i t ht
    obtain ⟨h1, h2⟩ := cnd_some h
    rw [onB_eq] at h2
    injection h2 with h2
    refine ⟨t, by simpa [dstAt] using ht, h1, ?_, h2.symm⟩
    simp only [gdX, ht]
  · cases h
theorem draw_step {s : S} (sok : SOk P s) {cc : Nat → Code → Bx CF} (hcc : RoundsOk P cc) {rd : Bool} {r : Option Nat} {n nt : Nat} {W : Tr Bool} {ops : Array Oper} {w0 : World} {Q : Exit → Act → World → Prop} (hrd : rd = false → r = none)
    {l : List Oper} (hl : l = ops.toList) {ms : List Nat} (hms : ms = masks l []) {all : List CO} (hall : cOpersD P cc rd nt W ops ms l 0 = some all) {lds : List CO} (hlds : lds = loudsOf all) {qs : List QO} (hqs : qs = qosOf ms lds (quietsOf all)) (hch : chainB ms lds = true) (hon : onceB l = true)
    {aF a0 : A} {c : Nat} {E0 : Env} {R0 : Nat → Prop} {h0 : H} {hsA : List H} {defs : List Deferred} (hc0 : c = h0.n) (hag : ∀ t, t < nt → (getS t).out aF = (getS t).out a0) (htq : tryQs c aF hsA qs = true) (hdom : ∀ i, R0 i → i < h0.n)
    (L : Nat → Prop) (i : Nat) (oi : Oper) (act : Act) (w : World) (hoi : ops[i]? = some oi) (hi : ¬ L i) (haf : ∀ e ∈ oi.after, Region.binds .any e = true → L e.on) (J : DJ P s qs nt W l ms lds aF a0 c all.length E0 R0 h0 w0 hsA defs L act w)
    (K : Act → World → Prop) (hK : ∀ (L' : Nat → Prop) a' w', (∀ j, L' j ↔ L j ∨ j = i) → DJ P s qs nt W l ms lds aF a0 c all.length E0 R0 h0 w0 hsA defs L' a' w' → K a' w') : wpOpIn (FW r) n P ops Q i K act w := by
  obtain ⟨⟨k, ls, h, hs, rds, E, R, tl, hhs, htl, hls, hkl, inv, st0, hfree, hcn, hpos, sl⟩, hcl, hnt, hdf⟩ := J
  obtain ⟨hlen, hco⟩ := cOpersD_some l 0 all hall
  have hli : l[i]? = some oi := by rw [hl]; simpa using hoi
  obtain ⟨co, hci, cok⟩ := hco i oi hli
  rw [Nat.zero_add] at cok
  have hidx : ∀ c' ∈ all, all[c'.i]? = some c' := fun c' hc' => by
    obtain ⟨p, hp⟩ := List.mem_iff_getElem?.1 hc'
    have hpl : p < l.length := by rw [← hlen]; exact (List.getElem?_eq_some_iff.1 hp).1
    obtain ⟨c2, h1, h2⟩ := hco p _ (List.getElem?_eq_getElem hpl)
    rw [hp] at h1
    injection h1 with h1
    subst h1
    obtain ⟨_, _, _, _, _, _, h3⟩ := h2.made
    have : c'.i = p := by rw [h3]; simp
    rw [this]; exact hp
  have hin : i < all.length := (List.getElem?_eq_some_iff.1 hci).1
  obtain ⟨m, q, g, hm, hq, hg, hcoe⟩ := cok.made
  have hci2 : co.i = i := by rw [hcoe]
  have hready : ∀ b, bit (msk ms i) b = true → L b := fun b hb => by rw [hms] at hb hcl; exact ready_bits hcl hli haf b hb
  have hlt : ∀ t, oi.dst = some t → t < act.tmps.size := fun t ht => Nat.lt_of_lt_of_le (ltT_lt cok.lt t ht) hnt
  have hdst : dstAt l i = oi.dst := by simp only [dstAt, hli, Option.bind_some]
  have hrel : ∀ x ∈ oi.op.operands.toList, Rel E R ((cd2 nt W l m x).out [] aF) (act.eval x) := by
    intro x hx
    cases x with
    | tmp t => exact slot_rel sl hon hag hcl hi hready hm (by rw [hl]; exact tmpsB_mem _ cok.seen t hx) []
    | const v =>
      show Rel E R ((toA v).getD bad) v
      cases hv : toA v with
      | none => exact Rel.bad E R _
      | some u =>
        obtain ⟨h1, h2⟩ := toA_rel E R v u hv
        exact fun _ => ⟨h2, h1.symm⟩
    | global g => exact Rel.bad E R _
    | func f => exact fun _ => ⟨⟨trivial, trivial⟩, rfl⟩
  have hop : OpOk P oi (cd2 nt W ops.toList m) q := cOp_ok (fun _ _ _ => rfl) (fun c r m ho hc => cInv_ok ho hc) hq
  have grel : ∀ j wn t, oi.guard = some (j, wn) → dstAt ops.toList j = some t → bit m j = true → Rel E R ((cd2 nt W l m (.tmp t)).out [] aF) (act.tmps.getD t undef) := by
    intro j wn t _ hj hb
    refine slot_rel sl hon hag hcl hi hready hm ?_ []
    have hw : writer t l 0 = some j := writer_once l hon (by rw [hl]; exact hj)
    simp only [seenB, hw, hm, Option.getD_some, hb]; rfl
  unfold wpOpIn
  simp only [hoi]
  cases hld : co.ld with
  | false =>
    have hql : isLoud q = false := by rw [hcoe] at hld; exact hld
    obtain ⟨qq, hqq⟩ : ∃ qq : QO, qq = ⟨co, stageOf (msk ms co.i) lds, lastOf ms co.i lds⟩ := ⟨_, rfl⟩
    have hmem : qq ∈ qs := by
      rw [hqs, qos_mem]
      exact ⟨co, (quiets_mem all co).2 ⟨List.mem_of_getElem? hci, hld⟩, hqq⟩
    have hlo : qq.lo ≤ k := by
      by_cases hlt : k < qq.lo
      · rw [hqq] at hlt
        obtain ⟨c', h1, h2⟩ := stageOf_bit (msk ms co.i) lds k hlt
        rw [hci2] at h2
        have := (hpos k c' h1).1 (hready _ h2)
        omega
      · omega
    have hhi : k ≤ qq.hi := by
      by_cases hlt : qq.hi < k
      · rw [hqq] at hlt
        obtain ⟨h1, h2⟩ := lastOf_bit ms co.i lds
        have hlt : lastOf ms co.i lds < k := hlt
        obtain ⟨c', h3, h4⟩ := h2 (by omega)
        have := (hpos _ c' h3).2 hlt
        rw [hci2] at h4
        exact absurd (hcl _ this i h4) hi
      · omega
    have htry := tryQ_at c aF qq hsA 0 k h (tryQs_mem c aF hsA qs htq qq hmem) (by have := hhs 0; rw [Nat.add_zero] at this; rw [this, tail_head tl]) (by omega) (by omega)
    have finq : ∀ (E' : Env) (R' : Nat → Prop) (w' : World) (v' : Value), Inv P E' R' h w0 w' → (∀ j, R j → R' j) → (∀ j, R j → E.Agree E' j) → Step E0 R0 h0 E' R' h → (∀ j, j < all.length → j ≠ i → ¬ L j → ¬ R' (c + j)) → Rel E' R' ((getS (nt + i)).out aF) v' → K (act.put oi.dst v') w' := by
      intro E' R' w' v' inv' hR hE st' hfr hr
      refine hK (fun j => L j ∨ j = i) _ _ (fun j => Iff.rfl) ⟨⟨k, ls, h, hs, rds, E', R', tl, hhs, htl, hls, hkl, inv', st', fun j hj hn => hfr j hj (fun e => hn (.inr e)) (fun e => hn (.inl e)), hcn, fun p co' hp => ?_, ?_⟩, closed_add (fun j => Iff.rfl) hcl hready, by rw [put_size]; exact hnt, by rw [put_defs]; exact hdf⟩
      · have hco' := List.mem_of_getElem? hp
        rw [hlds, louds_mem] at hco'
        constructor
        · rintro (h1 | h1)
          · exact (hpos p co' hp).1 h1
          · have := hidx co' hco'.1
            rw [h1, hci] at this
            injection this with this
            rw [← this, hld] at hco'
            cases hco'.2
        · exact fun h1 => .inl ((hpos p co' hp).2 h1)
      · exact (sl.step hR hE).put hon (fun j => Iff.rfl) hdst hlt hr
    have same : ∀ (v : AV) (v' : Value), eqV v ((getS (nt + i)).out aF) = true → Rel E R v v' → K (act.put oi.dst v') w := fun v v' he hr =>
      finq E R w v' inv (fun _ h => h) (fun _ _ => ⟨rfl, rfl, rfl, rfl⟩) st0 (fun j hj _ hn => hfree j hj hn) (by rw [← eqV_eq _ _ he]; exact hr)
    have hni : ¬ R (c + i) := hfree i hin hi
    have stq : ∀ (E' : Env), (∀ j, j ≠ c + i → E.Agree E' j) → Step E0 R0 h0 E' (fun j => R j ∨ j = c + i) h := fun E' hag' => by
      refine ⟨st0.le, fun j hj => ?_, fun j hj => .inl (st0.real j hj), fun j hj hn => ?_⟩
      · have a1 := st0.env j hj
        have a2 := hag' j (by have := hdom j hj; omega)
        exact ⟨a2.blk.trans a1.blk, a2.base.trans a1.base, a2.xc.trans a1.xc, a2.num.trans a1.num⟩
      · obtain ⟨b1, b2⟩ := st0.rest j hj hn
        exact ⟨fun hc => hc.elim b1 fun e => by omega, b2⟩
    have doq : ∀ x : QR, x = (qRunB q).out aF h (c + i) → (x.on false (fun v => eqV v ((getS (nt + i)).out aF)) (fun v => cnd (eqV v ((getS (nt + i)).out aF)) (onO (h.get (c + i)) true fun _ => false) false) fun v o => cnd (eqV v ((getS (nt + i)).out aF)) (eqO o (h.get (c + i))) false) = true →
        oi.wpIn (FW r) n P act w K Q := by
      intro x hx hchk
      refine ⟨fun _ _ => trivial, ?_⟩
      have hnd : ∀ c, oi.op ≠ .defer c := fun c hc => by
        obtain ⟨f, l, h⟩ := cOp_defer hq c hc
        rw [h] at hql; cases hql
      rw [Oper.semAt_eq _ _ _ hnd]
      rw [← hl] at hop
      cases q with
      | val f =>
        have hx : x = onO (f [] aF h) .no .v := hx
        cases hf : f [] aF h with
        | none => rw [hf] at hx; subst hx; cases hchk
        | some v =>
          rw [hf] at hx; subst hx
          obtain ⟨v', h1, h2⟩ := hop E R h w0 w [] aF act.eval v inv hrel hf
          rw [h1, Oper.uponIn_value]
          exact same v v' hchk h2
      | new f =>
        have hx : x = onO (f [] aF h (c + i)) .no fun x => onP x .new := hx
        cases hf : f [] aF h (c + i) with
        | none => rw [hf] at hx; subst hx; cases hchk
        | some y =>
          obtain ⟨v, ob⟩ := y
          rw [hf] at hx; subst hx
          have hchk : cnd (eqV v ((getS (nt + i)).out aF)) (eqO ob (h.get (c + i))) false = true := hchk
          cases he : eqV v ((getS (nt + i)).out aF) with
          | false => rw [he] at hchk; cases hchk
          | true =>
            rw [he, cnd_t] at hchk
            have hob := eqO_eq hchk
            obtain ⟨v', x, w', E', h1, h2, h3, h4, h5, h6⟩ := hop E R h w0 w [] aF act.eval (c + i) v ob inv hrel hf hni
            rw [h1, Oper.uponIn_value]
            refine finq E' _ w' v' (inv_new inv hni h2 h3 h4 h6 (by omega) (fun o ho => by rw [hob] at ho; injection ho with ho; exact ho.symm) (fun _ _ => rfl) (Nat.le_refl _) inv.top) (fun _ h => .inl h) (fun j hj => h3 j fun e => hni (e ▸ hj)) (stq E' h3) (fun j hj hne hn hc => ?_) (by rw [← eqV_eq _ _ he]; exact h5)
            exact hc.elim (hfree j hj hn) fun e => hne (by omega)
      | gho f =>
        have hx : x = onO (f [] aF h (c + i)) .no fun x => onP x fun v g => cnd g (.gho v) (.v v) := hx
        cases hf : f [] aF h (c + i) with
        | none => rw [hf] at hx; subst hx; cases hchk
        | some y =>
          obtain ⟨v, gh⟩ := y
          rw [hf] at hx
          obtain ⟨v', h1, h2, h3⟩ := hop E R h w0 w [] aF act.eval (c + i) v gh inv hrel hf
          rw [h1, Oper.uponIn_value]
          cases gh with
          | false => subst hx; exact same v v' hchk (h2 rfl)
          | true =>
            subst hx
            have hchk : cnd (eqV v ((getS (nt + i)).out aF)) (onO (h.get (c + i)) true fun _ => false) false = true := hchk
            cases he : eqV v ((getS (nt + i)).out aF) with
            | false => rw [he] at hchk; cases hchk
            | true =>
              rw [he, cnd_t] at hchk
              have hob : h.get (c + i) = none := by
                cases hx : h.get (c + i) with
                | none => rfl
                | some o => rw [hx] at hchk; cases hchk
              obtain ⟨E', h4, h5⟩ := h3 rfl hni
              refine finq E' _ w v' (inv_gho inv hni h4 (by omega) hob (fun _ _ => rfl) (Nat.le_refl _) inv.top) (fun _ h => .inl h) (fun j hj => h4 j fun e => hni (e ▸ hj)) (stq E' h4) (fun j hj hne hn hc => ?_) (by rw [← eqV_eq _ _ he]; exact h5)
              exact hc.elim (hfree j hj hn) fun e => hne (by omega)
      | _ => cases hql
    have hget : qq.co.get = (getS (nt + i)).out := by rw [hqq, hcoe]
    have hqf : qq.co.qf = (qGdB g (qRunB q).out).out := by rw [hqq, hcoe]
    have hqi : Nat.add c qq.co.i = c + i := by rw [hqq]; show c + co.i = _; rw [hci2]
    have htry : ((qGdB g (qRunB q).out).out aF h (c + i)).on false (fun v => eqV v ((getS (nt + i)).out aF)) (fun v => cnd (eqV v ((getS (nt + i)).out aF)) (onO (h.get (c + i)) true fun _ => false) false) (fun v o => cnd (eqV v ((getS (nt + i)).out aF)) (eqO o (h.get (c + i))) false) = true := by
      have := htry
      unfold tryC at this
      rw [hqi, hget, hqf] at this
      exact this
    cases hgu : oi.guard with
    | none =>
      rw [hgu] at hg
      injection hg with hg
      subst hg
      have hwant : Region.wanted oi (yielded ops act.tmps) = true := by simp only [Region.wanted, hgu]
      rw [hwant]
      simp only [if_true]
      exact doq _ rfl htry
    | some jw =>
      obtain ⟨j, wn⟩ := jw
      rw [hgu] at hg
      obtain ⟨t, ht, hb, hgx, rfl⟩ := cGd2_some hg
      have hv := grel j wn t hgu ht hb
      rw [hl] at hv
      have htry : ((gdV wn ((cd2 nt W ops.toList m (.tmp t)).out [] aF) QR.no ((qRunB q).out aF h (c + i)) (.v und)).on false (fun v => eqV v ((getS (nt + i)).out aF)) (fun v => cnd (eqV v ((getS (nt + i)).out aF)) (onO (h.get (c + i)) true fun _ => false) false) (fun v o => cnd (eqV v ((getS (nt + i)).out aF)) (eqO o (h.get (c + i))) false)) = true := htry
      have htd : (ops[j]?).bind (·.dst) = some t := by simpa [dstAt] using ht
      rcases gd_case hgu htd hv QR.no ((qRunB q).out aF h (c + i)) (.v und) with hn | ⟨h1, h2⟩ | ⟨h1, h2⟩
      · rw [hn] at htry; cases htry
      · rw [h1]
        simp only [if_true]
        rw [h2] at htry
        exact doq _ rfl htry
      · rw [h1]
        simp only [Bool.false_eq_true, if_false]
        rw [h2] at htry
        exact ⟨fun _ _ => trivial, same und undef htry (und_rel E R)⟩
  | true =>
    have hmem : co ∈ lds := by rw [hlds, louds_mem]; exact ⟨List.mem_of_getElem? hci, hld⟩
    obtain ⟨p, hp⟩ := List.mem_iff_getElem?.1 hmem
    have hpk : ∀ p co', lds[p]? = some co' → co'.i = i → p ≤ k := by
      intro p co' hp he
      cases p with
      | zero => exact Nat.zero_le _
      | succ p =>
        have hpl : p < lds.length := by have := (List.getElem?_eq_some_iff.1 hp).1; omega
        have hb := chain_bit ms lds hch p _ co' (List.getElem?_eq_getElem hpl) hp
        rw [he] at hb
        have := (hpos p _ (List.getElem?_eq_getElem hpl)).1 (hready _ hb)
        omega
    have hp1 := hpk p co hp hci2
    have hp2 : ¬ p < k := fun h => hi (by have := (hpos p co hp).2 h; rwa [hci2] at this)
    have hpe : p = k := by omega
    subst hpe
    have hdrop : lds.drop p = co :: lds.drop (p + 1) := by
      have hpl := (List.getElem?_eq_some_iff.1 hp)
      rw [List.drop_eq_getElem_cons hpl.1, hpl.2]
    rw [hdrop] at hls
    subst hls
    cases tl with
    | @cons _ _ _ _ a1 b ds1 h2 h3 _ hs' rds' hlf hlaid tl' =>
      have htl : cnd (eqVs (co.get aF :: co.rd [] aF) (b.a0.a0 :: co.rd [] a1)) (tryLs aF (lds.drop (p + 1)) rds') false = true := htl
      cases hev : eqVs (co.get aF :: co.rd [] aF) (b.a0.a0 :: co.rd [] a1) with
      | false => rw [hev] at htl; cases htl
      | true =>
        rw [hev, cnd_t] at htl
        have hev := eqVs_eq _ _ hev
        injection hev with he1 he2
        have hget : co.get aF = (getS (nt + i)).out aF := by rw [hcoe]
        have hrd2 : co.rd = (odsB (cd2 nt W ops.toList m) (gdX ops oi.guard :: oi.op.operands.toList)).out := by rw [hcoe]
        have hlfe : co.lf = (guardB g (runB P cc rd q).out).out := by rw [hcoe]
        rw [hget] at he1
        rw [hrd2, odsB_out, odsB_out] at he2
        rw [hlfe] at hlf
        have hsame : ∀ x, x ∈ gdX ops oi.guard :: oi.op.operands.toList → (cd2 nt W ops.toList m x).out [] aF = (cd2 nt W ops.toList m x).out [] a1 := fun x hx => List.map_inj_left.1 he2 x hx
        have hops : OpsRel E R (cd2 nt W ops.toList m) [] a1 act.eval oi.op.operands.toList := fun x hx => by
          rw [← hsame x (List.mem_cons_of_mem _ hx), ← hl]; exact hrel x hx
        have hqi : ∀ q ∈ qs, q.co.i < all.length ∧ q.co.ld = false ∧ q.lo = stageOf (msk ms q.co.i) lds := fun q hq => by
          rw [hqs, qos_mem] at hq
          obtain ⟨c', h1, h2⟩ := hq
          rw [quiets_mem] at h1
          have := hidx c' h1.1
          subst h2
          exact ⟨(List.getElem?_eq_some_iff.1 this).1, h1.2, rfl⟩
        have finl : ∀ (v : AV) (E' : Env) (R' : Nat → Prop) (w' : World) (v' : Value), b = rep16 (rep16 v) → Step E R h E' R' h2 → Inv P E' R' h2 w0 w' → Rel E' R' v v' → K (act.put oi.dst v') w' := by
          intro v E' R' w' v' hb st' inv' hr
          have hfr' : ∀ j, j < all.length → ¬ L j → ¬ R' (c + j) := fun j hj hn => (st'.rest (c + j) (by omega) (hfree j hj hn)).1
          have hlay : ∀ j, (j < c ∨ R' j ∨ h2.n ≤ j) → h3.get j = h2.get j := fun j hj => by
            refine hlaid.2 j fun q hq hlo he => ?_
            obtain ⟨x1, x2, x3⟩ := hqi q hq
            rcases hj with hj | hj | hj
            · omega
            · rw [he] at hj
              refine hfr' q.co.i x1 (fun hc => ?_) hj
              obtain ⟨c', y1, y2⟩ := stageOf_bit (msk ms q.co.i) lds p (by omega)
              rw [hp] at y1
              injection y1 with y1
              subst y1
              rw [hci2] at y2
              exact hi (hcl _ hc i y2)
            · have := st'.le
              omega
          have hn3 : h3.n = h2.n := hlaid.1
          have st2 := st0.trans st'
          refine hK (fun j => L j ∨ j = i) _ _ (fun j => Iff.rfl) ⟨⟨p + 1, lds.drop (p + 1), h3, hs', rds', E', R', tl', fun j => ?_, htl, rfl, ?_, inv_lay inv' (by omega) (fun j hj => hlay j (.inr (.inl hj))) (fun j hj => ?_), ⟨?_, st2.env, st2.real, fun j hj hn => ?_⟩, fun j hj hn => hfr' j hj fun hc => hn (.inl hc), ?_, fun p' co' hp' => ?_, ?_⟩, closed_add (fun j => Iff.rfl) hcl hready, by rw [put_size]; exact hnt, by rw [put_defs]; exact hdf⟩
          · have := hhs (j + 1)
            rw [List.getElem?_cons_succ] at this
            rw [← this]; congr 1; omega
          · exact (List.getElem?_eq_some_iff.1 hp).1
          · rw [hlay j (.inr (.inr (by omega)))]; exact inv'.top j (by omega)
          · rw [hn3]; exact st2.le
          · obtain ⟨b1, b2⟩ := st2.rest j hj hn
            exact ⟨b1, by rw [hlay j (.inl (by omega)), b2]⟩
          · have := st'.le; omega
          · constructor
            · rintro (hx | hx)
              · have := (hpos p' co' hp').1 hx; omega
              · have := hpk p' co' hp' hx; omega
            · intro hx
              by_cases he : p' = p
              · subst he
                rw [hp] at hp'
                injection hp' with hp'
                exact .inr (by rw [← hp']; exact hci2)
              · exact .inl ((hpos p' co' hp').2 (by omega))
          · refine (sl.step st'.real st'.env).put hon (fun j => Iff.rfl) hdst hlt ?_
            have : b.a0.a0 = v := by rw [hb]; rfl
            rw [he1, this]; exact hr
        have dol : (runB P cc rd q).out s [] a1 [] h keepK = .norm b ds1 h2 → oi.wpIn (FW r) n P act w K Q := by
          intro hrun
          refine op_run sok hcc hrd (cOp_defer hq) hop inv hops (k := keepK) (a := a1) (ds := []) (h := h) (fun hn => by rw [hn] at hrun; cases hrun) (fun v ds' h' E' R' act' w' v' he st inv' dst hr => ?_) fun v h' E' R' w' v' he st inv' hr => by rw [he] at hrun; cases hrun
          rw [hrun] at he
          obtain ⟨rfl, k2, rfl⟩ := keepK_norm he.symm
          have hact : act' = act := by
            rcases dst with ⟨_, rfl⟩ | ⟨x, d, h1, _⟩
            · rfl
            · cases h1
          subst hact
          exact finl v E' R' w' v' k2 st inv' hr
        cases hgu : oi.guard with
        | none =>
          rw [hgu] at hg
          injection hg with hg
          subst hg
          have hwant : Region.wanted oi (yielded ops act.tmps) = true := by simp only [Region.wanted, hgu]
          rw [hwant]
          simp only [if_true]
          exact dol hlf
        | some jw =>
          obtain ⟨j, wn⟩ := jw
          rw [hgu] at hg
          obtain ⟨t, ht, hb, hgx, rfl⟩ := cGd2_some hg
          have hv := grel j wn t hgu ht hb
          rw [hl, hsame (.tmp t) (by rw [hgu, hgx]; exact List.mem_cons_self ..)] at hv
          have hlf : gdV wn ((cd2 nt W ops.toList m (.tmp t)).out [] a1) Out.no ((runB P cc rd q).out s [] a1 [] h keepK) (keepK und [] h) = .norm b ds1 h2 := hlf
          have htd : (ops[j]?).bind (·.dst) = some t := by simpa [dstAt] using ht
          rcases gd_case hgu htd hv Out.no ((runB P cc rd q).out s [] a1 [] h keepK) (keepK und [] h) with hn | ⟨h1, h4⟩ | ⟨h1, h4⟩
          · rw [hn] at hlf; cases hlf
          · rw [h1]
            simp only [if_true]
            rw [h4] at hlf
            exact dol hlf
          · rw [h1]
            simp only [Bool.false_eq_true, if_false]
            rw [h4] at hlf
            obtain ⟨_, k2, rfl⟩ := keepK_norm hlf
            exact ⟨fun _ _ => trivial, finl und E R w undef k2 (Step.refl E R _) inv (und_rel E R)⟩
end
end Go.Proofs.YtccadcefhfdmgaaGreatDoor.Ev
namespace Go.Proofs.YtccadcefhfdmgaaGreatDoor.Ev
open Go
theorem lastH_spec : ∀ (l : List H) (k : Nat) (h : H), l[k]? = some h → l[k + 1]? = none → lastH l = some h
  | [], k, h, h1, _ => by cases h1
  | x :: l, k, h, h1, h2 => by
    cases k with
    | zero =>
      injection h1 with h1
      subst h1
      cases l with
      | nil => rfl
      | cons y l => simp at h2
    | succ k =>
      have h3 := lastH_spec l k h h1 h2
      cases l with
      | nil => cases h1
      | cons y l => exact h3
section
variable {P : Program}
theorem draw_run (hm : P.follows .mixedOrders = true) {s : S} (sok : SOk P s) {cc : Nat → Code → Bx CF} (hcc : RoundsOk P cc) {rd : Bool} {r : Option Nat} {n nt id : Nat} {W : Tr Bool} {ops : Array Oper} {w0 : World} {Q : Exit → Act → World → Prop} (hrd : rd = false → r = none)
    {E : Env} {R : Nat → Prop} {h : H} {w : World} {a : A} {ds : List ADef} {act : Act} (g : Good P E R W nt h w0 w a ds act) (acc : Acc P W nt w0 E R h Q (xDraw (drF P cc rd nt W ops) s a ds h)) : (Code.region id ops true).wpIn (FW r) n P Q act w := by
  unfold xDraw drF at acc
  simp only [onB_eq, Bx.out_mk] at acc
  obtain ⟨ms, hms⟩ : ∃ ms, ms = masks ops.toList [] := ⟨_, rfl⟩
  rw [← hms] at acc
  cases hall : cOpersD P cc rd nt W ops ms ops.toList 0 with
  | none => rw [hall] at acc; exact acc.elim
  | some all =>
    rw [hall, onO_s] at acc
    cases hch : chainB ms (loudsOf all) with
    | false => rw [hch] at acc; exact acc.elim
    | true =>
      rw [hch, cnd_t] at acc
      cases hon : onceB ops.toList with
      | false => rw [hon] at acc; exact acc.elim
      | true =>
        rw [hon, cnd_t, onO_s] at acc
        unfold drawR at acc
        obtain ⟨lds, hlds⟩ : ∃ x, x = loudsOf all := ⟨_, rfl⟩
        obtain ⟨qs, hqs⟩ : ∃ x, x = qosOf ms lds (quietsOf all) := ⟨_, rfl⟩
        rw [← hlds] at acc hch
        rw [← hqs, lenL_eq] at acc
        obtain ⟨hlen, hco⟩ := cOpersD_some ops.toList 0 all hall
        have hcoi : ∀ c ∈ all, ∃ o, ops.toList[c.i]? = some o ∧ all[c.i]? = some c ∧ COk P cc rd nt W ops ms c.i o c := fun c' hc' => by
          obtain ⟨p, hp⟩ := List.mem_iff_getElem?.1 hc'
          have hpl : p < ops.toList.length := by rw [← hlen]; exact (List.getElem?_eq_some_iff.1 hp).1
          obtain ⟨c2, h1, h2⟩ := hco p _ (List.getElem?_eq_getElem hpl)
          rw [hp] at h1
          injection h1 with h1
          subst h1
          rw [Nat.zero_add] at h2
          obtain ⟨_, _, _, _, _, _, h3⟩ := h2.made
          have : c'.i = p := by rw [h3]
          rw [this]
          exact ⟨_, List.getElem?_eq_getElem hpl, hp, h2⟩
        have hput : ∀ c ∈ all, PutOk nt c := fun c hc => by
          obtain ⟨o, _, _, h2⟩ := hcoi c hc
          obtain ⟨_, _, _, _, _, _, h3⟩ := h2.made
          unfold PutOk
          generalize c.i = i at h3
          rw [h3]
        have hqi : ∀ q ∈ qs, q.co ∈ all := fun q hq => by
          rw [hqs, qos_mem] at hq
          obtain ⟨c', h1, h2⟩ := hq
          rw [quiets_mem] at h1
          subst h2
          exact h1.1
        have hli : ∀ q ∈ lds, q ∈ all := fun q hq => by rw [hlds, louds_mem] at hq; exact hq.1
        cases hst : (stagesB qs 0 lds).out h.n s a (h.skip all.length) with
        | none => rw [hst] at acc; exact acc.elim
        | some x =>
          rw [hst, onO_s] at acc
          obtain ⟨h1, laid, tl, hag⟩ := stages_ok (nt := nt) qs (fun q hq => hput _ (hqi q hq)) lds 0 (fun q hq => hput _ (hli q hq)) a (h.skip all.length) x hst
          cases htq : tryQs h.n x.1 x.2.1 qs with
          | false => rw [htq] at acc; exact acc.elim
          | true =>
            rw [htq, cnd_t] at acc
            cases htl : tryLs x.1 lds x.2.2 with
            | false => rw [htl] at acc; exact acc.elim
            | true =>
              rw [htl, cnd_t] at acc
              cases hla : lastH x.2.1 with
              | none => rw [hla] at acc; exact acc.elim
              | some hL =>
                rw [hla, onO_s] at acc
                have hn1 : h1.n = h.n + all.length := by rw [laid.1, skip_n]
                have hge : ∀ j, (j < h.n ∨ h.n + all.length ≤ j) → h1.get j = h.get j := fun j hj => by
                  rw [laid.2 j fun q hq _ he => ?_, skip_get]
                  obtain ⟨_, _, h5, _⟩ := hcoi _ (hqi q hq)
                  have := (List.getElem?_eq_some_iff.1 h5).1
                  omega
                refine rgAny_gen hm (fun L act' w' => DJ P s qs nt W ops.toList ms lds x.1 a h.n all.length E R h w0 x.2.1 act.defers L act' w') (fun i oi hi e he hb => ?_) ?_ (fun L i oi act' w' h2 h3 h4 h5 K hK => draw_step sok hcc hrd rfl hms hall hlds hqs hch hon rfl hag htq g.inv.dom L i oi act' w' h2 h3 h4 h5 K hK) fun L act' w' hL J => ?_
                · obtain ⟨co, _, h2⟩ := hco i oi (by simpa using hi)
                  rw [Nat.zero_add] at h2
                  exact edgesB_lt _ h2.edges e (by simpa using he) hb
                · refine ⟨⟨0, lds, h1, x.2.1, x.2.2, E, R, tl, fun p => by rw [Nat.zero_add], htl, rfl, Nat.zero_le _, inv_lay (inv_drew2 g.inv) (by omega) (fun j hj => hge j (.inl (g.inv.dom j hj))) (fun j hj => ?_), ⟨by omega, fun _ _ => ⟨rfl, rfl, rfl, rfl⟩, fun _ h => h, fun j hj hn => ⟨hn, hge j (.inl hj)⟩⟩, fun j _ _ hc => ?_, by omega, fun p co _ => ⟨fun h => h.elim, fun h => absurd h (Nat.not_lt_zero _)⟩, ⟨fun j t _ h => h.elim, fun t ht _ => g.slots t ht⟩⟩, fun j h => h.elim, g.nt, rfl⟩
                  · rw [hge j (.inr (by omega))]; exact g.inv.top j (by omega)
                  · have := g.inv.dom _ hc; omega
                · obtain ⟨⟨k, ls, hh, hs, rds, E', R', tl', hhs, htl', hls, hkl, inv, st, hfree, hcn, hpos, sl⟩, hcl, hnt, hdf⟩ := J
                  have hall2 : ∀ j, j < all.length → L j := fun j hj => hL j (by rw [hlen] at hj; simpa using hj)
                  have hnil : ls = [] := by
                    cases ls with
                    | nil => rfl
                    | cons co l =>
                      exfalso
                      have hk : lds[k]? = some co := by
                        have := congrArg (·[0]?) hls
                        simp at this
                        exact this.symm
                      obtain ⟨_, _, h5, _⟩ := hcoi co (hli co (List.mem_of_getElem? hk))
                      have := (hpos k co hk).1 (hall2 _ (List.getElem?_eq_some_iff.1 h5).1)
                      omega
                  subst hnil
                  cases tl' with
                  | nil =>
                    have hl2 := lastH_spec x.2.1 k hh (by have := hhs 0; rw [Nat.add_zero] at this; rw [this]; rfl) (by rw [hhs 1]; rfl)
                    rw [hla] at hl2
                    injection hl2 with hl2
                    subst hl2
                    refine acc E' R' act' w' st ⟨inv, fun t ht => ?_, hnt, by rw [hdf]; exact g.ds.step st⟩
                    rcases backB_get (W := W) (nt := nt) ht x.1 ops.toList 0 a with ⟨j, h2, h3⟩ | h2 | ⟨h2, h3⟩
                    · rw [h3, Nat.zero_add]
                      refine sl.new j t h2 (hall2 j ?_)
                      unfold dstAt at h2
                      cases hj : ops.toList[j]? with
                      | none => rw [hj] at h2; cases h2
                      | some o => rw [hlen]; exact (List.getElem?_eq_some_iff.1 hj).1
                    · rw [h2]; exact Rel.bad E' R' _
                    · rw [h3]; exact sl.old t ht fun j hj => absurd hj (h2 j)
end
end Go.Proofs.YtccadcefhfdmgaaGreatDoor.Ev
