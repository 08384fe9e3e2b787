/- The evaluator is sound: what it answers the program does. No condition beyond what each theorem states. -/
import Derived.Test.YtccadcefhfdmgaaGreatDoorEvC
import Derived.Laws.CopyRow
import Derived.Laws.BytesString
namespace Go.Proofs.YtccadcefhfdmgaaGreatDoor.Ev
open Go
/-! tries -/
def unpos : Pos → Nat
  | .h => 0
  | .l p => 2 * unpos p + 1
  | .r p => 2 * unpos p + 2
theorem unpos_posF : ∀ (f n : Nat), n < f → unpos (posF f n) = n
  | 0, _, h => absurd h (Nat.not_lt_zero _)
  | f + 1, n, h => by
    show unpos (cnd (Nat.beq n 0) .h (cnd (Nat.beq (Nat.mod n 2) 1) (.l (posF f (Nat.div n 2))) (.r (posF f (Nat.sub (Nat.div n 2) 1))))) = n
    have e1 : Nat.mod n 2 = n % 2 := rfl
    have e2 : Nat.div n 2 = n / 2 := rfl
    rw [e1, e2]
    cases h0 : Nat.beq n 0 with
    | true => rw [beq_e h0]; rfl
    | false =>
      have h0 := beq_ne h0
      rw [cnd_f]
      cases h1 : Nat.beq (n % 2) 1 with
      | true =>
        have h1 := beq_e h1
        rw [cnd_t, unpos, unpos_posF f (n / 2) (by omega)]; omega
      | false =>
        have h1 := beq_ne h1
        have e3 : Nat.sub (n / 2) 1 = n / 2 - 1 := rfl
        rw [cnd_f, e3, unpos, unpos_posF f (n / 2 - 1) (by omega)]; omega
theorem unpos_pos (n : Nat) : unpos (pos n) = n := unpos_posF _ _ (Nat.lt_succ_self n)
theorem pos_inj {m n : Nat} (h : pos m = pos n) : m = n := by rw [← unpos_pos m, h, unpos_pos]
section
variable {α : Type}
theorem trget_h (t : Tr α) : Tr.get .h t = t.on none fun v _ _ => v := rfl
theorem trget_l (p : Pos) (t : Tr α) : Tr.get (.l p) t = t.on none fun _ l _ => Tr.get p l := by
  simp only [Tr.get, onB_eq, getB, Bx.out_mk]; rfl
theorem trget_r (p : Pos) (t : Tr α) : Tr.get (.r p) t = t.on none fun _ _ r => Tr.get p r := by
  simp only [Tr.get, onB_eq, getB, Bx.out_mk]; rfl
theorem trset_h (v : Option α) (t : Tr α) : Tr.set .h v t = t.on (.n v .e .e) fun _ l r => .n v l r := rfl
theorem trset_l (p : Pos) (v : Option α) (t : Tr α) : Tr.set (.l p) v t = t.on (.n none (Tr.set p v .e) .e) fun x l r => .n x (Tr.set p v l) r := by
  simp only [Tr.set, onB_eq, setB, Bx.out_mk, Go.Proofs.YtccadcefhfdmgaaGreatDoor.Ev.setL, st_eq]
theorem trset_r (p : Pos) (v : Option α) (t : Tr α) : Tr.set (.r p) v t = t.on (.n none .e (Tr.set p v .e)) fun x l r => .n x l (Tr.set p v r) := by
  simp only [Tr.set, onB_eq, setB, Bx.out_mk, Go.Proofs.YtccadcefhfdmgaaGreatDoor.Ev.setR, st_eq]
theorem trget_e (p : Pos) : Tr.get p (.e : Tr α) = none := by
  cases p
  · rfl
  · rw [trget_l]; rfl
  · rw [trget_r]; rfl
theorem trget_set : ∀ (p q : Pos) (v : Option α) (t : Tr α), (q = p → Tr.get q (Tr.set p v t) = v) ∧ (q ≠ p → Tr.get q (Tr.set p v t) = Tr.get q t)
  | .h, q, v, t => by
    refine ⟨?_, ?_⟩
    · rintro rfl; cases t <;> rfl
    · intro hn
      cases q with
      | h => exact absurd rfl hn
      | l q => rw [trset_h, trget_l, trget_l]; cases t <;> first | rfl | (show Tr.get q (.e : Tr α) = none; exact trget_e q)
      | r q => rw [trset_h, trget_r, trget_r]; cases t <;> first | rfl | (show Tr.get q (.e : Tr α) = none; exact trget_e q)
  | .l p, q, v, t => by
    refine ⟨?_, ?_⟩
    · rintro rfl
      rw [trset_l, trget_l]
      cases t
      · exact (trget_set p p v _).1 rfl
      · exact (trget_set p p v _).1 rfl
    · intro hn
      cases q with
      | h => rw [trset_l]; cases t <;> rfl
      | l q =>
        have hq : q ≠ p := fun e => hn (by rw [e])
        rw [trset_l, trget_l, trget_l]
        cases t
        · exact ((trget_set p q v _).2 hq).trans (trget_e q)
        · exact (trget_set p q v _).2 hq
      | r q => rw [trset_l, trget_r, trget_r]; cases t <;> first | rfl | (show Tr.get q (.e : Tr α) = none; exact trget_e q)
  | .r p, q, v, t => by
    refine ⟨?_, ?_⟩
    · rintro rfl
      rw [trset_r, trget_r]
      cases t
      · exact (trget_set p p v _).1 rfl
      · exact (trget_set p p v _).1 rfl
    · intro hn
      cases q with
      | h => rw [trset_r]; cases t <;> rfl
      | r q =>
        have hq : q ≠ p := fun e => hn (by rw [e])
        rw [trset_r, trget_r, trget_r]
        cases t
        · exact ((trget_set p q v _).2 hq).trans (trget_e q)
        · exact (trget_set p q v _).2 hq
      | l q => rw [trset_r, trget_l, trget_l]; cases t <;> first | rfl | (show Tr.get q (.e : Tr α) = none; exact trget_e q)
theorem trget_pos (m n : Nat) (v : Option α) (t : Tr α) : Tr.get (pos m) (Tr.set (pos n) v t) = if m = n then v else Tr.get (pos m) t := by
  by_cases h : m = n
  · subst h; rw [if_pos rfl]; exact (trget_set _ _ v t).1 rfl
  · rw [if_neg h]; exact (trget_set _ _ v t).2 fun e => h (pos_inj e)
end

/-! rows -/
theorem chunkT_get (c : Nat) : ∀ (n : Nat) (l : List AV) (i : Nat) (t : Tr (List AV)) (q : Nat) (x : List AV), Tr.get (pos q) (chunkT c n l i t) = some x →
    Tr.get (pos q) t = some x ∨ (i ≤ q ∧ x = (l.drop ((q - i) * c)).take c)
  | 0, l, i, t, q, x, h => .inl h
  | n + 1, [], i, t, q, x, h => .inl h
  | n + 1, a :: l, i, t, q, x, h => by
    have h' : Tr.get (pos q) ((Tr.set (pos i) (some (takeL c (a :: l))) t).st fun t => stN (Nat.succ i) fun i => chunkT c n (dropL c (a :: l)) i t) = some x := h
    rw [st_eq, stN_eq, takeL_eq, dropL_eq] at h'
    rcases chunkT_get c n _ _ _ q x h' with h1 | ⟨h1, h2⟩
    · rw [trget_pos] at h1
      split at h1
      · rename_i e
        subst e
        injection h1 with h1
        exact .inr ⟨Nat.le_refl _, by rw [Nat.sub_self, Nat.zero_mul]; exact h1.symm⟩
      · exact .inl h1
    · refine .inr ⟨by omega, ?_⟩
      rw [h2, List.drop_drop]
      congr 2
      have : q - i = (q - Nat.succ i) + 1 := by omega
      rw [this, Nat.succ_mul]; omega
theorem big_get {t : Tr (List AV)} {n c : Nat} {z : List AV} {i : Nat} {v : AV} (h : bigGet t n c z i = some v) : i < n ∧ (chunk t z (i / c))[i % c]? = some v := by
  obtain ⟨h1, h2⟩ := cnd_some h
  rw [stN_eq, stN_eq, nthL_eq] at h2
  exact ⟨ble_le h1, h2⟩
theorem big_get' {t : Tr (List AV)} {n c : Nat} {z : List AV} {i : Nat} {v : AV} (h : i < n) (h2 : (chunk t z (i / c))[i % c]? = some v) : bigGet t n c z i = some v := by
  unfold bigGet
  rw [ble_t (show Nat.succ i ≤ n from h), cnd_t, stN_eq, stN_eq, nthL_eq]
  exact h2
theorem ofList_get {l : List AV} {i : Nat} {v : AV} (h : (Row.ofList l).get i = some v) : l[i]? = some v := by
  unfold Row.ofList at h
  rw [stN_eq, lenL_eq] at h
  cases hb : Nat.ble l.length 20 with
  | true => rw [hb] at h; exact (nthL_eq l i).symm.trans h
  | false =>
    rw [hb, cnd_f] at h
    obtain ⟨h1, h2⟩ := big_get h
    unfold chunk at h2
    cases hx : Tr.get (pos (i / 16)) (chunkT 16 l.length l 0 .e) with
    | none => rw [hx, onO_n] at h2; simp at h2
    | some x =>
      rw [hx, onO_s] at h2
      rcases chunkT_get 16 _ _ _ _ _ _ hx with h3 | ⟨_, h3⟩
      · rw [trget_e] at h3; cases h3
      · rw [h3, List.getElem?_take] at h2
        split at h2
        · rw [List.getElem?_drop] at h2
          rw [← h2]; congr 1; omega
        · cases h2
theorem ofList_len (l : List AV) : (Row.ofList l).len = l.length := by
  unfold Row.ofList
  rw [stN_eq, lenL_eq]
  cases hb : Nat.ble l.length 20
  · rfl
  · exact lenL_eq l
theorem ofList_wf (l : List AV) : (Row.ofList l).wf := by
  unfold Row.ofList
  rw [stN_eq, lenL_eq]
  cases hb : Nat.ble l.length 20
  · show 0 < 16; decide
  · trivial
theorem get_lt {r : Row} {i : Nat} {v : AV} (h : r.get i = some v) : i < r.len := by
  cases r with
  | sm l =>
    have h' : nthL l i = some v := h
    rw [nthL_eq] at h'
    show i < lenL l
    rw [lenL_eq]
    exact (List.getElem?_eq_some_iff.1 h').1
  | big t n c z => exact (big_get h).1
theorem bigExt_get (t : Tr (List AV)) (m c : Nat) (z : List AV) : ∀ (f i n : Nat) (l : List AV), bigExt t m c z f i n = some l → l.length = n ∧ ∀ k v, l[k]? = some v → bigGet t m c z (i + k) = some v
  | 0, i, n, l, h => by
    obtain ⟨h1, h2⟩ := cnd_some h
    injection h2 with h2
    subst h2
    exact ⟨(beq_e h1).symm, fun k v hk => by simp at hk⟩
  | f + 1, i, n, l, h => by
    have h' : cnd (Nat.beq n 0) (some []) (cnd (cnd (Nat.beq (Nat.mod i c) 0) (cnd (Nat.ble c n) (Nat.ble (Nat.add i c) m) false) false)
        (stN (Nat.div i c) fun q => cnd (Nat.beq (lenL (chunk t z q)) c) (stN (Nat.add i c) fun j => stN (Nat.sub n c) fun k => onO (bigExt t m c z f j k) none fun l => some (appL (chunk t z q) l)) none)
        (onO (bigGet t m c z i) none fun v => stN (Nat.succ i) fun j => stN (Nat.sub n 1) fun k => onO (bigExt t m c z f j k) none fun l => some (v :: l))) = some l := h
    cases h0 : Nat.beq n 0 with
    | true =>
      rw [h0, cnd_t, Option.some.injEq] at h'
      subst h'
      exact ⟨(beq_e h0).symm, fun k v hk => by simp at hk⟩
    | false =>
      have hn := beq_ne h0
      rw [h0, cnd_f] at h'
      cases hc : cnd (Nat.beq (Nat.mod i c) 0) (cnd (Nat.ble c n) (Nat.ble (Nat.add i c) m) false) false with
      | true =>
        rw [hc, cnd_t, stN_eq] at h'
        have hm : i % c = 0 ∧ c ≤ n ∧ i + c ≤ m := by
          cases h1 : Nat.beq (Nat.mod i c) 0 with
          | false => rw [h1] at hc; cases hc
          | true =>
            rw [h1, cnd_t] at hc
            cases h2 : Nat.ble c n with
            | false => rw [h2] at hc; cases hc
            | true => rw [h2, cnd_t] at hc; exact ⟨beq_e h1, ble_le h2, ble_le hc⟩
        obtain ⟨hl, h2⟩ := cnd_some h'
        rw [stN_eq, stN_eq] at h2
        obtain ⟨l', h3, h4⟩ := onO_some h2
        have hl := beq_e hl
        rw [lenL_eq] at hl
        rw [appL_eq, Option.some.injEq] at h4
        subst h4
        obtain ⟨i1, i2⟩ := bigExt_get t m c z f _ _ _ h3
        have e1 : Nat.div i c = i / c := rfl
        rw [e1] at hl ⊢
        refine ⟨?_, fun k v hk => ?_⟩
        · rw [List.length_append, hl, i1]; show c + (n - c) = n; omega
        · by_cases hkc : k < c
          · rw [List.getElem?_append_left (by omega)] at hk
            refine big_get' (by omega) ?_
            have hc0 : 0 < c := by omega
            have hi : i = c * (i / c) := by have := Nat.div_add_mod i c; omega
            have hd : (i + k) / c = i / c := by
              rw [hi, Nat.mul_add_div hc0, Nat.mul_div_cancel_left _ hc0, Nat.div_eq_of_lt hkc, Nat.add_zero]
            have he : (i + k) % c = k := by
              rw [hi, Nat.mul_add_mod, Nat.mod_eq_of_lt hkc]
            rw [hd, he]; exact hk
          · rw [List.getElem?_append_right (by omega), hl] at hk
            have := i2 _ _ hk
            rw [show Nat.add i c + (k - c) = i + k from by show i + c + (k - c) = i + k; omega] at this
            exact this
      | false =>
        rw [hc, cnd_f] at h'
        obtain ⟨v0, h1, h2⟩ := onO_some h'
        rw [stN_eq, stN_eq] at h2
        obtain ⟨l', h3, h4⟩ := onO_some h2
        injection h4 with h4
        subst h4
        obtain ⟨i1, i2⟩ := bigExt_get t m c z f _ _ _ h3
        refine ⟨by simp only [List.length_cons, i1]; show n - 1 + 1 = n; omega, fun k v hk => ?_⟩
        cases k with
        | zero => rw [List.getElem?_cons_zero] at hk; injection hk with hk; subst hk; exact h1
        | succ k =>
          rw [List.getElem?_cons_succ] at hk
          have := i2 _ _ hk
          rw [show Nat.succ i + k = i + (k + 1) from by omega] at this
          exact this
theorem ext_get {r : Row} {i n : Nat} {l : List AV} (h : r.ext i n = some l) : l.length = n ∧ ∀ k v, l[k]? = some v → r.get (i + k) = some v := by
  cases r with
  | sm l0 =>
    obtain ⟨h1, h2⟩ := cnd_some h
    have h1 := ble_le h1
    rw [lenL_eq] at h1
    rw [takeL_eq, dropL_eq, Option.some.injEq] at h2
    subst h2
    refine ⟨by rw [List.length_take, List.length_drop]; simp only [Nat.add_eq] at h1; omega, fun k v hk => ?_⟩
    rw [List.getElem?_take] at hk
    split at hk
    · rw [List.getElem?_drop] at hk
      exact (nthL_eq l0 _).trans hk
    · cases hk
  | big t m c z => exact bigExt_get t m c z n i n l h
end Go.Proofs.YtccadcefhfdmgaaGreatDoor.Ev
namespace Go.Proofs.YtccadcefhfdmgaaGreatDoor.Ev
open Go
theorem chunk_set (t : Tr (List AV)) (z : List AV) (p q : Nat) (l : List AV) : chunk (Tr.set (pos q) (some l) t) z p = if p = q then l else chunk t z p := by
  unfold chunk
  rw [trget_pos]
  split <;> rfl
theorem minN'_eq (a b : Nat) : minN' a b = min a b := by
  unfold minN'
  by_cases h : a ≤ b
  · rw [ble_t h, cnd_t]; omega
  · rw [ble_f h, cnd_f]; omega
theorem bigPut_get (c : Nat) (z : List AV) (hc : 0 < c) : ∀ (f i : Nat) (l : List AV) (t : Tr (List AV)) (j : Nat) (v : AV), l.length ≤ f → (chunk (bigPut c z f i l t) z (j / c))[j % c]? = some v →
    (i ≤ j ∧ j < i + l.length ∧ l[j - i]? = some v) ∨ ((j < i ∨ i + l.length ≤ j) ∧ (chunk t z (j / c))[j % c]? = some v)
  | 0, i, [], t, j, v, _, h => .inr ⟨by simp; omega, h⟩
  | 0, i, a :: l, t, j, v, hl, h => by simp at hl
  | f + 1, i, [], t, j, v, _, h => .inr ⟨by simp; omega, h⟩
  | f + 1, i, a :: l, t, j, v, hl, h => by
    have h' : (chunk (stN (Nat.div i c) fun q => stN (Nat.mod i c) fun r => stN (minN' (Nat.sub c r) (lenL (a :: l))) fun k => (Tr.set (pos q) (some (cnd (Nat.beq k c) (takeL k (a :: l)) (putL (takeL k (a :: l)) r (chunk t z q)))) t).st fun t => stN (Nat.add i k) fun i => bigPut c z f i (dropL k (a :: l)) t) z (j / c))[j % c]? = some v := h
    rw [stN_eq, stN_eq, stN_eq, st_eq, stN_eq, minN'_eq, lenL_eq, takeL_eq, dropL_eq] at h'
    have e1 : Nat.div i c = i / c := rfl
    have e2 : Nat.mod i c = i % c := rfl
    have e3 : Nat.sub c (i % c) = c - i % c := rfl
    have hm : i % c < c := Nat.mod_lt _ hc
    rw [e1, e2, e3] at h'
    have hlen : 0 < (a :: l).length := by simp
    generalize hk : min (c - i % c) (a :: l).length = k at h'
    generalize a :: l = m at *
    have hk0 : 0 < k := by omega
    have hkm : k ≤ m.length := by omega
    have hkc : i % c + k ≤ c := by omega
    have hdm := Nat.div_add_mod i c
    rcases bigPut_get c z hc f _ _ _ j v (by rw [List.length_drop]; omega) h' with ⟨h1, h2, h3⟩ | ⟨h1, h2⟩
    · rw [List.length_drop] at h2
      rw [List.getElem?_drop] at h3
      simp only [Nat.add_eq] at h1 h2 h3
      refine .inl ⟨by omega, by omega, ?_⟩
      rw [← h3]; congr 1; omega
    · rw [List.length_drop] at h1
      simp only [Nat.add_eq] at h1
      rw [chunk_set] at h2
      have hdj := Nat.div_add_mod j c
      have hmj := Nat.mod_lt j hc
      split at h2
      · rename_i hq
        rw [hq] at hdj
        cases hkb : Nat.beq k c with
        | true =>
          have hkb := beq_e hkb
          rw [hkb, show Nat.beq c c = true from Nat.beq_refl c, cnd_t, List.getElem?_take, if_pos hmj] at h2
          refine .inl ⟨by omega, by omega, ?_⟩
          rw [← h2]; congr 1; omega
        | false =>
          rw [hkb, cnd_f] at h2
          rcases putL_get _ _ _ _ _ h2 with ⟨h3, h4, h5⟩ | ⟨h3, h4⟩
          · rw [List.length_take] at h4
            rw [List.getElem?_take] at h5
            split at h5
            · refine .inl ⟨by omega, by omega, ?_⟩
              rw [← h5]; congr 1; omega
            · cases h5
          · rw [List.length_take] at h3
            refine .inr ⟨by omega, ?_⟩
            rw [hq]; exact h4
      · rename_i hq
        refine .inr ⟨?_, h2⟩
        refine Classical.byContradiction fun hn => hq ?_
        have : j = c * (i / c) + (i % c + (j - i)) := by omega
        rw [this, Nat.mul_add_div hc, Nat.div_eq_of_lt (show i % c + (j - i) < c by omega), Nat.add_zero]
theorem puts_len (r : Row) (i : Nat) (m : List AV) (h : i + m.length ≤ r.len) : (r.puts i m).len = r.len := by
  cases r with
  | sm l =>
    show (cnd (cnd (Nat.beq i 0) (Nat.beq (lenL l) (lenL m)) false) (Row.sm m) (.sm (putL m i l))).len = lenL l
    cases hc : cnd (Nat.beq i 0) (Nat.beq (lenL l) (lenL m)) false with
    | true =>
      cases h0 : Nat.beq i 0 with
      | false => rw [h0] at hc; cases hc
      | true => rw [h0, cnd_t] at hc; exact (beq_e hc).symm
    | false => show lenL (putL m i l) = lenL l; rw [lenL_eq, lenL_eq, putL_length]
  | big t n c z =>
    show ((bigPut c z (lenL m) i m t).st fun t => Row.big t n c z).len = n
    rw [st_eq]; rfl
theorem puts_wf (r : Row) (i : Nat) (m : List AV) (h : r.wf) : (r.puts i m).wf := by
  cases r with
  | sm l =>
    show (cnd (cnd (Nat.beq i 0) (Nat.beq (lenL l) (lenL m)) false) (Row.sm m) (.sm (putL m i l))).wf
    cases cnd (Nat.beq i 0) (Nat.beq (lenL l) (lenL m)) false <;> trivial
  | big t n c z =>
    show ((bigPut c z (lenL m) i m t).st fun t => Row.big t n c z).wf
    rw [st_eq]; exact h
theorem puts_get {r : Row} {i : Nat} {m : List AV} {j : Nat} {v : AV} (hw : r.wf) (h : (r.puts i m).get j = some v) :
    (i ≤ j ∧ j < i + m.length ∧ m[j - i]? = some v) ∨ ((j < i ∨ i + m.length ≤ j) ∧ r.get j = some v) := by
  cases r with
  | sm l =>
    have h' : (cnd (cnd (Nat.beq i 0) (Nat.beq (lenL l) (lenL m)) false) (Row.sm m) (.sm (putL m i l))).get j = some v := h
    have e : ∀ x : List AV, (Row.sm x).get j = x[j]? := fun x => nthL_eq x j
    cases hc : cnd (Nat.beq i 0) (Nat.beq (lenL l) (lenL m)) false with
    | true =>
      cases h0 : Nat.beq i 0 with
      | false => rw [h0] at hc; cases hc
      | true =>
        rw [hc, cnd_t, e] at h'
        have h0 := beq_e h0
        subst h0
        have := (List.getElem?_eq_some_iff.1 h').1
        exact .inl ⟨Nat.zero_le _, by omega, h'⟩
    | false =>
      rw [hc, cnd_f, e] at h'
      rcases putL_get _ _ _ _ _ h' with h1 | ⟨h1, h2⟩
      · exact .inl h1
      · exact .inr ⟨h1, (e l).trans h2⟩
  | big t n c z =>
    have h' : ((bigPut c z (lenL m) i m t).st fun t => Row.big t n c z).get j = some v := h
    rw [st_eq] at h'
    obtain ⟨h1, h2⟩ := big_get h'
    rw [lenL_eq] at h2
    rcases bigPut_get c z hw _ _ _ _ _ _ (Nat.le_refl _) h2 with h3 | ⟨h3, h4⟩
    · exact .inl h3
    · exact .inr ⟨h3, big_get' h1 h4⟩
end Go.Proofs.YtccadcefhfdmgaaGreatDoor.Ev
namespace Go.Proofs.YtccadcefhfdmgaaGreatDoor.Ev
open Go
theorem addr_add (b o j : Nat) : (⟨b, o, none⟩ : Addr).add j = ⟨b, o + j, none⟩ := by unfold Addr.add; split <;> simp_all
theorem onCells_some {β : Type} {o : Option AO} {f : Row → Nat → Option β} {b : β} (h : onCells o none f = some b) : ∃ r sp, o = some (.cells r sp) ∧ f r sp = some b := by
  cases o with
  | none => cases h
  | some x => cases x <;> first | exact ⟨_, _, rfl, h⟩ | cases h
theorem onMap_some {β : Type} {o : Option AO} {f : List (AV × AV × Nat) → Nat → Option β} {b : β} (h : onMap o none f = some b) : ∃ es c, o = some (.map es c) ∧ f es c = some b := by
  cases o with
  | none => cases h
  | some x => cases x <;> first | exact ⟨_, _, rfl, h⟩ | cases h
theorem onIter_some {β : Type} {o : Option AO} {f : Option Nat → Nat → List Nat → Nat → Option β} {b : β} (h : onIter o none f = some b) : ∃ m s l k, o = some (.iter m s l k) ∧ f m s l k = some b := by
  cases o with
  | none => cases h
  | some x => cases x <;> first | exact ⟨_, _, _, _, rfl, h⟩ | cases h
section
variable {P : Program} {E : Env} {R : Nat → Prop} {h : H} {w0 w : World}
/-- one cell of a realized row -/
theorem cell_of {i o : Nat} {r : Row} {sp : Nat} {v : AV} (inv : Inv P E R h w0 w) (hi : R i) (hg : h.get i = some (.cells r sp)) (hv : r.get o = some v) :
    w.cell? ⟨E.blk i, E.base i + o, none⟩ = some (conc E v) ∧ v.On R ∧ v.one = true := by
  obtain ⟨cs, t, fz, h1, h2⟩ := inv.obj i _ hi hg
  obtain ⟨h3, h4, _, h5⟩ := h2.cell o v hv
  refine ⟨?_, h3, h4⟩
  simp only [World.cell?, h1]
  exact h5
theorem load_of {i o : Nat} {r : Row} {sp : Nat} {v : AV} (inv : Inv P E R h w0 w) (hi : R i) (hg : h.get i = some (.cells r sp)) (hv : r.get o = some v) :
    (load ⟨E.blk i, E.base i + o, none⟩).run P w = .ok (conc E v) w := by
  rw [run_load, (cell_of inv hi hg hv).1]
theorem loads_of {i o n : Nat} {r : Row} {sp : Nat} {l : List AV} (inv : Inv P E R h w0 w) (hi : R i) (hg : h.get i = some (.cells r sp)) (hv : r.ext o n = some l) :
    (loadCells ⟨E.blk i, E.base i + o, none⟩ n).run P w = .ok (concs E l).toArray w ∧ Ons R l ∧ ∀ v ∈ l, v.one = true := by
  obtain ⟨hl, hc⟩ := ext_get hv
  refine ⟨?_, ?_, ?_⟩
  · have := run_loadCells_list (P := P) w ⟨E.blk i, E.base i + o, none⟩ (concs E l) (fun j v hj => by
      rw [concs_map, List.getElem?_map] at hj
      cases hx : l[j]? with
      | none => rw [hx] at hj; cases hj
      | some x =>
        rw [hx] at hj
        simp only [Option.map_some, Option.some.injEq] at hj
        subst hj
        rw [addr_add, Nat.add_assoc]
        exact (cell_of inv hi hg (hc j x hx)).1)
    rw [concs_map, List.length_map, hl] at this
    rw [concs_map]; exact this
  · rw [Ons_iff]
    intro v hm
    obtain ⟨j, hj⟩ := List.mem_iff_getElem?.1 hm
    exact (cell_of inv hi hg (hc j v hj)).2.1
  · intro v hm
    obtain ⟨j, hj⟩ := List.mem_iff_getElem?.1 hm
    exact (cell_of inv hi hg (hc j v hj)).2.2
theorem ldB_out (n : Nat) (ag : Bool) (h : H) (i o : Nat) : (ldB n ag).out h i o = if ag = true then ldAg n h i o else ldOne h i o := by
  unfold ldB
  cases ag <;> rfl
/-- what a load answers -/
theorem loadVar_of {t : TypeId} {n i o : Nat} {v : AV} (inv : Inv P E R h w0 w) (ht : szT P t = some n) (hi : R i) (hv : (ldB n (isAggT P t)).out h i o = some v) :
    (loadVar t ⟨E.blk i, E.base i + o, none⟩).run P w = .ok (conc E v) w ∧ v.On R := by
  obtain ⟨d, _, hd, _⟩ := szT_some ht
  rw [ldB_out] at hv
  rw [loadVar, run_b (run_isAgg hd)]
  cases hag : isAggT P t with
  | true =>
    rw [hag, if_pos rfl] at hv
    obtain ⟨r, sp, hg, h1⟩ := onCells_some hv
    obtain ⟨l, h2, h3⟩ := onO_some h1
    injection h3 with h3
    subst h3
    obtain ⟨h4, h5, h6⟩ := loads_of inv hi hg h2
    refine ⟨?_, h5⟩
    simp only [if_true]
    rw [run_b (run_S ht), run_b h4]; rfl
  | false =>
    rw [hag, if_neg (by decide)] at hv
    obtain ⟨r, sp, hg, h1⟩ := onCells_some hv
    obtain ⟨h2, h3, _⟩ := cell_of inv hi hg h1
    refine ⟨?_, h3⟩
    show (load _).run P w = _
    rw [run_load, h2]
/-- parts of a value -/
theorem part_of {t : TypeId} {n off : Nat} {l : List AV} {v : AV} (ht : szT P t = some n) (hl : Ons R l) (hv : partA n (isAggT P t) off l = some v) :
    (part t (concs E l).toArray off).run P w = .ok (conc E v) w ∧ v.On R := by
  obtain ⟨d, _, hd, _⟩ := szT_some ht
  rw [part, run_b (run_isAgg hd)]
  unfold partA at hv
  cases hag : isAggT P t with
  | true =>
    rw [hag, cnd_t, takeL_eq, dropL_eq, Option.some.injEq] at hv
    subst hv
    refine ⟨?_, ?_⟩
    · simp only [if_true]
      rw [run_b (run_S ht)]
      simp only [Sem.run_pure, conc, concs_map]
      congr 2
      apply Array.ext'
      simp [List.map_take, List.map_drop, List.take_drop]
    · show Ons R _
      rw [Ons_iff] at hl ⊢
      exact fun v hv => hl v (List.mem_of_mem_drop (List.mem_of_mem_take hv))
  | false =>
    rw [hag, cnd_f, nthL_eq] at hv
    refine ⟨?_, (Ons_iff l).1 hl v (List.mem_of_getElem? hv)⟩
    have : ((concs E l).toArray)[off]? = some (conc E v) := by
      rw [concs_map, List.getElem?_toArray, List.getElem?_map, hv]; rfl
    simp only [Bool.false_eq_true, if_false, this]; rfl
variable {o : Oper} {cd : Operand → Bx Od}
theorem ok_load {t : TypeId} {x : Operand} {n : Nat} (ho : o.op = .load t x) (ht : szT P t = some n) : ValOk P o cd (qLd (ldB n (isAggT P t)).out (cd x).out) := by
  intro E R h w0 w e a ρ v inv rel hf
  rw [ho] at rel
  obtain ⟨i, k, hx, h1⟩ := onPtr_some hf
  have rx := rel x (by simp [Op.operands]); rw [hx] at rx; obtain ⟨rx, hi⟩ := rx.ptr
  obtain ⟨h2, h3⟩ := loadVar_of inv ht hi h1
  refine ⟨_, ?_, Rel.of h3⟩
  simp only [execOp, ho, rx]
  exact run_v h2
theorem ok_nilc {x : Operand} (ho : o.op = .nilCheck x) : ValOk P o cd (qNilc (cd x).out) := by
  intro E R h w0 w e a ρ v inv rel hf
  rw [ho] at rel
  have rx := rel x (by simp [Op.operands])
  change AV.nilc ((cd x).out e a) none (some ((cd x).out e a)) = some v at hf
  generalize (cd x).out e a = u at rx hf
  have hv : v = u ∧ ((∃ i k, u = .ptr i k) ∨ (∃ i k l c ex, u = .sl i k l c ex) ∨ (∃ f p q, u = .fn f p q) ∨ (∃ t y, u = .ifc t y)) := by
    cases u with
    | ptr i k => injection hf with hf; exact ⟨hf.symm, .inl ⟨i, k, rfl⟩⟩
    | sl i k l c ex => injection hf with hf; exact ⟨hf.symm, .inr (.inl ⟨i, k, l, c, ex, rfl⟩)⟩
    | fn f p q => injection hf with hf; exact ⟨hf.symm, .inr (.inr (.inl ⟨f, p, q, rfl⟩))⟩
    | ifc t y => injection hf with hf; exact ⟨hf.symm, .inr (.inr (.inr ⟨t, y, rfl⟩))⟩
    | _ => cases hf
  obtain ⟨hv, hc⟩ := hv
  subst hv
  have hk : v.known = true := by
    rcases hc with ⟨_, _, rfl⟩ | ⟨_, _, _, _, _, rfl⟩ | ⟨_, _, _, rfl⟩ | ⟨_, _, rfl⟩ <;> rfl
  obtain ⟨h1, h2⟩ := rx hk
  refine ⟨_, ?_, Rel.of h1⟩
  simp only [execOp, ho, h2]
  rcases hc with ⟨_, _, rfl⟩ | ⟨_, _, _, _, _, rfl⟩ | ⟨_, _, _, rfl⟩ | ⟨_, _, rfl⟩ <;> simp only [conc] <;> rfl
theorem ok_fieldAddr {t : TypeId} {x : Operand} {k : Nat} {fs : Array Field} {f : Field} {n : Nat} (ho : o.op = .fieldAddr t x k) (ht : P.underlying t = some (.struct fs)) (hf : fs[k]? = some f) (hn : szT P f.type = some (n + 1)) :
    ValOk P o cd (qFad f.offset (cd x).out) := by
  intro E R h w0 w e a ρ v inv rel hq
  rw [ho] at rel
  obtain ⟨i, j, hx, h1⟩ := onPtr_some hq
  rw [stN_eq, Option.some.injEq] at h1
  subst h1
  have rx := rel x (by simp [Op.operands]); rw [hx] at rx; obtain ⟨rx, hi⟩ := rx.ptr
  refine ⟨_, ?_, Rel.of (v := .ptr i (Nat.add j f.offset)) hi⟩
  simp only [execOp, ho, rx]
  refine run_v ?_
  rw [Instr.fieldAt, run_b (run_U ht)]
  simp only [hf, Instr.sureAddr]
  rw [run_b (Sem.run_pure P w _)]
  obtain ⟨d, info, h2, h3, h4⟩ := szT_some hn
  have : (fieldPlace ⟨E.blk i, E.base i + j, none⟩ f).run P w = .ok ⟨E.blk i, E.base i + (j + f.offset), none⟩ w := by
    rw [fieldPlace, run_b (run_S hn)]
    simp only [Nat.add_eq_zero_iff, Nat.one_ne_zero, and_false, if_false, Sem.run_pure, addr_add, Nat.add_assoc]
  rw [run_b this]; rfl
end
end Go.Proofs.YtccadcefhfdmgaaGreatDoor.Ev
namespace Go.Proofs.YtccadcefhfdmgaaGreatDoor.Ev
open Go
section
variable {P : Program} {o : Oper} {cd : Operand → Bx Od}
theorem ok_field {t : TypeId} {x : Operand} {k : Nat} {fs : Array Field} {f : Field} {n : Nat} (ho : o.op = .field t x k) (ht : P.underlying t = some (.struct fs)) (hf : fs[k]? = some f) (hn : szT P f.type = some n) :
    ValOk P o cd (qFld n (isAggT P f.type) f.offset (cd x).out) := by
  intro E R h w0 w e a ρ v inv rel hq
  rw [ho] at rel
  obtain ⟨l, hx, h1⟩ := onAgg_some hq
  have rx := rel x (by simp [Op.operands]); rw [hx] at rx; obtain ⟨rx, hl⟩ := rx.agg
  rw [← concs_map] at rx
  obtain ⟨h2, h3⟩ := part_of (w := w) hn hl h1
  refine ⟨_, ?_, Rel.of h3⟩
  simp only [execOp, ho, rx]
  refine run_v ?_
  rw [Instr.field, run_b (run_U ht)]
  simp only [hf, asAgg]
  rw [run_b (Sem.run_pure P w _)]
  exact h2
theorem asInt_run {k : IntKind} {n : Int} {w : World} : (asIntOf (.int k n)).run P w = .ok (k, n) w := rfl
theorem ok_indexA {t : TypeId} {x i : Operand} {n s : Nat} {el : TypeId} (ho : o.op = .indexAddr t x i) (ht : P.underlying t = some (.array n el)) (hs : szT P el = some s) :
    ValOk P o cd (qIxA n s (cd x).out (cd i).out) := by
  intro E R h w0 w e a ρ v inv rel hq
  rw [ho] at rel
  obtain ⟨j, c, hx, h1⟩ := onPtr_some hq
  obtain ⟨k, m, hy, h2⟩ := onN_some h1
  obtain ⟨h3, h4⟩ := cnd_some h2
  rw [stN_eq, Option.some.injEq] at h4
  subst h4
  have rx := rel x (by simp [Op.operands]); rw [hx] at rx; obtain ⟨rx, hl⟩ := rx.ptr
  have ry := rel i (by simp [Op.operands]); rw [hy] at ry; have ry := ry.int
  have h3 := ble_le h3
  refine ⟨_, ?_, Rel.of (v := .ptr j (Nat.add c (Nat.mul m s))) hl⟩
  simp only [execOp, ho, rx, ry]
  refine run_v ?_
  rw [Instr.indexAt, run_b asInt_run]
  have h5 : (0 : Int) ≤ (m : Int) ∧ (m : Int) < ((n : Nat) : Int) := ⟨Int.natCast_nonneg m, Int.ofNat_lt.2 h3⟩
  simp [run_underlying ht, run_S hs, Instr.sureAddr, Nat.lt_of_succ_le h3, addr_add, conc, Nat.add_assoc]
theorem ok_indexS {t : TypeId} {x i : Operand} {s : Nat} {el : TypeId} (ho : o.op = .indexAddr t x i) (ht : P.underlying t = some (.slice el)) (hs : szT P el = some s) :
    ValOk P o cd (qIxS s (cd x).out (cd i).out) := by
  intro E R h w0 w e a ρ v inv rel hq
  rw [ho] at rel
  rcases onSl_some hq with ⟨_, h0⟩ | ⟨j, c, n, cp, ex, hx, h1⟩
  · cases h0
  obtain ⟨k, m, hy, h2⟩ := onN_some h1
  obtain ⟨h3, h4⟩ := cnd_some h2
  rw [stN_eq, Option.some.injEq] at h4
  subst h4
  have rx := rel x (by simp [Op.operands]); rw [hx] at rx; obtain ⟨rx, hl⟩ := rx.sl
  have ry := rel i (by simp [Op.operands]); rw [hy] at ry; have ry := ry.int
  have h3 := ble_le h3
  refine ⟨_, ?_, Rel.of (v := .ptr j (Nat.add c (Nat.mul m s))) hl⟩
  simp only [execOp, ho, rx, ry]
  refine run_v ?_
  rw [Instr.indexAt, run_b asInt_run]
  simp [run_underlying ht, run_S hs, Nat.lt_of_succ_le h3, addr_add, conc, Nat.add_assoc]
theorem ok_indexV {t : TypeId} {x i : Operand} {n s : Nat} {el : TypeId} (ho : o.op = .index t x i) (ht : P.underlying t = some (.array n el)) (hs : szT P el = some s) :
    ValOk P o cd (qIxV n s (isAggT P el) (cd x).out (cd i).out) := by
  intro E R h w0 w e a ρ v inv rel hq
  rw [ho] at rel
  obtain ⟨l, hx, h1⟩ := onAgg_some hq
  obtain ⟨k, m, hy, h2⟩ := onN_some h1
  obtain ⟨h3, h4⟩ := cnd_some h2
  have rx := rel x (by simp [Op.operands]); rw [hx] at rx; obtain ⟨rx, hl⟩ := rx.agg
  rw [← concs_map] at rx
  have ry := rel i (by simp [Op.operands]); rw [hy] at ry; have ry := ry.int
  have h3 := ble_le h3
  obtain ⟨h5, h6⟩ := part_of (P := P) (w := w) (E := E) hs hl h4
  refine ⟨_, ?_, Rel.of h6⟩
  simp only [execOp, ho, rx, ry]
  refine run_v ?_
  rw [Instr.index, run_b asInt_run]
  simp only [Nat.mul_eq] at h5
  simp [run_underlying ht, run_S hs, Nat.lt_of_succ_le h3, h5]
theorem ok_indexT {t : TypeId} {x i : Operand} (ho : o.op = .index t x i) (ht : P.underlying t = some .string) :
    ValOk P o cd (qIxT (cd x).out (cd i).out) := by
  intro E R h w0 w e a ρ v inv rel hq
  rw [ho] at rel
  obtain ⟨l, hx, h1⟩ := onStr_some hq
  obtain ⟨k, m, hy, h2⟩ := onN_some h1
  obtain ⟨b, h3, h4⟩ := onO_some h2
  injection h4 with h4
  subst h4
  rw [nthL_eq] at h3
  have rx := rel x (by simp [Op.operands]); rw [hx] at rx; obtain ⟨rx, hl⟩ := rx.str
  have ry := rel i (by simp [Op.operands]); rw [hy] at ry; have ry := ry.int
  refine ⟨_, ?_, Rel.of (v := .int .u8 (Int.ofNat b)) trivial⟩
  simp only [execOp, ho, rx, ry]
  refine run_v ?_
  rw [Instr.index, run_b asInt_run]
  obtain ⟨hm, hb⟩ := List.getElem?_eq_some_iff.1 h3
  have hs : (strV l)[m]? = some (UInt8.ofNat b) := by
    rw [getElem?_pos (strV l) m (by rw [strV_size]; exact hm)]
    congr 1
    show (strV l).data[m]'_ = _
    simp [strV, hb]
  have hb' := hl b (List.mem_of_getElem? h3)
  simp [run_underlying ht, hs, conc, Nat.mod_eq_of_lt hb']
theorem ok_s2a {t : TypeId} {x : Operand} {n : Nat} {el : TypeId} (ho : o.op = .sliceToArrayPointer t x) (ht : P.underlying t = some (.array n el)) :
    ValOk P o cd (qS2a n (cd x).out) := by
  intro E R h w0 w e a ρ v inv rel hq
  rw [ho] at rel
  rcases onSl_some hq with ⟨_, h0⟩ | ⟨j, c, l, cp, ex, hx, h1⟩
  · cases h0
  obtain ⟨h3, h4⟩ := cnd_some h1
  injection h4 with h4
  subst h4
  have rx := rel x (by simp [Op.operands]); rw [hx] at rx; obtain ⟨rx, hl⟩ := rx.sl
  refine ⟨_, ?_, Rel.of (v := .ptr j c) hl⟩
  have h3 := ble_le h3
  simp only [execOp, ho, rx]
  refine run_v ?_
  rw [Instr.arrayAt, run_b (run_U ht)]
  simp [Nat.not_lt.2 h3, conc]
theorem ok_mkI {t : TypeId} {x : Operand} {d : TypeDesc} (ho : o.op = .makeInterface t x) (ht : P.underlying t = some d) (hd : ∀ m, d ≠ .interface m) :
    ValOk P o cd (qMkI t (cd x).out) := by
  intro E R h w0 w e a ρ v inv rel hq
  rw [ho] at rel
  obtain ⟨h1, h2⟩ := cnd_some hq
  injection h2 with h2
  subst h2
  obtain ⟨h3, h4⟩ := rel x (by simp [Op.operands]) h1
  refine ⟨_, ?_, Rel.of (v := .ifc t _) h3⟩
  simp only [execOp, ho, h4]
  refine run_v ?_
  rw [Instr.makeInterface, run_b (run_U ht)]
  cases d <;> first | rfl | exact absurd rfl (hd _)
theorem allK_iff (l : List AV) : allK l = true ↔ ∀ v ∈ l, v.known = true := by
  induction l with
  | nil => exact ⟨fun _ v h => (by cases h), fun _ => rfl⟩
  | cons v l ih =>
    show cnd v.known (allK l) false = true ↔ _
    cases hv : v.known with
    | false => 
      rw [cnd_f]
      exact ⟨fun h => (by cases h), fun h => by rw [h v (List.mem_cons_self ..)] at hv; cases hv⟩
    | true =>
      rw [cnd_t, ih]
      exact ⟨fun h w hw => (List.mem_cons.1 hw).elim (fun e => e ▸ hv) (h w), fun h w hw => h w (List.mem_cons_of_mem _ hw)⟩
theorem odsB_out (cd : Operand → Bx Od) (e : List AV) (a : A) : ∀ l : List Operand, (odsB cd l).out e a = l.map fun x => (cd x).out e a
  | [] => rfl
  | x :: l => by
    simp only [odsB, onB_eq, Bx.out_mk, odsC, odsB_out cd e a l, List.map_cons]
theorem ods_rel {E : Env} {R : Nat → Prop} {e : List AV} {a : A} {ρ : Operand → Value} (l : List Operand) (h : ∀ x ∈ l, Rel E R ((cd x).out e a) (ρ x)) (hk : allK ((odsB cd l).out e a) = true) :
    l.map ρ = concs E ((odsB cd l).out e a) ∧ Ons R ((odsB cd l).out e a) := by
  rw [odsB_out] at hk ⊢
  rw [allK_iff] at hk
  refine ⟨?_, ?_⟩
  · rw [concs_map, List.map_map]
    exact List.map_congr_left fun x hx => (h x hx (hk _ (List.mem_map_of_mem hx))).2
  · rw [Ons_iff]
    intro v hv
    obtain ⟨x, hx, rfl⟩ := List.mem_map.1 hv
    exact (h x hx (hk _ hv)).1
theorem ok_mkF {f : Nat} {fi ca : Array Operand} (ho : o.op = .makeFunc (.func f) fi ca) : ValOk P o cd (qMkF f (odsB cd fi.toList).out (odsB cd ca.toList).out) := by
  intro E R h w0 w e a ρ v inv rel hq
  rw [ho] at rel
  obtain ⟨h1, h2⟩ := cnd_some hq
  obtain ⟨h3, h4⟩ := cnd_some h2
  injection h4 with h4
  subst h4
  obtain ⟨r1, r2⟩ := ods_rel (ρ := ρ) fi.toList (fun x hx => rel x (by simp [Op.operands]; exact .inl (by simpa using hx))) h1
  obtain ⟨r3, r4⟩ := ods_rel (ρ := ρ) ca.toList (fun x hx => rel x (by simp [Op.operands]; exact .inr (by simpa using hx))) h3
  refine ⟨_, ?_, Rel.of (v := .fn f _ _) ⟨r2, r4⟩⟩
  simp only [execOp, ho]
  refine run_v ?_
  simp only [Instr.makeFunc, Sem.run_pure, conc, ← r1, ← r3]
  congr 2 <;> exact Array.ext' (by simp)
theorem ok_ext {x : Operand} {i : Nat} (ho : o.op = .extract x i) : ValOk P o cd (qExt i (cd x).out) := by
  intro E R h w0 w e a ρ v inv rel hq
  rw [ho] at rel
  obtain ⟨l, hx, h1⟩ := onTup_some hq
  have rx := rel x (by simp [Op.operands]); rw [hx] at rx; obtain ⟨rx, hl⟩ := rx.tup
  rw [nthL_eq] at h1
  refine ⟨_, ?_, Rel.of ((Ons_iff l).1 hl v (List.mem_of_getElem? h1))⟩
  simp only [execOp, ho, rx]
  refine run_v ?_
  simp [Instr.extract, h1]
mutual
theorem toA_rel (E : Env) (R : Nat → Prop) : ∀ (x : Value) (v : AV), toA x = some v → conc E v = x ∧ v.On R
  | .bool b, v, h => by simp only [toA, Option.some.injEq] at h; subst h; exact ⟨rfl, trivial⟩
  | .int k n, v, h => by simp only [toA, Option.some.injEq] at h; subst h; exact ⟨rfl, trivial⟩
  | .string s, v, h => by simp only [toA, Option.some.injEq] at h; subst h; exact ⟨by rw [conc, byteL_strV], byteL_lt s⟩
  | .pointer none, v, h => by simp only [toA, Option.some.injEq] at h; subst h; exact ⟨rfl, by show 0 ≤ 4; decide⟩
  | .slice none 0 0, v, h => by simp only [toA, Option.some.injEq] at h; subst h; exact ⟨rfl, by show 1 ≤ 4; decide⟩
  | .map none, v, h => by simp only [toA, Option.some.injEq] at h; subst h; exact ⟨rfl, by show 2 ≤ 4; decide⟩
  | .nilFunc, v, h => by simp only [toA, Option.some.injEq] at h; subst h; exact ⟨rfl, by show 3 ≤ 4; decide⟩
  | .nilIface, v, h => by simp only [toA, Option.some.injEq] at h; subst h; exact ⟨rfl, by show 4 ≤ 4; decide⟩
  | .func (.func f) ⟨[]⟩ ⟨[]⟩, v, h => by simp only [toA, Option.some.injEq] at h; subst h; exact ⟨rfl, trivial, trivial⟩
  | .agg ⟨l⟩, v, h => by
    simp only [toA, Option.map_eq_some_iff] at h
    obtain ⟨m, h1, h2⟩ := h
    subst h2
    obtain ⟨h3, h4⟩ := toAs_rel E R l m h1
    exact ⟨by rw [conc, h3], h4⟩
  | .float .., v, h => by simp [toA] at h
  | .complex .., v, h => by simp [toA] at h
  | .pointer (some _), v, h => by simp [toA] at h
  | .slice (some _) _ _, v, h => by simp [toA] at h
  | .slice none (_ + 1) _, v, h => by simp [toA] at h
  | .slice none 0 (_ + 1), v, h => by simp [toA] at h
  | .map (some _), v, h => by simp [toA] at h
  | .chan _, v, h => by simp [toA] at h
  | .func (.func _) ⟨_ :: _⟩ _, v, h => by simp [toA] at h
  | .func (.func _) ⟨[]⟩ ⟨_ :: _⟩, v, h => by simp [toA] at h
  | .func (.method _) _ _, v, h => by simp [toA] at h
  | .func (.methodOf ..) _ _, v, h => by simp [toA] at h
  | .func (.via ..) _ _, v, h => by simp [toA] at h
  | .func (.yield _) _ _, v, h => by simp [toA] at h
  | .iface .., v, h => by simp [toA] at h
  | .tuple _, v, h => by simp [toA] at h
theorem toAs_rel (E : Env) (R : Nat → Prop) : ∀ (x : List Value) (l : List AV), toAs x = some l → concs E l = x ∧ Ons R l
  | [], l, h => by simp only [toAs, Option.some.injEq] at h; subst h; exact ⟨rfl, trivial⟩
  | x :: xs, l, h => by
    simp only [toAs] at h
    split at h
    · rename_i a m h1 h2
      injection h with h
      subst h
      obtain ⟨h3, h4⟩ := toA_rel E R x a h1
      obtain ⟨h5, h6⟩ := toAs_rel E R xs m h2
      exact ⟨by rw [concs, h3, h5], h4, h6⟩
    · cases h
end
theorem run_zero {t : TypeId} {z : AV} {w : World} (E : Env) (R : Nat → Prop) (hz : zeroT P t = some z) : (zeroValue t).run P w = .ok (conc E z) w ∧ z.On R := by
  unfold zeroT at hz
  obtain ⟨i, h1, h2⟩ := Option.bind_eq_some_iff.1 hz
  obtain ⟨v, h3, h4⟩ := Option.bind_eq_some_iff.1 h2
  obtain ⟨h5, h6⟩ := toA_rel E R v z h4
  refine ⟨?_, h6⟩
  rw [zeroValue, run_b (run_I h1)]
  simp only [h3, h5]; rfl
theorem ok_taOk {t u : TypeId} {x : Operand} {z : AV} {d : TypeDesc} (ho : o.op = .typeAssert x u t true) (ht : P.underlying t = some d) (hd : ∀ m, d ≠ .interface m) (hz : zeroT P t = some z) :
    ValOk P o cd (qTaOk t z (cd x).out) := by
  intro E R h w0 w e a ρ v inv rel hq
  rw [ho] at rel
  have rx := rel x (by simp [Op.operands])
  obtain ⟨z1, z2⟩ := run_zero (w := w) E R hz
  change AV.onIfc ((cd x).out e a) _ _ = some v at hq
  generalize (cd x).out e a = y at rx hq
  have key : ∀ (v : AV) (v' : Value), v.On R → conc E v = v' → (Instr.typeAssert (ρ x) u t true).run P w = .ok v' w → ∃ v', (execOp ρ o).run P w = .ok (.value v') w ∧ Rel E R v v' := by
    intro v v' h1 h2 h3
    refine ⟨v', ?_, h2 ▸ Rel.of h1⟩
    simp only [execOp, ho]
    exact run_v h3
  cases y with
  | nil k =>
    obtain ⟨h1, h2⟩ := cnd_some (show cnd (Nat.beq k 4) (some (AV.agg true [z, .bool false])) none = some v from hq)
    have h1 := beq_e h1
    subst h1
    injection h2 with h2
    subst h2
    have rx : ρ x = .nilIface := (rx rfl).2
    refine key _ _ ⟨z2, trivial, trivial⟩ rfl ?_
    rw [rx, Instr.typeAssert, run_b (run_U ht)]
    cases d <;> first | exact absurd rfl (hd _) | (simp only [if_true]; rw [run_b z1]; rfl)
  | ifc k y =>
    obtain ⟨rx, ry⟩ := rx.ifc
    have h1 : some (AV.agg true (cnd (Nat.beq k t) [y, .bool true] [z, .bool false])) = some v := hq
    injection h1 with h1
    subst h1
    cases hb : Nat.beq k t with
    | true =>
      have hb := beq_e hb
      subst hb
      rw [cnd_t]
      refine key _ _ ⟨ry, trivial, trivial⟩ rfl ?_
      rw [rx, Instr.typeAssert, run_b (run_U ht)]
      cases d <;> first | exact absurd rfl (hd _) | (simp; rfl)
    | false =>
      have hb := beq_ne hb
      rw [cnd_f]
      refine key _ _ ⟨z2, trivial, trivial⟩ rfl ?_
      rw [rx, Instr.typeAssert, run_b (run_U ht)]
      cases d <;> first | exact absurd rfl (hd _) | (simp only [if_neg hb, if_true]; rw [run_b z1]; rfl)
  | _ => cases hq
theorem ok_ta {t u : TypeId} {x : Operand} {d : TypeDesc} (ho : o.op = .typeAssert x u t false) (ht : P.underlying t = some d) (hd : ∀ m, d ≠ .interface m) :
    ValOk P o cd (qTa t (cd x).out) := by
  intro E R h w0 w e a ρ v inv rel hq
  rw [ho] at rel
  obtain ⟨k, y, hx, h1⟩ := onIfc_some hq
  obtain ⟨h2, h3⟩ := cnd_some h1
  have h2 := beq_e h2
  subst h2
  injection h3 with h3
  subst h3
  have rx := rel x (by simp [Op.operands]); rw [hx] at rx; obtain ⟨rx, hl⟩ := rx.ifc
  refine ⟨_, ?_, Rel.of hl⟩
  simp only [execOp, ho, rx]
  refine run_v ?_
  rw [Instr.typeAssert, run_b (run_U ht)]
  cases d <;> first | exact absurd rfl (hd _) | (simp)
end
end Go.Proofs.YtccadcefhfdmgaaGreatDoor.Ev
namespace Go.Proofs.YtccadcefhfdmgaaGreatDoor.Ev
open Go
section
variable {P : Program} {o : Oper} {cd : Operand → Bx Od}
theorem rel_args {c : Call} {b : Builtin} {E : Env} {R : Nat → Prop} {e : List AV} {a : A} {ρ : Operand → Value} (hc : c.callee = .builtin b) (h : OpsRel E R cd e a ρ (Op.call c).operands.toList) : ∀ x ∈ c.args.toList, Rel E R ((cd x).out e a) (ρ x) := by
  intro x hx
  refine h x ?_
  simp only [Op.operands, Call.operands, hc]
  simpa using hx
/-! max, min -/
theorem mmB_run {c : Bool} {E : Env} {R : Nat → Prop} {e : List AV} {a : A} {ρ : Operand → Value} {w : World} (g : Int → Int → Int) (f2 : Value → Value → Sem Value)
    (hg : ∀ k x y, f2 (.int k x) (.int k y) = pure (.int k (g x y))) : ∀ (l : List Operand), (∀ x ∈ l, Rel E R ((cd x).out e a) (ρ x)) → ∀ (k : IntKind) (n : Int) (v : AV), (mmB g cd l).out e a k n = some v →
    ((l.map ρ).foldlM f2 (.int k n)).run P w = .ok (conc E v) w ∧ v.On R
  | [], _, k, n, v, h => by
    have h' : rI k n = some v := h
    rw [rI_eq, Option.some.injEq] at h'
    subst h'
    exact ⟨rfl, trivial⟩
  | x :: l, hl, k, n, v, h => by
    simp only [mmB, onB_eq, Bx.out_mk, mmC] at h
    obtain ⟨j, m, hx, h1⟩ := onInt_some h
    obtain ⟨h2, h3⟩ := cnd_some h1
    have h2 := eqK_eq h2
    subst h2
    have rx := hl x (List.mem_cons_self ..); rw [hx] at rx; have rx := rx.int
    obtain ⟨h4, h5⟩ := mmB_run g f2 hg l (fun y hy => hl y (List.mem_cons_of_mem _ hy)) k _ v h3 (c := c)
    refine ⟨?_, h5⟩
    rw [List.map_cons, List.foldlM_cons, rx, hg]
    rw [run_b (Sem.run_pure P w _)]
    exact h4
theorem mmX_eq (x y : Int) : mmX x y = if y > x then y else x := by
  unfold mmX; rw [ltI_eq, cnd_eq]; simp
theorem mmN_eq (x y : Int) : mmN x y = if y < x then y else x := by
  unfold mmN; rw [ltI_eq, cnd_eq]; simp
theorem ok_max {c : Call} {x : Operand} {l : List Operand} (ho : o.op = .call c) (hc : c.callee = .builtin .max) (ha : c.args.toList = x :: l) : ValOk P o cd (qMm (cd x).out (mmB mmX cd l).out) := by
  intro E R h w0 w e a ρ v inv rel hq
  rw [ho] at rel
  have rel' : ∀ y ∈ x :: l, Rel E R ((cd y).out e a) (ρ y) := ha ▸ rel_args hc rel
  obtain ⟨k, n, hx, h1⟩ := onInt_some hq
  have rx := rel' x (List.mem_cons_self ..); rw [hx] at rx; have rx := rx.int
  obtain ⟨h2, h3⟩ := mmB_run (P := P) (w := w) (c := true) mmX Builtin.max2 (fun k x y => by simp only [Builtin.max2, mmX_eq]) l (fun y hy => rel' y (List.mem_cons_of_mem _ hy)) k n v h1
  refine ⟨_, ?_, Rel.of h3⟩
  have hm : (c.args.map ρ).toList = ρ x :: l.map ρ := by rw [Array.toList_map, ha]; rfl
  simp only [execOp, ho, resolve, hc]
  rw [run_b (Sem.run_pure P w _)]
  simp only [invoke, builtin]
  refine run_v ?_
  rw [Builtin.max_, hm, rx]
  exact h2
theorem ok_min {c : Call} {x : Operand} {l : List Operand} (ho : o.op = .call c) (hc : c.callee = .builtin .min) (ha : c.args.toList = x :: l) : ValOk P o cd (qMm (cd x).out (mmB mmN cd l).out) := by
  intro E R h w0 w e a ρ v inv rel hq
  rw [ho] at rel
  have rel' : ∀ y ∈ x :: l, Rel E R ((cd y).out e a) (ρ y) := ha ▸ rel_args hc rel
  obtain ⟨k, n, hx, h1⟩ := onInt_some hq
  have rx := rel' x (List.mem_cons_self ..); rw [hx] at rx; have rx := rx.int
  obtain ⟨h2, h3⟩ := mmB_run (P := P) (w := w) (c := true) mmN Builtin.min2 (fun k x y => by simp only [Builtin.min2, mmN_eq]) l (fun y hy => rel' y (List.mem_cons_of_mem _ hy)) k n v h1
  refine ⟨_, ?_, Rel.of h3⟩
  have hm : (c.args.map ρ).toList = ρ x :: l.map ρ := by rw [Array.toList_map, ha]; rfl
  simp only [execOp, ho, resolve, hc]
  rw [run_b (Sem.run_pure P w _)]
  simp only [invoke, builtin]
  refine run_v ?_
  rw [Builtin.min_, hm, rx]
  exact h2
/-! lengths -/
theorem len_step {c : Call} {x : Operand} {ρ : Operand → Value} {w : World} {v : Value} (ho : o.op = .call c) (hc : c.callee = .builtin .len) (ha : c.args.toList = [x]) (h : (Builtin.len_ c.argTypes o.type #[ρ x]).run P w = .ok v w) : (execOp ρ o).run P w = .ok (.value v) w := by
  have hm : c.args.map ρ = #[ρ x] := Array.ext' (by rw [Array.toList_map, ha]; rfl)
  simp only [execOp, ho, resolve, hc, hm]
  rw [run_b (Sem.run_pure P w _)]
  simp only [invoke, builtin]
  exact run_v h
theorem ok_lenC {c : Call} {x : Operand} {t : TypeId} {ts : List TypeId} {n : Nat} (ho : o.op = .call c) (hc : c.callee = .builtin .len) (ha : c.args.toList = [x]) (ht : c.argTypes.toList = t :: ts)
    (hd : (∃ el, P.underlying t = some (.array n el)) ∨ (∃ u el, P.underlying t = some (.pointer u) ∧ P.underlying u = some (.array n el))) : ValOk P o cd (qLenC n) := by
  intro E R h w0 w e a ρ v inv rel hq
  have hq : rN n = some v := hq
  rw [rN_eq, Option.some.injEq] at hq
  subst hq
  have h0 : c.argTypes[0]? = some t := by rw [← Array.getElem?_toList, ht]; rfl
  refine ⟨_, ?_, Rel.of (v := .int .i64 (n : Int)) trivial⟩
  rcases hd with ⟨el, hd⟩ | ⟨u, el, hd, he⟩
  · refine len_step ho hc ha ?_
    simp [Builtin.len_, h0, run_underlying hd, conc, goInt]
  · refine len_step ho hc ha ?_
    simp [Builtin.len_, h0, run_underlying hd, run_underlying he, conc, goInt]
theorem rN_some {n : Nat} {v : AV} (h : rN n = some v) : v = .int .i64 (n : Int) := by
  rw [rN_eq, Option.some.injEq] at h; exact h.symm
theorem arg0 {c : Call} {t : TypeId} {ts : List TypeId} (ht : c.argTypes.toList = t :: ts) : c.argTypes[0]? = some t := by rw [← Array.getElem?_toList, ht]; rfl
theorem ok_lenT {c : Call} {x : Operand} {t : TypeId} {ts : List TypeId} (ho : o.op = .call c) (hc : c.callee = .builtin .len) (ha : c.args.toList = [x]) (ht : c.argTypes.toList = t :: ts)
    (hd : P.underlying t = some .string) : ValOk P o cd (qLenT (cd x).out) := by
  intro E R h w0 w e a ρ v inv rel hq
  rw [ho] at rel
  have rx : Rel E R ((cd x).out e a) (ρ x) := rel_args hc rel x (by rw [ha]; simp)
  obtain ⟨l, hx, h1⟩ := onStr_some hq
  rw [hx] at rx
  obtain ⟨rx, _⟩ := rx.str
  have h1 := rN_some h1
  subst h1
  refine ⟨_, len_step ho hc ha ?_, Rel.of (v := .int .i64 ((lenL l : Nat) : Int)) trivial⟩
  simp [Builtin.len_, arg0 ht, run_underlying hd, rx, goInt, strV_size, lenL_eq, conc]
theorem ok_lenS {c : Call} {x : Operand} {t u : TypeId} {ts : List TypeId} (ho : o.op = .call c) (hc : c.callee = .builtin .len) (ha : c.args.toList = [x]) (ht : c.argTypes.toList = t :: ts)
    (hd : P.underlying t = some (.slice u)) : ValOk P o cd (qLenS (cd x).out) := by
  intro E R h w0 w e a ρ v inv rel hq
  rw [ho] at rel
  have rx : Rel E R ((cd x).out e a) (ρ x) := rel_args hc rel x (by rw [ha]; simp)
  rcases onSl_some hq with ⟨hx, h1⟩ | ⟨i, k, n, cp, ex, hx, h1⟩
  · rw [hx] at rx
    have rx : ρ x = .slice none 0 0 := (rx rfl).2
    have h1 := rN_some h1
    subst h1
    refine ⟨_, len_step ho hc ha ?_, Rel.of (v := .int .i64 ((0 : Nat) : Int)) trivial⟩
    simp [Builtin.len_, arg0 ht, run_underlying hd, rx, goInt, conc]
  · rw [hx] at rx
    obtain ⟨rx, _⟩ := rx.sl
    have h1 := rN_some h1
    subst h1
    refine ⟨_, len_step ho hc ha ?_, Rel.of (v := .int .i64 (n : Int)) trivial⟩
    simp [Builtin.len_, arg0 ht, run_underlying hd, rx, goInt, conc]
theorem getObj_map {w : World} {r : Nat} {es : Array MapEntry} {c : Nat} (h : w.heap[r]? = some (.map es c)) : (getObj r).run P w = .ok (.map es c) w := by simp [getObj, Sem.run, h]
theorem ok_lenM {c : Call} {x : Operand} {t k u : TypeId} {ts : List TypeId} (ho : o.op = .call c) (hc : c.callee = .builtin .len) (ha : c.args.toList = [x]) (ht : c.argTypes.toList = t :: ts)
    (hd : P.underlying t = some (.map k u)) : ValOk P o cd (qLenM (cd x).out) := by
  intro E R h w0 w e a ρ v inv rel hq
  rw [ho] at rel
  have rx : Rel E R ((cd x).out e a) (ρ x) := rel_args hc rel x (by rw [ha]; simp)
  rcases onRef_some hq with ⟨t', i, hx, h1⟩ | ⟨h1, _⟩
  · rw [hx] at rx
    obtain ⟨h2, h3⟩ := cnd_some h1
    have h2 := beq_e h2
    subst h2
    obtain ⟨es, cl, h4, h5⟩ := onMap_some h3
    obtain ⟨⟨_, hi⟩, rx⟩ := rx rfl
    have rx : ρ x = .map (some (E.blk i)) := rx
    obtain ⟨hm, _⟩ := inv.obj i _ hi h4
    have h5 := rN_some h5
    subst h5
    refine ⟨_, len_step ho hc ha ?_, Rel.of (v := .int .i64 ((lenL es : Nat) : Int)) trivial⟩
    rw [Builtin.len_, arg0 ht]
    simp only [List.getElem?_toArray, List.getElem?_cons_zero, rx]
    rw [run_b (run_U hd)]
    simp only []
    rw [run_b (getObj_map hm)]
    simp [goInt, lenL_eq, conc]
  · obtain ⟨t', hx, h2⟩ := onNil_some h1
    obtain ⟨h3, h4⟩ := cnd_some h2
    have h3 := beq_e h3
    subst h3
    rw [hx] at rx
    have rx : ρ x = .map none := (rx rfl).2
    have h4 := rN_some h4
    subst h4
    refine ⟨_, len_step ho hc ha ?_, Rel.of (v := .int .i64 ((0 : Nat) : Int)) trivial⟩
    simp [Builtin.len_, arg0 ht, run_underlying hd, rx, goInt, conc]
/-! the complement -/
theorem ok_cpl {t : TypeId} {x : Operand} (ho : o.op = .unOp .xor t x) : ValOk P o cd (qCpl (cd x).out) := by
  intro E R h w0 w e a ρ v inv rel hf
  rw [ho] at rel
  obtain ⟨k, n, hx, h1⟩ := onInt_some hf
  have rx := rel x (by simp [Op.operands]); rw [hx] at rx; have rx := rx.int
  cases hs : k.signed with
  | true => rw [hs, cnd_t] at h1; cases h1
  | false =>
    rw [hs, cnd_f] at h1
    obtain ⟨m, rfl, h2⟩ := onNat_some h1
    obtain ⟨h3, h4⟩ := cnd_some h2
    have h3 := ble_le h3
    rw [rI_eq, Option.some.injEq] at h4
    subst h4
    refine ⟨_, ?_, Rel.of (v := .int k _) trivial⟩
    simp only [execOp, ho, rx]
    refine run_v ?_
    simp only [Op.unary, hs]
    have hmax : k.max = (lim k : Int) := by cases k <;> first | rfl | cases hs
    have h1 := Nat.lt_of_lt_of_le (lim_lt (Nat.le_refl (lim k))) (Nat.pow_le_pow_right (by decide) (bitsN_le k))
    have h2 := Nat.lt_of_lt_of_le (lim_lt h3) (Nat.pow_le_pow_right (by decide) (bitsN_le k))
    simp only [Bool.false_eq_true, if_false, hmax]
    rw [bits_xor (Nat.le_refl _) h3]
    simp only [conc]
    congr 2
    have hl : lim k = 2 ^ bitsN k - 1 := by have := lim_eq k; omega
    show ((Nat.xor (lim k) m : Nat) : Int) = ((lim k - m : Nat) : Int)
    congr 1
    show lim k ^^^ m = lim k - m
    rw [hl, Nat.xor_comm]
    have hm : m < 2 ^ bitsN k := lim_lt h3
    have e1 : (BitVec.ofNat (bitsN k) m ^^^ BitVec.allOnes (bitsN k)).toNat = m ^^^ (2 ^ bitsN k - 1) := by
      rw [BitVec.toNat_xor, BitVec.toNat_allOnes, BitVec.toNat_ofNat, Nat.mod_eq_of_lt hm]
    rw [← e1, BitVec.xor_allOnes, BitVec.toNat_not, BitVec.toNat_ofNat, Nat.mod_eq_of_lt hm]
/-! bytes to a text -/
theorem bytesOf_some : ∀ (l : List AV) (s : List Nat), bytesOf l = some s → l = intsOf s ∧ ∀ b ∈ s, b < 256
  | [], s, h => by
    have h' : some [] = some s := h
    injection h' with h'
    subst h'
    exact ⟨rfl, fun b hb => by cases hb⟩
  | v :: l, s, h => by
    obtain ⟨k, n, hv, h1⟩ := onInt_some (v := v) h
    obtain ⟨h2, h3⟩ := cnd_some h1
    have h2 := eqK_eq h2
    subst h2
    obtain ⟨m, hn, h4⟩ := onNat_some h3
    obtain ⟨h5, h6⟩ := cnd_some h4
    obtain ⟨s', h7, h8⟩ := onO_some h6
    injection h8 with h8
    subst h8
    obtain ⟨h9, h10⟩ := bytesOf_some l s' h7
    subst hn hv
    refine ⟨?_, fun b hb => ?_⟩
    · show _ = AV.int .u8 (.ofNat m) :: intsOf s'
      rw [← h9]; rfl
    · rcases List.mem_cons.1 hb with rfl | hb
      · have := ble_le h5; omega
      · exact h10 b hb
theorem concs_intsOf (E : Env) : ∀ s : List Nat, concs E (intsOf s) = (s.map fun n : Nat => ((n : Nat) : Int)).map (Value.int .u8)
  | [] => rfl
  | n :: s => by
    show concs E (AV.int .u8 (.ofNat n) :: intsOf s) = _
    rw [concs, concs_intsOf E s]; rfl
theorem fold_push : ∀ (s : List Nat) (b : ByteArray), (s.map fun n : Nat => ((n : Nat) : Int)).foldl (fun r n => r.push (UInt8.ofNat n.toNat)) b = b ++ strV s
  | [], b => by
    apply ByteArray.ext; simp [strV]
  | n :: s, b => by
    rw [List.map_cons, List.foldl_cons, fold_push s]
    apply ByteArray.ext; simp [strV]
theorem ok_cvBS {s d u : TypeId} {x : Operand} (ho : o.op = .convert s d x) (hs : P.underlying s = some (.slice u)) (hd : P.underlying d = some .string) (hu : P.underlying u = some (.int .u8)) : ValOk P o cd (qCvBS (cd x).out) := by
  intro E R h w0 w e a ρ v inv rel hq
  rw [ho] at rel
  have rx := rel x (by simp [Op.operands])
  have key : ∀ l : List Nat, v = .str l → (∀ b ∈ l, b < 256) → (convert s d (ρ x)).run P w = .ok (.string (strV l)) w → ∃ v', (execOp ρ o).run P w = .ok (.value v') w ∧ Rel E R v v' := by
    intro l h1 h2 h3
    subst h1
    refine ⟨_, ?_, Rel.of (v := .str l) h2⟩
    simp only [execOp, ho]
    exact run_v h3
  rcases onSl_some hq with ⟨hx, h1⟩ | ⟨i, k, n, cp, ex, hx, h1⟩
  · rw [hx] at rx
    injection h1 with h1
    have rx : ρ x = .slice none 0 0 := (rx rfl).2
    refine key [] h1.symm (fun b hb => by cases hb) ?_
    rw [rx, run_convert_bytes_string w s d u _ _ _ hs hu hd]
    rfl
  · rw [hx] at rx
    obtain ⟨rx, hi⟩ := rx.sl
    obtain ⟨r, sp, hg, h2⟩ := onCells_some h1
    obtain ⟨l, h3, h4⟩ := onO_some h2
    obtain ⟨b, h5, h6⟩ := onO_some h4
    injection h6 with h6
    obtain ⟨h7, h8⟩ := bytesOf_some l b h5
    obtain ⟨h9, _, _⟩ := loads_of (P := P) inv hi hg h3
    refine key b h6.symm h8 ?_
    rw [rx, run_convert_bytes_string w s d u _ _ _ hs hu hd]
    rw [h7, concs_intsOf] at h9
    rw [run_bytesToString w _ _ _ _ h9, fold_push]
    congr 2

end
end Go.Proofs.YtccadcefhfdmgaaGreatDoor.Ev
