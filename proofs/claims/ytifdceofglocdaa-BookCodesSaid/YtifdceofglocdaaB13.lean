/- Several texts of this claim in one. No condition beyond what each theorem states. -/
import Derived.Test.YtifdceofglocdaaB10
import Derived.Test.YtifdceofglocdaaB11
import Derived.Test.YtifdceofglocdaaB12
/- What a record does to a book of its own: book.change by contract. No condition beyond what each theorem states. -/
namespace Go.Proofs.Ytifdceofglocdaa
open Go Go.RowKit Go.PlainAid

theorem changeB_1 {b : Bok} {r : Rcd} (h : r.kind = 1) : changeB b r = if b = newB then some { b with next := r.next, boots := r.boots } else none := by
  unfold changeB
  rw [if_pos h]
theorem changeB_2 {b : Bok} {r : Rcd} (h : r.kind = 2) : changeB b r = if b.longest < r.longest then some { b with longest := r.longest } else none := by
  unfold changeB
  rw [if_neg (by omega), if_pos h]
theorem changeB_3 {b : Bok} {r : Rcd} (h : r.kind = 3) : changeB b r = if hasG b.grants r.grant.id = true ∨ b.next ≤ newestS r.grant.stamp then none else some { b with grants := insG b.grants r.grant } := by
  unfold changeB
  rw [if_neg (by omega), if_neg (by omega), if_pos h]
theorem changeB_4 {b : Bok} {r : Rcd} (h : r.kind = 4) : changeB b r = if r.grant.id = b.next then some { b with next := b.next + 1, grants := insG b.grants r.grant } else none := by
  unfold changeB
  rw [if_neg (by omega), if_neg (by omega), if_neg (by omega), if_pos h]
theorem changeB_5 {b : Bok} {r : Rcd} (h : r.kind = 5) : changeB b r = if hasG b.grants r.id = true ∧ newestS r.stamp = b.next then some { b with next := b.next + 1, grants := setG b.grants r.id r.stamp } else none := by
  unfold changeB
  rw [if_neg (by omega), if_neg (by omega), if_neg (by omega), if_neg (by omega), if_pos h]
theorem changeB_6 {b : Bok} {r : Rcd} (h : r.kind = 6) : changeB b r = if hasG b.grants r.id = true then some { b with grants := delG b.grants r.id } else none := by
  unfold changeB
  rw [if_neg (by omega), if_neg (by omega), if_neg (by omega), if_neg (by omega), if_neg (by omega), if_pos h]
theorem changeB_7 {b : Bok} {r : Rcd} (h : r.kind = 7) : changeB b r = some { b with boots := b.boots + 1 } := by
  unfold changeB
  rw [if_neg (by omega), if_neg (by omega), if_neg (by omega), if_neg (by omega), if_neg (by omega), if_neg (by omega)]
/-- what change answers: the book, if the record fits, as the record says -/
def ChgR (B g : Nat) (b : Bok) (r : Rcd) (w : World) (e : Ending) (w' : World) : Prop :=
  Kp (From B) w w' ∧ ((changeB b r = none ∧ e = .returned (.bool false)) ∨ (∃ c sv l, changeB b r = some c ∧ e = .returned (.bool true) ∧ gsL l = c.grants ∧ Bk w' g 25 [.int .i64 c.next, .int .i64 c.boots, .int .i64 c.longest, sv] ∧ OwnG w' B sv l))
/-- a book of its own, in block g -/
structure ChgH (B g : Nat) (n k t : Int) (sv : Value) (l : List GP) (w : World) : Prop where
  bk : Bk w g 25 [.int .i64 n, .int .i64 k, .int .i64 t, sv]
  ge : B ≤ g
  own : OwnG w B sv l
  le : B ≤ w.heap.size
  ok : validB (Go.Proofs.Ytifdceofglocdaa.bk n k t l)
theorem ChgH.no {B g : Nat} {n k t : Int} {sv : Value} {l : List GP} {w w' : World} (h : ChgH B g n k t sv l w) (hk : Kp No w w') : ChgH B g n k t sv l w' :=
  ⟨h.bk.no hk, h.ge, h.own.no hk, Nat.le_trans h.le hk.size, h.ok⟩
theorem ChgH.len {B g : Nat} {n k t : Int} {sv : Value} {l : List GP} {w : World} (h : ChgH B g n k t sv l w) : l.length ≤ 6 := ((valid_bk n k t l).1 h.ok).2.2.1
theorem ChgH.sorted {B g : Nat} {n k t : Int} {sv : Value} {l : List GP} {w : World} (h : ChgH B g n k t sv l w) : (gsL l).Pairwise (fun x y => x.id < y.id) := ((valid_bk n k t l).1 h.ok).2.2.2.2
theorem ChgH.heads {B g : Nat} {n k t : Int} {sv : Value} {l : List GP} {w : World} (h : ChgH B g n k t sv l w) : headsB n k := ((valid_bk n k t l).1 h.ok).1
theorem mayG_sh {g : Grt} (h : mayG g) : g.path.length ≤ 27 ∧ g.stamp.length ≤ 4 ∧ g.stamp ≠ [] :=
  ⟨path_len h.2.2.1, (cnt_of_valid h.2.2.2.2.1).1, h.2.2.2.2.2.1⟩
theorem ChgH.may {B g : Nat} {n k t : Int} {sv : Value} {l : List GP} {w : World} (h : ChgH B g n k t sv l w) : ∀ p ∈ l, mayG p.1 ∧ newestS p.1.stamp < n := fun p hp => ((valid_bk n k t l).1 h.ok).2.2.2.1 p.1 (List.mem_map.2 ⟨p, hp, rfl⟩)
theorem ChgH.sh {B g : Nat} {n k t : Int} {sv : Value} {l : List GP} {w : World} (h : ChgH B g n k t sv l w) : ∀ p ∈ l, ShG maxLen p.1 := fun p hp => by
  have := mayG_sh (h.may p hp).1
  unfold ShG maxLen
  omega
theorem OwnG.far {w w' : World} {B g : Nat} {v : Value} {l : List GP} {t : TypeId} {cs : List Value} (h : OwnG w B v l) (hk : Kp (One g) w w') (hb : Bk w g t cs) (h1 : 30 ≠ t) (h2 : 3 ≠ t) : OwnG w' B v l :=
  ⟨own_kp h.1 hk fun j e m => own_ne h.1 hb h1 (by rw [e, show j = g from m]), fun p hp => own_kp (h.2 p hp) hk fun j e m => own_ne (h.2 p hp) hb h2 (by rw [e, show j = g from m])⟩
theorem pL_erase (l : List GP) (i : Nat) (h : i < l.length) : pL (l.eraseIdx i) = (pL l).take (i * 6) ++ (pL l).drop ((i + 1) * 6) := by
  have e : pL l = pL (l.take i) ++ (pC l[i] ++ pL (l.drop (i + 1))) := by
    conv => lhs; rw [← List.take_append_drop i l, List.drop_eq_getElem_cons h, pL_append]
    rfl
  have h1 : (pL (l.take i)).length = i * 6 := by rw [pL_len, List.length_take]; omega
  rw [List.eraseIdx_eq_take_drop_succ, pL_append, e, List.take_left' h1, ← List.append_assoc, List.drop_left' (by rw [List.length_append, h1]; show i * 6 + 6 = _; omega)]
theorem delG_at {L : List Grt} {id : Int} {i : Nat} {x : Grt} (h : AtG L id i) (hs : L.Pairwise (fun x y => x.id < y.id)) (hx : L[i]? = some x) (he : x.id = id) : delG L id = L.eraseIdx i := by
  obtain ⟨hi, hxi⟩ := List.getElem?_eq_some_iff.1 hx
  have e1 : L = L.take i ++ (L[i] :: L.drop (i + 1)) := by rw [← List.drop_eq_getElem_cons hi, List.take_append_drop]
  rw [List.eraseIdx_eq_take_drop_succ]
  unfold delG
  conv => lhs; rw [e1]
  rw [List.filter_append, List.filter_cons, if_neg (by rw [hxi, he]; simp)]
  congr 1
  · rw [List.filter_eq_self]
    intro g hg
    obtain ⟨k, hk⟩ := List.getElem?_of_mem hg
    have hki : k < i := by
      have := (List.getElem?_eq_some_iff.1 hk).1
      rw [List.length_take] at this; omega
    rw [List.getElem?_take, if_pos hki] at hk
    have := h.lo k g hki hk
    simp; omega
  · rw [List.filter_eq_self]
    intro g hg
    obtain ⟨k, hk⟩ := List.getElem?_of_mem hg
    rw [List.getElem?_drop] at hk
    have := sortedG_lt hs (show i < i + 1 + k by omega) hx hk
    simp; omega
theorem hqcsh {w w' : World} {g : Nat} {t : TypeId} {cs : List Value} (h : Bk w g t cs) (h' : Bk w' g t cs) (j : Nat) : w'.cell? ⟨g, j, none⟩ = w.cell? ⟨g, j, none⟩ := by rw [h.cell, h'.cell]
theorem own_set {w : World} {B g n size cap j : Nat} {t : TypeId} {xs : List Value} {u : Value} (h : w.ownsRow B t size (.slice (some ⟨g, 0, none⟩) n cap) n xs) (_hj : j < n * size) : (w.setCell ⟨g, j, none⟩ u).ownsRow B t size (.slice (some ⟨g, 0, none⟩) n cap) n (xs.set j u) := by
  refine ⟨by rw [List.length_set]; exact h.1, ?_⟩
  rcases h.2 with ⟨e, _⟩ | ⟨g', cap', cur, e, hb, hg, hc, hm, hs, ht⟩
  · cases e
  · injection e with e1 _ e3
    injection e1 with e1
    injection e1 with e1 _ _
    subst e1 e3
    have hb2 : Bk w g t cur.toList := hg
    refine .inr ⟨g, cap, (cur.toList.set j u).toArray, rfl, hb, hb2.set_ j u, hc, hm, by simpa using hs, ?_⟩
    show (cur.toList.set j u).take (n * size) = xs.set j u
    rw [List.take_set, ht]
theorem setG_at {L : List Grt} {id : Int} {i : Nat} {x : Grt} (hs : L.Pairwise (fun x y => x.id < y.id)) (hx : L[i]? = some x) (he : x.id = id) (s : List Int) : setG L id s = L.set i { x with stamp := s } := by
  obtain ⟨hi, hxi⟩ := List.getElem?_eq_some_iff.1 hx
  unfold setG
  apply List.ext_getElem?
  intro j
  rw [List.getElem?_map, List.getElem?_set]
  by_cases hj : i = j
  · subst hj
    rw [if_pos rfl, if_pos hi, hx]
    show some (if x.id = id then _ else _) = _
    rw [if_pos he]
  · rw [if_neg hj]
    cases hy : L[j]? with
    | none => rfl
    | some y =>
      show some (if y.id = id then _ else _) = _
      rw [if_neg ?_]
      intro e
      rcases Nat.lt_or_ge i j with h | h
      · have := sortedG_lt hs h hx hy; omega
      · have := sortedG_lt hs (show j < i by omega) hy hx; omega
theorem pL_set (l : List GP) (i : Nat) (h : i < l.length) (s : List Int) (u : Value) : pL (l.set i ({ l[i].1 with stamp := s }, u)) = (pL l).set (i * 6 + 4) u := by
  have hi : (l.set i ({ l[i].1 with stamp := s }, u)).length = l.length := List.length_set
  apply List.ext_getElem?
  intro j
  have hl1 := pL_len l
  have hl2 := pL_len (l.set i ({ l[i].1 with stamp := s }, u))
  rw [hi] at hl2
  by_cases hj : j < 6 * l.length
  · have hq : j / 6 < l.length := by omega
    have hr : j % 6 < 6 := Nat.mod_lt _ (by omega)
    have e : j = j / 6 * 6 + j % 6 := by omega
    have a1 := pL_get l (j / 6) hq (j % 6) hr
    have a2 := pL_get (l.set i ({ l[i].1 with stamp := s }, u)) (j / 6) (by rw [hi]; exact hq) (j % 6) hr
    rw [← e] at a1 a2
    rw [a2, List.getElem_set, List.getElem?_set, a1]
    by_cases h6 : i = j / 6
    · rw [if_pos h6]
      by_cases h4 : i * 6 + 4 = j
      · rw [if_pos h4, if_pos (by omega), show j % 6 = 4 by omega]; rfl
      · rw [if_neg h4]
        subst h6
        have hne : j % 6 ≠ 4 := by omega
        have h5 : j % 6 = 0 ∨ j % 6 = 1 ∨ j % 6 = 2 ∨ j % 6 = 3 ∨ j % 6 = 5 := by omega
        rcases h5 with h5 | h5 | h5 | h5 | h5 <;> rw [h5] <;> rfl
    · rw [if_neg h6, if_neg (by omega)]
  · rw [List.getElem?_eq_none (by omega), List.getElem?_eq_none (by rw [List.length_set]; omega)]
theorem pL_ins (l : List GP) (j : Nat) (h : j ≤ l.length) (p : GP) : pL (l.take j ++ p :: l.drop j) = (pL l).take (j * 6) ++ pC p ++ (pL l).drop (j * 6) := by
  have e : pL l = pL (l.take j) ++ pL (l.drop j) := by rw [← pL_append, List.take_append_drop]
  have h1 : (pL (l.take j)).length = j * 6 := by rw [pL_len, List.length_take]; omega
  rw [pL_append, e, List.take_left' h1, List.drop_left' h1, List.append_assoc]
  rfl
theorem insG_at : ∀ {L : List Grt} {id : Int} {i : Nat} {g : Grt}, AtG L id i → g.id = id → insG L g = L.take i ++ g :: L.drop i
  | [], id, i, g, h, e => by
    have : i = 0 := by have := h.le; simpa using this
    subst this; rfl
  | a :: L, id, i, g, h, e => by
    cases i with
    | zero =>
      have := h.hi 0 a (Nat.le_refl _) rfl
      unfold insG
      rw [if_neg (by omega)]; rfl
    | succ i =>
      have := h.lo 0 a (Nat.succ_pos _) rfl
      unfold insG
      rw [if_pos (by omega), insG_at (L := L) (i := i) ⟨by have := h.le; simpa using this, fun k x hk hx => h.lo (k + 1) x (by omega) hx, fun k x hk hx => h.hi (k + 1) x (by omega) hx⟩ e]
      rfl
theorem pL_one {w : World} {B : Nat} {v : Value} {l : List GP} (h : OwnG w B v l) : ∀ u ∈ pL l, u.oneCell' = true := by
  intro u hu
  unfold pL at hu
  rw [List.mem_flatten] at hu
  obtain ⟨ys, hy, hu⟩ := hu
  rw [List.mem_map] at hy
  obtain ⟨p, hp, rfl⟩ := hy
  obtain ⟨A, c, e, _⟩ := own_len (h.2 p hp)
  exact pC_one p A _ c e u hu
theorem Kp.from_ {B : Nat} {a b : World} (h : Kp No a b) : Kp (From B) a b := h.of_no
end Go.Proofs.Ytifdceofglocdaa

/- Numbers put down one behind the other: book.lay by contract. No condition beyond what each theorem states. -/
namespace Go.Proofs.Ytifdceofglocdaa
open Go Go.RowKit Go.PlainAid

/-- the bytes of numbers -/
def outI (L : List Int) : List UInt8 := ((L.map Int.toNat).map numS).flatten
theorem cS_out (L : List Int) : cS L = numS L.length ++ outI L := by simp [cS, cntsS, numsS, outI]
theorem outI_snoc {L : List Int} {k : Nat} (h : k < L.length) : outI (L.take (k + 1)) = outI (L.take k) ++ numS (L[k]).toNat := by
  rw [List.take_succ_eq_append_getElem h]
  simp only [outI, List.map_append, List.flatten_append, List.map_cons, List.map_nil, List.flatten_cons, List.flatten_nil, List.append_nil]
theorem outI_len : ∀ (L : List Int), (∀ x ∈ L, x < 9223372036854775808) → (outI L).length ≤ 9 * L.length
  | [], _ => by simp [outI]
  | x :: L, h => by
    have h1 := outI_len L fun y hy => h y (List.mem_cons_of_mem _ hy)
    have h2 := numS_len 8 x.toNat (by have := h x (List.mem_cons_self ..); omega)
    have e : outI (x :: L) = numS x.toNat ++ outI L := rfl
    rw [e, List.length_append, List.length_cons]
    omega
theorem SlI.at_ {w : World} {v : Value} {L : List Int} (h : SlI w v L) {k : Nat} (hk : k < L.length) : ∃ g o c, v = .slice (some ⟨g, o, none⟩) L.length c ∧ w.cell? ⟨g, o + k, none⟩ = some (.int .i64 L[k]) := by
  obtain ⟨g, o, c, e, h2⟩ := h.arg.at_ hk
  exact ⟨g, o, c, e, h2 k _ (List.getElem?_eq_getElem hk)⟩
/-- ints that stand when a writer writes -/
theorem SlI.wr {w w' : World} {v vw : Value} {L : List Int} {b B : Nat} {l : List UInt8} (h : SlI w v L) (hw : WrB w b B vw l) (hk : Kp (WrM b vw) w w') : SlI w' v L :=
  h.kp hk fun g cs hb => (wrm_tys hw).not hb (by decide)
theorem WrB.len {w : World} {b B : Nat} {v : Value} {l : List UInt8} (h : WrB w b B v l) : ∃ A c, v = .slice A l.length c := by
  obtain ⟨A, c, e, _⟩ := own_len h.2
  exact ⟨A, c, e⟩

set_option maxHeartbeats 2000000 in
theorem lay_any (b B : Nat) (v : Value) (l : List UInt8) (sv : Value) (L : List Int) (w : World) (h : WrB w b B v l) (hB : B ≤ w.heap.size) (hl : l.length ≤ 1000) (hs : SlI w sv L) (hL : L.length ≤ 1000) (hn : ∀ x ∈ L, x < 9223372036854775808) :
    Calls Try.prog 54 #[.pointer (some ⟨b, 0, none⟩), sv] w fun e w' => e = .returned (.tuple #[]) ∧ WrAft w b B v (l ++ outI L) w' := by
  have HW := Lib.hid h; have HS := Lib.hid hs; have HN := Lib.hid hn
  obtain ⟨A, c, rfl, _⟩ : ∃ A c, sv = .slice A L.length c ∧ L.length ≤ c := by obtain ⟨A, c, e, hc, _⟩ := hs; exact ⟨A, c, e, hc⟩
  clear h hs hn
  go_enter Try.func54, Try.ntmps54
  go_wp2
  go_loopw [8] (fun i wr => ∃ k : Nat, k ≤ L.length ∧ i = .int .i64 k ∧ WrAft w b B v (l ++ outI (L.take k)) wr) (fun i _ => L.length - (intOf i).toNat)
  case atStart => exact ⟨0, Nat.zero_le _, rfl, by simpa [outI] using WrAft.start HW.out⟩
  case round =>
    obtain ⟨k, hk, rfl, va, hb, hkp, hnx⟩ := hrel
    have HB := Lib.hid hb; have HK := Lib.hid hkp; have HX := Lib.hid hnx; clear hb hkp hnx
    by_cases hlt : k < L.length
    · have hk0 : (0 : Int) ≤ (k : Int) := by omega
      have hk1 : (k : Int) < (L.length : Int) := by omega
      obtain ⟨g, o, c', e1, hx⟩ := (HS.out.wr HW.out HK.out).at_ hlt
      injection e1 with e1 _ e1c
      subst e1 e1c
      have HT := Lib.hid (outI_snoc hlt)
      have hle : (l ++ outI (L.take k)).length ≤ 1000000 := by
        have := outI_len (L.take k) fun x hx => HN.out x (List.mem_of_mem_take hx)
        rw [List.length_take] at this
        rw [List.length_append]; omega
      have pn := wnum_any b B va (l ++ outI (L.take k)) L[k] wr HB.out (Nat.le_trans hB HK.out.size) hle (HN.out _ (List.getElem_mem hlt))
      generalize L[k] = x at *
      clear hle
      go_wp2_with fail
      refine pn.mono ?_
      rintro e w2 ⟨rfl, h2⟩
      have H2 := Lib.hid (WrAft.then_ HK.out HX.out h2)
      clear h2 pn
      go_wp2
      go_roundw
      case rel => exact ⟨k + 1, by omega, by go_num, by rw [HT.out, ← List.append_assoc]; exact H2.out⟩
      case measure => simp [intOf]; omega
    · have hk1 : ¬ (k : Int) < (L.length : Int) := by omega
      have HE := Lib.hid (show WrAft w b B v (l ++ outI L) wr by
        have := (⟨va, HB.out, HK.out, HX.out⟩ : WrAft w b B v (l ++ outI (L.take k)) wr)
        rwa [List.take_of_length_le (by omega)] at this)
      clear hlt
      go_wp2
      go_end0
      exact ⟨rfl, HE.out⟩
end Go.Proofs.Ytifdceofglocdaa

/- A record's bytes: book.Encode by contract (words, and a record that may not be). No condition beyond what each theorem states. -/
namespace Go.Proofs.Ytifdceofglocdaa
open Go Go.RowKit Go.PlainAid

/-- what Encode answers -/
def EncR (W : World) (r : Rcd) (e : Ending) (w' : World) : Prop :=
  (encR r = none ∧ e = .returned (.tuple #[.slice none 0 0, .int .i64 43]) ∨ ∃ v b, encR r = some b ∧ e = .returned (.tuple #[v, .int .i64 0]) ∧ OwnB w' W.heap.size v b) ∧ Kp No W w'
theorem enc_none {r : Rcd} (h : ¬ mayR r) : encR r = none := by unfold encR; rw [if_neg h]
theorem enc_some {r : Rcd} (h : mayR r) : encR r = some (bodyR r) := by unfold encR; rw [if_pos h]
/-- what a writer leaves alone -/
theorem WrAft.bk {w w' : World} {b B g : Nat} {vw : Value} {l l2 : List UInt8} {t : TypeId} {cs : List Value} (h : WrB w b B vw l) (h' : WrAft w b B vw l2 w') (hb : Bk w g t cs) (ht : t ∉ [78, 5]) : Bk w' g t cs := by
  obtain ⟨v', _, hk, _⟩ := h'
  exact hb.kp hk ((wrm_tys h).not hb ht)
theorem outI_2 (a b : Int) : outI [a, b] = nS a ++ nS b := by simp [outI, nS]
theorem outI_3 (a b c : Int) : outI [a, b, c] = nS a ++ (nS b ++ nS c) := by simp [outI, nS]
theorem sli_new {w : World} {g : Nat} {L : List Int} {n c : Nat} (hb : Bk w g 3 (ints L)) (hn : n = L.length) (hc : n ≤ c) : SlI w (.slice (some ⟨g, 0, none⟩) n c) L := by
  subst hn
  exact ⟨_, c, rfl, hc, fun _ => ⟨g, 0, _, rfl, hb, fun j v hv => by rw [hb.cell, Nat.zero_add]; exact hv⟩⟩

section
variable {w0 : World} {b B : Nat} {v0 : Value} {l0 : List UInt8}
theorem WrAft.no {w w' : World} {l : List UInt8} (h : WrAft w0 b B v0 l w) (hk : Kp No w w') : WrAft w0 b B v0 l w' := by
  obtain ⟨v', h1, h2, h3⟩ := h
  exact ⟨v', ⟨h1.1.no hk, h1.2.no hk⟩, h2.then_ hk fun i _ m => m.elim, h3⟩
theorem WrAft.sl {w : World} {l : List UInt8} {sv : Value} {L : List Int} (h0 : WrB w0 b B v0 l0) (h : WrAft w0 b B v0 l w) (hs : SlI w0 sv L) : SlI w sv L := by
  obtain ⟨v', h1, h2, h3⟩ := h
  exact hs.wr h0 h2
theorem ws_num {l : List UInt8} {n : Int} {w : World} (hB : B ≤ w0.heap.size) (h : WrAft w0 b B v0 l w) (hl : l.length ≤ 1000) (hn : n < 9223372036854775808) :
    Calls Try.prog 53 #[.pointer (some ⟨b, 0, none⟩), .int .i64 n] w fun e w' => e = .returned (.tuple #[]) ∧ WrAft w0 b B v0 (l ++ nS n) w' := by
  obtain ⟨v', h1, h2, h3⟩ := h
  exact (wnum_any b B v' l n w h1 (Nat.le_trans hB h2.size) (by omega) hn).mono fun e w' ⟨e1, h4⟩ => ⟨e1, WrAft.then_ h2 h3 h4⟩
theorem ws_lay {l : List UInt8} {sv : Value} {L : List Int} {w : World} (hB : B ≤ w0.heap.size) (h : WrAft w0 b B v0 l w) (hl : l.length ≤ 1000) (hs : SlI w sv L) (hL : L.length ≤ 1000) (hn : ∀ x ∈ L, x < 9223372036854775808) :
    Calls Try.prog 54 #[.pointer (some ⟨b, 0, none⟩), sv] w fun e w' => e = .returned (.tuple #[]) ∧ WrAft w0 b B v0 (l ++ outI L) w' := by
  obtain ⟨v', h1, h2, h3⟩ := h
  exact (lay_any b B v' l sv L w h1 (Nat.le_trans hB h2.size) hl hs hL hn).mono fun e w' ⟨e1, h4⟩ => ⟨e1, WrAft.then_ h2 h3 h4⟩
theorem ws_text {l p : List UInt8} {w : World} (hB : B ≤ w0.heap.size) (h : WrAft w0 b B v0 l w) (hl : l.length ≤ 1000) (hp : p.length ≤ 1000) :
    Calls Try.prog 55 #[.pointer (some ⟨b, 0, none⟩), .string ⟨p.toArray⟩] w fun e w' => e = .returned (.tuple #[]) ∧ WrAft w0 b B v0 (l ++ textS p) w' := by
  obtain ⟨v', h1, h2, h3⟩ := h
  have e : (⟨p.toArray⟩ : ByteArray).size = p.length := by simp [ByteArray.size]
  exact (wtext_any b B v' l ⟨p.toArray⟩ w h1 (Nat.le_trans hB h2.size) (by omega) (by rw [e]; omega)).mono fun e2 w' ⟨e1, h4⟩ => ⟨e1, WrAft.then_ h2 h3 (by
    rw [e] at h4
    have e5 : l ++ textS p = l ++ numS p.length ++ (⟨p.toArray⟩ : ByteArray).data.toList := by unfold textS; rw [← List.append_assoc]
    rw [e5]; exact h4)⟩
theorem ws_bytes {l : List UInt8} {w : World} (hB : B ≤ w0.heap.size) (h : WrAft w0 b B v0 l w) (hl : l.length ≤ 1000) :
    Calls Try.prog 56 #[.pointer (some ⟨b, 0, none⟩)] w fun e w' => ∃ v', e = .returned v' ∧ OwnB w' w.heap.size v' l ∧ Kp No w w' := by
  obtain ⟨v', h1, h2, h3⟩ := h
  exact wbytes_any b B v' l w h1 (Nat.le_trans hB h2.size) (by omega)
/-- what a writer that lies in new blocks does, seen from afar -/
theorem WrAft.far_ {W w : World} {l : List UInt8} (h0 : WrB w0 b B v0 l0) (hb : W.heap.size ≤ b) (hB : W.heap.size ≤ B) (hk : Kp No W w0) (h : WrAft w0 b B v0 l w) : Kp No W w := by
  obtain ⟨v', h1, h2, h3⟩ := h
  refine hk.then_ h2 fun i hi m => ?_
  rcases m with rfl | m
  · omega
  · have := (h0.2.lt i m).1; omega
end

set_option maxRecDepth 100000 in
set_option maxHeartbeats 4000000 in
theorem encode_no (r : Rcd) (gv rv : Value) (W : World) (hg : ArgInts W gv r.grant.stamp) (hs : ArgInts W rv r.stamp) (lg : ShG maxLen r.grant) (ls : r.stamp.length ≤ maxLen) (hm : ¬ mayR r) :
    Calls Try.prog 23 #[.agg (rC r gv rv).toArray] W (EncR W r) := by
  obtain ⟨w1, hw1⟩ : ∃ w1, w1 = W.alloc (.cells (rC r gv rv).toArray 32) := ⟨_, rfl⟩
  have HK1 := Lib.hid (show Kp No W w1 by rw [hw1]; exact (Kp.refl No W).alloc _)
  have HB1 := Lib.hid (show Bk w1 W.heap.size 32 (rC r gv rv) by rw [hw1]; exact Bk.new' rfl rfl)
  have pm := mayRec_any r gv rv w1 (hg.no HK1.out) (hs.no HK1.out) lg ls
  rw [decide_eq_false hm] at pm
  have HM := Lib.hid hm; have HW := Lib.hid hw1
  have z := HB1.out.cell
  have HZ := Lib.hid z
  clear hg hs lg ls hm hw1 z
  simp only [rC] at pm HW HZ ⊢
  have z0 := HZ.out 0; have z1 := HZ.out 1; have z2 := HZ.out 2; have z3 := HZ.out 3; have z4 := HZ.out 4; have z5 := HZ.out 5; have z6 := HZ.out 6; have z7 := HZ.out 7; have z8 := HZ.out 8; have z9 := HZ.out 9; have z10 := HZ.out 10; have z11 := HZ.out 11
  simp only [List.getElem?_cons_zero, List.getElem?_cons_succ] at z0 z1 z2 z3 z4 z5 z6 z7 z8 z9 z10 z11
  go_enter Try.func23, Try.ntmps23
  go_upto_region 1 with (fail)
  rw [← HW.out]
  clear HW HZ
  go_wp2_with fail
  refine pm.mono ?_
  rintro e w2 ⟨rfl, k2⟩
  have HK2 := Lib.hid (HK1.out.trans k2)
  clear k2 pm z0 z1 z2 z3 z4 z5 z6 z7 z8 z9 z10 z11
  go_wp2
  go_ret2
  exact ⟨.inl ⟨enc_none HM.out, rfl⟩, HK2.out⟩
end Go.Proofs.Ytifdceofglocdaa
