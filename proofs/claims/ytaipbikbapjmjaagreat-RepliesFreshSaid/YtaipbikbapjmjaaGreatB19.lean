/- Several texts of this claim in one. No condition beyond what each theorem states. -/
import Derived.Test.YtaipbikbapjmjaaGreatB18
import Derived.Deep.OntoInts
/- Pairs and lists of ints that came in. No condition beyond what each theorem states. -/
namespace Go.Proofs.YtaipbikbapjmjaaGreat
open Go Go.ChangeShapes Go.WideShapes Go.ChangeAt Go.RowKit Go.Deep Go.PlainAid

section
variable {H : Type} {enc : TypeId × Value → H} {P : Program}
/-- a list of ints that came in -/
theorem open_intsA {W : World} {b0 : Nat} {t e : TypeId} {v : Value} {d : DataW H} {ps : List MemPlace} (ht : P.underlying t = some (.slice e)) (he : P.underlying e = some (.int .i64))
    (ce : P.cellsOf e = 1) (be : P.bytesOf e = 8) (hv : Value.okWide P W .any b0 t v) (h : DataW.Trod enc P W 0 (fun _ => true) true t v d ps)
    (hz : ∀ n ∈ d.weights P t, n ≤ reachBytes) :
    ∃ L : List Int, ArgInts W v L ∧ L.length ≤ 17592186043904 ∧ ∀ n ∈ L, -9223372036854775808 ≤ n ∧ n ≤ 9223372036854775807 := by
  obtain ⟨a, len, cap, rfl⟩ := okWide_slice ht hv
  obtain ⟨fuel, hf⟩ := h
  rcases open_ints ht he ce hf with ⟨hcs, hx⟩ | ⟨a', len', cap', zs, hcs, _, hl, hm, hn, hx, hc, hs⟩
  · simp [Value.cells] at hcs
    obtain ⟨rfl, rfl, rfl⟩ := hcs
    exact ⟨[], ArgInts.nil _ _ _, by simp, by simp⟩
  · simp [Value.cells] at hcs
    obtain ⟨rfl, rfl, rfl⟩ := hcs
    have hn' : zs.length = cap := by simpa using hn
    injection hx with hd _
    have hw := hz ((len + (cap - len)) * P.bytesOf e) (by rw [hd]; simp [DataW.weights, ht, hn', lits, Nat.min_eq_left hl])
    rw [be] at hw
    have hlen : (zs.take len).length = len := by simp [hn', hl]
    refine ⟨zs.take len, ⟨some a', cap, by rw [hlen], by rw [hlen]; exact hl, fun hne => ?_⟩, by rw [hlen]; simp [reachBytes] at hw; omega, fun x hx => bounds_i64 (hs x (List.mem_of_mem_take hx))⟩
    have h0 : 0 < zs.length := by
      rcases Nat.eq_zero_or_pos zs.length with h0 | h0
      · exfalso; apply hne; rw [List.eq_nil_of_length_eq_zero h0]; simp [ints]
      · exact h0
    have addr_none : ∀ {w : World} {a : Addr} {v : Value}, w.cell? (a.add 0) = some v → ∃ b o, a = ⟨b, o, none⟩ := by
      intro w a v h
      obtain ⟨b, o, s⟩ := a
      cases s with
      | none => exact ⟨b, o, rfl⟩
      | some s =>
        exfalso
        simp only [World.cell?, Addr.add, if_true] at h
        split at h <;> simp_all
    obtain ⟨b, o, rfl⟩ := addr_none (hc 0 h0)
    refine ⟨b, o, rfl, fun j v hv => ?_⟩
    rw [ints_get] at hv
    have hj : j < (zs.take len).length := by
      rcases Nat.lt_or_ge j (zs.take len).length with h' | h'
      · exact h'
      · rw [List.getElem?_eq_none h'] at hv; simp at hv
    rw [List.getElem?_eq_getElem hj] at hv
    simp only [Option.map_some, Option.some.injEq] at hv
    subst hv
    rw [hlen] at hj
    rw [← Addr.add_mid, hc j (by omega), List.getElem_take, List.getD_eq_getElem?_getD, List.getElem?_eq_getElem (by omega)]
    rfl
/-- a pair of ints -/
theorem open_pair {W : World} {b0 : Nat} {t e : TypeId} {v : Value} {d : DataW H} {ps : List MemPlace} (ht : P.underlying t = some (.array 2 e)) (he : P.underlying e = some (.int .i64))
    (ce : P.cellsOf e = 1) (ct : P.cellsOf t = 2) (hv : Value.okWide P W .any b0 t v) (h : DataW.Trod enc P W 0 (fun _ => true) true t v d ps) :
    ∃ x y : Int, v = .agg #[.int .i64 x, .int .i64 y] ∧ (-9223372036854775808 ≤ x ∧ x < 9223372036854775808) ∧ (-9223372036854775808 ≤ y ∧ y < 9223372036854775808) := by
  have hv2 : ∃ cs, v = .agg cs ∧ cs.size = P.cellsOf t := by
    simp only [Value.okWide, ht] at hv
    obtain ⟨cs, h1, h2, _⟩ := hv
    exact ⟨cs, h1, h2⟩
  obtain ⟨cs, rfl, hsz⟩ := hv2
  rw [ct] at hsz
  obtain ⟨fuel, hf⟩ := h
  obtain ⟨xs, m, _, _, _, hxl, hg⟩ := DataW.trod_array ht hf
  have g0 := hg 0 (by omega)
  have g1 := hg 1 (by omega)
  rw [ce] at g0 g1
  obtain ⟨l⟩ := cs
  match l, hsz with
  | [v0, v1], _ =>
    match xs, hxl with
    | [y0, y1], _ =>
      simp [Value.cells] at g0 g1
      obtain ⟨n0, e0, _, w0⟩ := DataW.trod_int he g0
      obtain ⟨n1, e1, _, w1⟩ := DataW.trod_int he g1
      simp at e0 e1
      subst e0 e1
      have b0 := bounds_i64 w0
      have b1 := bounds_i64 w1
      exact ⟨n0, n1, rfl, by omega, by omega⟩
end
end Go.Proofs.YtaipbikbapjmjaaGreat

/- RepliesFresh in plain words: who asks in good order is told each answer again. No condition beyond what each theorem states. -/
namespace Go.Proofs.YtaipbikbapjmjaaGreat
open Go

def ansF (f b k : Int) : Msg := { kind := 2, from_ := (f + 1) % 8, dest := f, boot := b, seq := k, code := 63 }
theorem ansF_seq (f b k : Int) : (ansF f b k).seq = k := rfl
def askF (f b k lo : Int) : Msg := { kind := 1, from_ := f, dest := (f + 1) % 8, boot := b, seq := k, low := lo, verb := 3, id := k }
def ansL (f b : Int) (lo n : Nat) : List Msg := (List.range' lo (n - lo)).map fun k : Nat => ansF f b (k : Int)
theorem ansL_len (f b : Int) (lo n : Nat) : (ansL f b lo n).length = n - lo := by simp [ansL]
theorem ansL_snoc (f b : Int) {lo n : Nat} (h : lo ≤ n) : ansL f b lo (n + 1) = ansL f b lo n ++ [ansF f b n] := by
  unfold ansL
  rw [show n + 1 - lo = (n - lo) + 1 by omega, List.range'_concat, List.map_append, List.map_singleton, show lo + 1 * (n - lo) = n by omega]
theorem ansL_filter (f b : Int) {lo lo2 n : Nat} (h : lo ≤ lo2) (h2 : lo2 ≤ n) : ((ansL f b lo n).filter fun a => decide ((lo2 : Int) ≤ a.seq)) = ansL f b lo2 n := by
  unfold ansL
  have e : List.range' lo (n - lo) = List.range' lo (lo2 - lo) ++ List.range' lo2 (n - lo2) := by
    have := List.range'_append (s := lo) (m := lo2 - lo) (n := n - lo2) (step := 1)
    rw [show lo + 1 * (lo2 - lo) = lo2 by omega, show lo2 - lo + (n - lo2) = n - lo by omega] at this
    exact this.symm
  rw [e, List.map_append, List.filter_append]
  have h1 : (List.map (fun k : Nat => ansF f b (k : Int)) (List.range' lo (lo2 - lo))).filter (fun a => decide ((lo2 : Int) ≤ a.seq)) = [] := by
    rw [List.filter_eq_nil_iff]
    intro a ha
    rw [List.mem_map] at ha
    obtain ⟨k, hk, rfl⟩ := ha
    rw [List.mem_range'_1] at hk
    rw [decide_eq_true_iff, ansF_seq]
    omega
  have h3 : (List.map (fun k : Nat => ansF f b (k : Int)) (List.range' lo2 (n - lo2))).filter (fun a => decide ((lo2 : Int) ≤ a.seq)) = List.map (fun k : Nat => ansF f b (k : Int)) (List.range' lo2 (n - lo2)) := by
    rw [List.filter_eq_self]
    intro a ha
    rw [List.mem_map] at ha
    obtain ⟨k, hk, rfl⟩ := ha
    rw [List.mem_range'_1] at hk
    rw [decide_eq_true_iff, ansF_seq]
    omega
  rw [h1, h3, List.nil_append]
theorem ansL_find (f b : Int) {lo n k : Nat} (h : lo ≤ k) (h2 : k < n) : (ansL f b lo n).find? (fun a => decide (a.seq = (k : Int))) = some (ansF f b k) := by
  have h3 : ansF f b k ∈ ansL f b lo n := by
    unfold ansL
    rw [List.mem_map]
    exact ⟨k, List.mem_range'_1.2 ⟨h, by omega⟩, rfl⟩
  cases hf : (ansL f b lo n).find? (fun a => decide (a.seq = (k : Int))) with
  | none =>
    rw [List.find?_eq_none] at hf
    have := hf _ h3
    simp [ansF] at this
  | some a =>
    have h4 := List.mem_of_find?_eq_some hf
    have h5 := List.find?_some hf
    unfold ansL at h4
    rw [List.mem_map] at h4
    obtain ⟨j, _, rfl⟩ := h4
    rw [decide_eq_true_iff, ansF_seq] at h5
    rw [show ((j : Nat) : Int) = (k : Int) by omega]
theorem ansL_none (f b : Int) {lo n k : Nat} (h : n ≤ k) : (ansL f b lo n).find? (fun a => decide (a.seq = (k : Int))) = none := by
  rw [List.find?_eq_none]
  intro a ha
  unfold ansL at ha
  rw [List.mem_map] at ha
  obtain ⟨j, hj, rfl⟩ := ha
  rw [List.mem_range'_1] at hj
  rw [decide_eq_true_iff, ansF_seq]
  omega
structure InvF (f b : Int) (cs : List Cl) (lo n : Nat) : Prop where
  h1 : 1 ≤ lo
  h2 : lo ≤ n
  h3 : n ≤ lo + 8
  at_ : (∃ l0 : Nat, 1 ≤ l0 ∧ l0 ≤ lo ∧ cs.getD f.toNat {} = ⟨b, l0, ansL f b l0 n⟩) ∨ (cs.getD f.toNat {} = {} ∧ n = 1)
theorem InvF.init (f b : Int) : InvF f b (List.replicate 8 {}) 1 1 := by
  refine ⟨Nat.le_refl _, Nat.le_refl _, by omega, .inr ⟨?_, rfl⟩⟩
  rw [List.getD_eq_getElem?_getD, List.getElem?_replicate]
  split <;> rfl
theorem InvF.up {f b : Int} {cs : List Cl} {lo n : Nat} (h : InvF f b cs lo n) (hl : lo < n) : InvF f b cs (lo + 1) n := by
  refine ⟨by omega, by omega, by have := h.h3; omega, ?_⟩
  rcases h.at_ with ⟨l0, a, c, e⟩ | ⟨e, e2⟩
  · exact .inl ⟨l0, a, by omega, e⟩
  · exact .inr ⟨e, e2⟩
/-- what others ask does not touch it -/
theorem InvF.other {f b : Int} {cs : List Cl} {lo n : Nat} (h : InvF f b cs lo n) (hl : cs.length = 8) (hf : 0 ≤ f) (m : Msg) (hm : m.from_ ≠ f) : InvF f b (seenS cs m).1 lo n := by
  have e : (seenS cs m).1.getD f.toNat {} = cs.getD f.toNat {} := by
    rcases seen_state cs m with ⟨e, _⟩ | ⟨hk, hm2, c, hh, e, _⟩
    · rw [e]
    · obtain ⟨g1, _⟩ := may_ask hm2 hk
      unfold nodeI at g1
      rw [e, getD_set _ _ _ _ _ (by omega), if_neg (by omega)]
  exact ⟨h.h1, h.h2, h.h3, by rw [e]; exact h.at_⟩
theorem ask_may {f b k lo : Int} (hf : 0 ≤ f ∧ f < 8) (hb : 1 ≤ b ∧ b ≤ 1099511627776) (hk : 1 ≤ k ∧ k ≤ 1000) (hl : 1 ≤ lo ∧ lo ≤ k) : mayS vpP (askF f b k lo) := by
  refine ⟨?_, hf, ?_, ?_⟩
  · unfold usedS askF; simp
  · show f ≠ (f + 1) % 8; omega
  · unfold fineS
    rw [if_pos (show (askF f b k lo).kind = 1 from rfl)]
    refine ⟨?_, hb, ⟨hk.1, by show k ≤ _; omega⟩, hl.1, hl.2, ?_⟩
    · show nodeI ((f + 1) % 8); unfold nodeI; omega
    · rw [if_neg (show ¬ (askF f b k lo).verb = 1 by simp [askF]), if_neg (show ¬ (askF f b k lo).verb = 2 by simp [askF]), if_pos (show (askF f b k lo).verb = 3 from rfl)]
      exact ⟨hk.1, by show k ≤ _; omega⟩
theorem ans_fits {f b k lo : Int} (hf : 0 ≤ f ∧ f < 8) (hb : 1 ≤ b ∧ b ≤ 1099511627776) (hk : 1 ≤ k ∧ k ≤ 1000) : fitsS (askF f b k lo) (ansF f b k) := by
  refine ⟨rfl, ⟨?_, ?_, ?_, ?_⟩, rfl, rfl, rfl, rfl⟩
  · unfold usedS ansF; simp
  · show nodeI ((f + 1) % 8); unfold nodeI; omega
  · show (f + 1) % 8 ≠ f; omega
  · unfold fineS
    rw [if_neg (show ¬ (ansF f b k).kind = 1 by simp [ansF]), if_pos (show (ansF f b k).kind = 2 from rfl)]
    refine ⟨hf, hb, ⟨hk.1, by show k ≤ _; omega⟩, by simp [ansF], by simp [ansF], fun h => ?_⟩
    simp [ansF] at h
/-- the client that has heard its own request -/
theorem InvF.heard {f b : Int} {cs : List Cl} {lo n : Nat} (h : InvF f b cs lo n) (hb : 1 ≤ b) {m : Msg} (h1 : m.boot = b) (h2 : m.low = lo) : heardS (cs.getD f.toNat {}) m = some ⟨b, lo, ansL f b lo n⟩ := by
  have hlo := h.h1
  rcases h.at_ with ⟨l0, a, c, e⟩ | ⟨e, e2⟩
  · rw [e]
    unfold heardS
    rw [if_neg (by show ¬ m.boot < b; omega), if_neg (by show ¬ b < m.boot; omega)]
    show some (Cl.mk b (max (l0 : Int) m.low) ((ansL f b l0 n).filter fun a => decide (max (l0 : Int) m.low ≤ a.seq))) = _
    rw [h2, show max (l0 : Int) (lo : Int) = (lo : Int) by omega, ansL_filter f b c h.h2]
  · have e3 : lo = 1 := by have := h.h2; omega
    rw [e]
    unfold heardS
    rw [if_neg (by show ¬ m.boot < 0; omega), if_pos (by show 0 < m.boot; omega), h1, h2, e3, e2]
    rfl
theorem seen_of {cs : List Cl} {m : Msg} (hk : m.kind = 1) (hm : mayS vpP m) {c : Cl} (hh : heardS (cs.getD m.from_.toNat {}) m = some c) (h1 : c.low ≤ m.seq) (h2 : m.seq < c.low + 8) :
    (seenS cs m).1 = cs.set m.from_.toNat c ∧ (∀ a, findS c m.seq = some a → (seenS cs m).2 = (2, a)) ∧ (findS c m.seq = none → (seenS cs m).2 = (3, {})) := by
  unfold seenS
  rw [if_pos ⟨hk, hm⟩, hh]
  simp only
  rw [if_neg (by omega)]
  cases findS c m.seq with
  | none => exact ⟨rfl, (fun a h => by cases h), fun _ => rfl⟩
  | some x => exact ⟨rfl, (fun a h => by injection h with h; subst h; rfl), (fun h => by cases h)⟩
/-- a new request in good order: it is new, and its answer is kept -/
theorem InvF.new_ {f b : Int} {cs : List Cl} {lo n : Nat} (h : InvF f b cs lo n) (hl : cs.length = 8) (hf : 0 ≤ f ∧ f < 8) (hb : 1 ≤ b ∧ b ≤ 1099511627776) (hn : n ≤ 1000) (hlt : n < lo + 8) :
    (seenS cs (askF f b n lo)).2 = (3, {}) ∧ (keepS (seenS cs (askF f b n lo)).1 (askF f b n lo) (ansF f b n)).2 = true ∧ InvF f b (keepS (seenS cs (askF f b n lo)).1 (askF f b n lo) (ansF f b n)).1 lo (n + 1) := by
  have h1 := h.h1; have h2 := h.h2
  have hm : mayS vpP (askF f b n lo) := ask_may hf hb ⟨by omega, by omega⟩ ⟨by omega, by omega⟩
  have hh : heardS (cs.getD (askF f b n lo).from_.toNat {}) (askF f b n lo) = some ⟨b, lo, ansL f b lo n⟩ := h.heard hb.1 rfl rfl
  obtain ⟨s1, _, s3⟩ := seen_of (cs := cs) rfl hm hh (by show (lo : Int) ≤ n; omega) (by show (n : Int) < lo + 8; omega)
  have hnone : findS ⟨b, lo, ansL f b lo n⟩ (askF f b n lo).seq = none := ansL_none f b (Nat.le_refl _)
  have s1 : (seenS cs (askF f b n lo)).1 = cs.set f.toNat ⟨b, lo, ansL f b lo n⟩ := s1
  have hln : f.toNat < cs.length := by omega
  have hg : (cs.set f.toNat ⟨b, lo, ansL f b lo n⟩ : List Cl).getD f.toNat {} = ⟨b, lo, ansL f b lo n⟩ := by
    rw [getD_set _ _ _ _ _ hln, if_pos rfl]
  refine ⟨s3 hnone, ?_⟩
  rw [s1]
  obtain ⟨q1, _, q3⟩ := seen_of (cs := cs.set f.toNat ⟨b, lo, ansL f b lo n⟩) (m := askF f b n lo) rfl hm (c := ⟨b, lo, ansL f b lo n⟩) (by
    show heardS ((cs.set f.toNat _ : List Cl).getD f.toNat {}) _ = _
    rw [hg]; exact heard_again hh) (by show (lo : Int) ≤ n; omega) (by show (n : Int) < lo + 8; omega)
  have q1 : (seenS (cs.set f.toNat ⟨b, lo, ansL f b lo n⟩) (askF f b n lo)).1 = cs.set f.toNat ⟨b, lo, ansL f b lo n⟩ := by
    rw [q1]; show (cs.set f.toNat _ : List Cl).set f.toNat _ = _; rw [List.set_set]
  have hkp : keepS (cs.set f.toNat ⟨b, lo, ansL f b lo n⟩) (askF f b n lo) (ansF f b n) = ((cs.set f.toNat ⟨b, lo, ansL f b lo n⟩ : List Cl).set f.toNat (addS ⟨b, lo, ansL f b lo n⟩ (ansF f b n)), true) := by
    unfold keepS
    rw [q3 hnone, q1]
    simp only
    rw [if_pos ⟨trivial, ans_fits hf hb ⟨by omega, by omega⟩⟩]
    show ((cs.set f.toNat _ : List Cl).set f.toNat (addS ((cs.set f.toNat _ : List Cl).getD f.toNat {}) _), true) = _
    rw [hg]
  rw [hkp]
  refine ⟨rfl, h1, by omega, by omega, .inl ⟨lo, h1, Nat.le_refl _, ?_⟩⟩
  simp only
  rw [getD_set _ _ _ _ _ (by rw [List.length_set]; exact hln), if_pos rfl, ansL_snoc f b h2]
  rfl
/-- a request that has been answered: its answer is told again -/
theorem InvF.again {f b : Int} {cs : List Cl} {lo n k : Nat} (h : InvF f b cs lo n) (hl : cs.length = 8) (hf : 0 ≤ f ∧ f < 8) (hb : 1 ≤ b ∧ b ≤ 1099511627776) (hn : n ≤ 1000) (hk : lo ≤ k) (hk2 : k < n) :
    (seenS cs (askF f b k lo)).2 = (2, ansF f b k) ∧ InvF f b (seenS cs (askF f b k lo)).1 lo n ∧ lenS (seenS cs (askF f b k lo)).1 f = n - lo := by
  have h1 := h.h1; have h2 := h.h2; have h3 := h.h3
  have hm : mayS vpP (askF f b k lo) := ask_may hf hb ⟨by omega, by omega⟩ ⟨by omega, by omega⟩
  have hh : heardS (cs.getD (askF f b k lo).from_.toNat {}) (askF f b k lo) = some ⟨b, lo, ansL f b lo n⟩ := h.heard hb.1 rfl rfl
  obtain ⟨s1, s2, _⟩ := seen_of (cs := cs) rfl hm hh (by show (lo : Int) ≤ k; omega) (by show (k : Int) < lo + 8; omega)
  have s1 : (seenS cs (askF f b k lo)).1 = cs.set f.toNat ⟨b, lo, ansL f b lo n⟩ := s1
  have hg : (cs.set f.toNat ⟨b, lo, ansL f b lo n⟩ : List Cl).getD f.toNat {} = ⟨b, lo, ansL f b lo n⟩ := by
    rw [getD_set _ _ _ _ _ (by omega), if_pos rfl]
  refine ⟨s2 _ (ansL_find f b hk hk2), ⟨h1, h2, h3, .inl ⟨lo, h1, Nat.le_refl _, by rw [s1, hg]⟩⟩, ?_⟩
  unfold lenS
  rw [if_neg (by omega), s1, hg]
  exact ansL_len f b lo n
end Go.Proofs.YtaipbikbapjmjaaGreat
