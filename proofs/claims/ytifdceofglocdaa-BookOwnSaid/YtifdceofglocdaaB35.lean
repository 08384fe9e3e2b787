/- Rows of ints that are wiped and grown, whether or not they share a block: the law's wipe by contract. No condition beyond what each theorem states. -/
import Derived.Test.YtifdceofglocdaaB32
import Derived.Laws.AppendOwn
namespace Go.Proofs.Ytifdceofglocdaa
open Go Go.RowKit Go.PlainAid

theorem bk_same {w : World} {g : Nat} {T : TypeId} {cs cs' : List Value} (hb' : Bk w g T cs') (hb : Bk w g T cs) : cs' = cs := by
  have h1 : w.heap[g]? = some (.cells cs'.toArray T (0, 0)) := hb'
  have h2 : w.heap[g]? = some (.cells cs.toArray T (0, 0)) := hb
  rw [h1] at h2
  injection h2 with h2
  injection h2 with h2 _ _
  injection h2 with h2
/-- only blocks of ints of a zone have changed, and cells that held ints hold ints -/
structure IZ (Z : Nat → Prop) (w w' : World) : Prop where
  kp : Kp (fun k => Z k ∧ ∃ cs, Bk w k 3 cs) w w'
  ti : ∀ g cs, Bk w g 3 cs → ∃ cs' : List Value, Bk w' g 3 cs' ∧ cs'.length = cs.length ∧ ∀ (j : Nat) (x : Int), cs[j]? = some (.int .i64 x) → ∃ y, cs'[j]? = some (.int .i64 y)
theorem IZ.of_no {Z : Nat → Prop} {w w' : World} (h : Kp No w w') : IZ Z w w' := ⟨h.of_no, fun _ cs hb => ⟨cs, hb.no h, rfl, fun _ x e => ⟨x, e⟩⟩⟩
theorem IZ.refl (Z : Nat → Prop) (w : World) : IZ Z w w := .of_no (Kp.refl _ _)
theorem IZ.trans {Z : Nat → Prop} {a b c : World} (h : IZ Z a b) (k : IZ Z b c) : IZ Z a c := by
  refine ⟨h.kp.then_ k.kp fun i hi ⟨hz, cs, hb⟩ => ⟨hz, ?_⟩, fun g cs hb => ?_⟩
  · by_cases hm : ∃ cs, Bk a i 3 cs
    · exact hm
    · have := h.kp.block i hi fun m => hm m.2
      exact ⟨cs, show a.heap[i]? = _ by rw [← this]; exact hb⟩
  · obtain ⟨c1, h1, h2, h3⟩ := h.ti g cs hb
    obtain ⟨c2, k1, k2, k3⟩ := k.ti g c1 h1
    refine ⟨c2, k1, k2.trans h2, fun j x e => ?_⟩
    obtain ⟨y, hy⟩ := h3 j x e
    exact k3 j y hy
theorem IZ.mono {Z Z' : Nat → Prop} {w w' : World} (h : IZ Z w w') (hz : ∀ k, Z k → Z' k) : IZ Z' w w' := ⟨h.kp.mono fun k _ m => ⟨hz k m.1, m.2⟩, h.ti⟩
theorem IZ.bk {Z : Nat → Prop} {w w' : World} {g : Nat} {T : TypeId} {cs : List Value} (h : IZ Z w w') (hb : Bk w g T cs) (hne : T ≠ 3) : Bk w' g T cs :=
  hb.kp h.kp fun ⟨_, _cs', hb'⟩ => hb.ne_ hb' hne rfl
theorem IZ.set {Z : Nat → Prop} {w : World} {g : Nat} {cs : List Value} (hb : Bk w g 3 cs) (hz : Z g) (j : Nat) (x : Int) : IZ Z w (w.setCell ⟨g, j, none⟩ (.int .i64 x)) := by
  refine ⟨(Kp.refl _ w).set (.inl ⟨hz, cs, hb⟩) j _, fun g' cs' hb' => ?_⟩
  by_cases e : g' = g
  · subst e
    have hcc : cs' = cs := bk_same hb' hb
    subst hcc
    refine ⟨_, hb.set_ j (.int .i64 x), List.length_set, fun k y hy => ?_⟩
    rw [List.getElem?_set]
    split
    · rename_i hk
      subst hk
      rw [if_pos (List.getElem?_eq_some_iff.1 hy).1]
      exact ⟨x, rfl⟩
    · exact ⟨y, hy⟩
  · exact ⟨cs', hb'.far (p := ⟨g, j, none⟩) e _, rfl, fun _ y hy => ⟨y, hy⟩⟩
/-- a row of ints in a zone -/
def IntZ (w : World) (Z : Nat → Prop) (n : Nat) (v : Value) : Prop := ∃ L : List Int, L.length = n ∧ w.ownsRow 0 3 1 v n (ints L) ∧ ∀ g, v.ownBlock = some g → Z g
theorem IntZ.of {w : World} {Z : Nat → Prop} {B : Nat} {v : Value} {L : List Int} (h : w.ownsRow B 3 1 v L.length (ints L)) (hz : ∀ g, v.ownBlock = some g → Z g) : IntZ w Z L.length v := ⟨L, rfl, own_mono h (Nat.zero_le _), hz⟩
theorem ints_of_cells (n : Nat) (cs : List Value) (hl : n ≤ cs.length) (h : ∀ j, j < n → ∃ y, cs[j]? = some (.int .i64 y)) : ∃ L : List Int, L.length = n ∧ cs.take n = ints L := by
  induction n with
  | zero => exact ⟨[], rfl, rfl⟩
  | succ n ih =>
    obtain ⟨L, hL, e⟩ := ih (by omega) fun j hj => h j (by omega)
    obtain ⟨y, hy⟩ := h n (by omega)
    obtain ⟨hn, hy⟩ := List.getElem?_eq_some_iff.1 hy
    exact ⟨L ++ [y], by rw [List.length_append, hL]; rfl, by rw [List.take_succ_eq_append_getElem hn, e, hy, ints_append]; rfl⟩
theorem IntZ.iz {w w' : World} {Z Z' : Nat → Prop} {n : Nat} {v : Value} (h : IntZ w Z n v) (hk : IZ Z' w w') : IntZ w' Z n v := by
  obtain ⟨L, hL, ho, hz⟩ := h
  rcases ho.2 with ⟨e, h0⟩ | ⟨g, cap, cur, e, hb, hg, hc, hm, hs, ht⟩
  · subst e
    subst h0
    exact ⟨[], rfl, nil_own _ _ _ _, hz⟩
  · have hbk : Bk w g 3 cur.toList := by unfold Bk; rw [hg]
    obtain ⟨cs', h1, h2, h3⟩ := hk.ti g _ hbk
    rw [Nat.mul_one] at ht hs
    have hcl : cs'.length = cap := by rw [h2, Array.length_toList, hs]
    obtain ⟨L', hL', e'⟩ := ints_of_cells n cs' (by omega) fun j hj => by
      have h4 : (ints L)[j]? = some (.int .i64 (L[j]'(by omega))) := by rw [ints_get, List.getElem?_eq_getElem (by omega)]; rfl
      rw [← ht, List.getElem?_take, if_pos hj] at h4
      exact h3 j _ h4
    refine ⟨L', hL', ⟨by simp [hL'], .inr ⟨g, cap, cs'.toArray, e, Nat.zero_le _, h1, hc, hm, by simp [hcl], by rw [Nat.mul_one]; exact e'⟩⟩, hz⟩
theorem IntZ.kp {w w' : World} {Z M : Nat → Prop} {n : Nat} {v : Value} (h : IntZ w Z n v) (hk : Kp M w w') (hm : ∀ g cs, M g → Bk w g 3 cs → False) : IntZ w' Z n v := by
  obtain ⟨L, hL, ho, hz⟩ := h
  refine ⟨L, hL, own_kp ho hk fun g e m => ?_, hz⟩
  obtain ⟨cs, hb⟩ := own_bk ho g e
  exact hm g cs m hb
theorem IntZ.no {w w' : World} {Z : Nat → Prop} {n : Nat} {v : Value} (h : IntZ w Z n v) (hk : Kp No w w') : IntZ w' Z n v := h.kp hk fun _ _ m _ => m
/-- a row of ints at one of its places -/
theorem IntZ.at_ {w : World} {Z : Nat → Prop} {n : Nat} {v : Value} (h : IntZ w Z n v) {j : Nat} (hj : j < n) : ∃ g cap cs x, v = .slice (some ⟨g, 0, none⟩) n cap ∧ Bk w g 3 cs ∧ cs[j]? = some (.int .i64 x) ∧ Z g := by
  obtain ⟨L, hL, ho, hz⟩ := h
  rcases ho.2 with ⟨_, h0⟩ | ⟨g, cap, cur, e, hb, hg, hc, hm, hs, ht⟩
  · omega
  · rw [Nat.mul_one] at ht
    have h4 : (ints L)[j]? = some (.int .i64 (L[j]'(by omega))) := by rw [ints_get, List.getElem?_eq_getElem (by omega)]; rfl
    rw [← ht, List.getElem?_take, if_pos hj] at h4
    exact ⟨g, cap, cur.toList, _, e, by unfold Bk; rw [hg], h4, hz g (by rw [e]; rfl)⟩
theorem IntZ.len {w : World} {Z : Nat → Prop} {n : Nat} {v : Value} (h : IntZ w Z n v) : ∃ A c, v = .slice A n c ∧ n ≤ maxLen := by
  obtain ⟨L, hL, ho, hz⟩ := h
  rcases ho.2 with ⟨e, h0⟩ | ⟨g, cap, cur, e, hb, hg, hc, hm, hs, ht⟩
  · subst h0; exact ⟨_, _, e, Nat.zero_le _⟩
  · exact ⟨_, _, e, by omega⟩
set_option maxRecDepth 100000 in
set_option maxHeartbeats 2000000 in
theorem wipe_any (v : Value) (n : Nat) (x : Int) (Z : Nat → Prop) (W : World) (h : IntZ W Z n v) :
    Calls Try.prog 30 #[v, .int .i64 x] W fun e w' => e = .returned (.tuple #[]) ∧ IZ Z W w' := by
  obtain ⟨A, c, rfl, hn⟩ := h.len
  have hn2 : n ≤ 9223372036854775807 := by unfold maxLen at hn; omega
  have HH := Lib.hid h
  clear h hn
  go_enter Try.func30, Try.ntmps30
  go_wp2
  go_loopw [7] (fun i wr => ∃ j : Nat, j ≤ n ∧ i = .int .i64 j ∧ IZ Z W wr) (fun i _ => n - (intOf i).toNat)
  case atStart => exact ⟨0, Nat.zero_le _, rfl, IZ.refl _ _⟩
  case round =>
    obtain ⟨j, hj, rfl, hz⟩ := hrel
    have HZ := Lib.hid hz
    clear hz
    by_cases hlt : j < n
    · have hk0 : (0 : Int) ≤ (j : Int) := by omega
      have hk1 : (j : Int) < (n : Int) := by omega
      obtain ⟨g, cap, cs, y, e, hb, hc, hzg⟩ := (HH.out.iz HZ.out).at_ hlt
      injection e with e _ e2
      subst e e2
      have q0 : wr.cell? ⟨g, j, none⟩ = some (.int .i64 y) := by rw [hb.cell]; exact hc
      have q1 := hb.frozen j
      have HS := Lib.hid (HZ.out.trans (IZ.set hb hzg j x))
      have HLT := Lib.hid hlt
      clear hb hc hlt
      go_wp2
      go_roundw
      case rel => exact ⟨j + 1, HLT.out, by go_num, HS.out⟩
      case measure => have := HLT.out; simp [intOf]; omega
    · have hk1 : ¬ (j : Int) < (n : Int) := by omega
      clear hlt
      go_wp2
      go_end0
      exact ⟨rfl, HZ.out⟩
/-- append of ints to a row of a zone that holds all blocks that are made from now on -/
theorem run_appI (W : World) (Z : Nat → Prop) (hz : ∀ k, W.heap.size ≤ k → Z k) (ty : TypeId) (n : Nat) (v : Value) (h : IntZ W Z n v) (q m c : Nat) (L2 : List Int) (hq : Bk W q 3 (ints L2)) (hm : L2.length = m) (hm0 : 0 < m) (hn : n + m ≤ 17592186044416) :
    ∃ v' w', (Builtin.append_ #[28, 28] ty #[v, .slice (some ⟨q, 0, none⟩) m c]).run Try.prog W = .ok v' w' ∧ IntZ w' Z (n + m) v' ∧ IZ Z W w' := by
  have hi0 := Try.infoInt
  obtain ⟨i0, hi1, hz0, hz1, hz2⟩ := info_parts hi0
  obtain ⟨L, hL, ho, hzo⟩ := h
  have hnews : ∀ j u, (ints L2)[j]? = some u → W.cell? ((⟨q, 0, none⟩ : Addr).add j) = some u := fun j u hu => by
    rw [Addr.add_mid, Nat.zero_add, hq.cell]; exact hu
  have h1 : ∀ u ∈ ints L2, u.oneCell' = true := fun u hu => by
    unfold ints at hu
    rw [List.mem_map] at hu
    obtain ⟨y, _, rfl⟩ := hu
    rfl
  have hl2 : (ints L2).length = m := by rw [ints_length, hm]
  have hcells : (ints L ++ ints L2).length = n + m := by rw [List.length_append, ints_length, ints_length, hL, hm]
  have grown : ∀ old, (W.drew.alloc (.cells ((ints L).toArray ++ (ints L2).toArray ++ Builtin.zeroCells (Value.int .i64 0).cells (grownCap W (n + m) old 3 - (n + m))) 3)).ownsRow 0 3 1 (.slice (some ⟨W.heap.size, 0, none⟩) (n + m) (grownCap W (n + m) old 3)) (n + m) (ints (L ++ L2)) := fun old => by
    have hge := grownCap_ge W (n + m) old 3
    have hcm : grownCap W (n + m) old 3 ≤ maxLen := grownCap_le_maxLen W (n + m) old 3 (by unfold maxLen; omega)
    refine ⟨by rw [ints_append, hcells, Nat.mul_one], .inr ⟨W.heap.size, _, _, rfl, Nat.zero_le _, heap_alloc_new W.drew _, hge, hcm, ?_, ?_⟩⟩
    · have hzs : (Value.int .i64 0).cells.size = 1 := rfl
      simp only [Array.size_append, List.size_toArray, size_zeroCells, ints_length, hL, hm, hzs]
      omega
    · simp only [Array.toList_append]
      rw [ints_append, ← hcells, Nat.mul_one]
      exact List.take_left
  have hzz : i0.zero = some (.int .i64 0) := hz0
  rcases ho.2 with ⟨e, h0⟩ | ⟨g, cap, cur, e, hbg, hg, hnc, hcm, hcs, htake⟩
  · subst e h0
    have hLn : L = [] := List.eq_nil_of_length_eq_zero hL
    subst hLn
    have hr := run_append_nil (P := Try.prog) W 28 ty 3 i0 _ Try.underlying28 hi1 hzz ⟨q, 0, none⟩ m c (ints L2) (by rw [hl2, hz1, Nat.mul_one]) hnews hm0 (by omega) (by rw [hz2]; omega)
    have hg := grown 0
    simp only [Nat.zero_add, ints, List.map_nil, List.nil_append, Array.empty_append] at hg hr ⊢
    refine ⟨_, _, hr, ⟨L2, hm, hg, fun g e => ?_⟩, .of_no ((Kp.refl No W).drew.alloc _)⟩
    have : W.heap.size = g := by simpa [Value.ownBlock] using e
    exact hz g (by omega)
  · subst e
    rw [Nat.mul_one] at hcs htake
    have hbk : Bk W g 3 cur.toList := by unfold Bk; rw [hg]
    by_cases hroom : n + m ≤ cap
    · have hr := run_append_room (P := Try.prog) W 28 ty 3 i0 Try.underlying28 hi1 g n cap cur hg ⟨q, 0, none⟩ m c (ints L2) (by rw [hl2, hz1, Nat.mul_one]) hnews h1 hroom (by rw [hz1, Nat.mul_one, hl2, hcs]; exact hroom)
      rw [hz1, Nat.mul_one, hl2] at hr
      have hb2 : Bk (W.setRow g (cur.toList.take n ++ ints L2 ++ cur.toList.drop (n + m)).toArray) g 3 (cur.toList.take n ++ ints L2 ++ cur.toList.drop (n + m)) := setRow_heap W g cur _ _ _ hg
      have hcl : cur.toList.length = cap := by rw [Array.length_toList, hcs]
      have hll : (cur.toList.take n ++ ints L2 ++ cur.toList.drop (n + m)).length = cap := by
        rw [List.length_append, List.length_append, List.length_take, List.length_drop, hl2, hcl]; omega
      refine ⟨_, _, hr, ⟨L ++ L2, by rw [List.length_append, hL, hm], ⟨by rw [ints_append, hcells, Nat.mul_one], .inr ⟨g, cap, _, rfl, Nat.zero_le _, hb2, hroom, hcm, by rw [List.size_toArray, hll, Nat.mul_one], ?_⟩⟩, hzo⟩, ⟨⟨rfl, rfl, rfl, by simp, fun k hk hn => setRow_other W g k _ fun e => hn ?_⟩, fun g' cs' hb' => ?_⟩⟩
      · rw [Nat.mul_one, htake, ints_append, ← hcells]
        exact List.take_left
      · subst e
        exact ⟨hzo k rfl, _, hbk⟩
      · by_cases e : g' = g
        · subst e
          have hcc : cs' = cur.toList := bk_same hb' hbk
          subst hcc
          refine ⟨_, hb2, by rw [hll, hcl], fun j y hy => ?_⟩
          have hj : j < cap := by have := (List.getElem?_eq_some_iff.1 hy).1; omega
          rcases Nat.lt_or_ge j n with h4 | h4
          · rw [List.append_assoc, List.getElem?_append_left (by rw [List.length_take]; omega), List.getElem?_take, if_pos h4]
            exact ⟨y, hy⟩
          · rcases Nat.lt_or_ge j (n + m) with h5 | h5
            · rw [List.append_assoc, List.getElem?_append_right (by rw [List.length_take]; omega), List.length_take, hcl, Nat.min_eq_left (by omega), List.getElem?_append_left (by rw [hl2]; omega), ints_get, List.getElem?_eq_getElem (by omega)]
              exact ⟨_, rfl⟩
            · rw [List.getElem?_append_right (by rw [List.length_append, List.length_take, hl2]; omega), List.length_append, List.length_take, hl2, hcl, Nat.min_eq_left (by omega), List.getElem?_drop, show n + m + (j - (n + m)) = j by omega]
              exact ⟨y, hy⟩
        · refine ⟨cs', ?_, rfl, fun _ y hy => ⟨y, hy⟩⟩
          unfold Bk
          rw [setRow_other W g g' _ e]
          exact hb'
    · have holds : ∀ j u, (ints L)[j]? = some u → W.cell? ((⟨g, 0, none⟩ : Addr).add j) = some u := ho.cells (g := g) rfl
      have hr := run_append_grow (P := Try.prog) W 28 ty 3 i0 _ Try.underlying28 hi1 hzz ⟨g, 0, none⟩ n cap (ints L) (by rw [ints_length, hL, hz1, Nat.mul_one]) holds ⟨q, 0, none⟩ m c (ints L2) (by rw [hl2, hz1, Nat.mul_one]) hnews (by omega) (by omega) (growslice_fits (by omega) (by rw [hz2]; omega))
      refine ⟨_, _, hr, ⟨L ++ L2, by rw [List.length_append, hL, hm], grown cap, fun g' e => ?_⟩, .of_no ((Kp.refl No W).drew.alloc _)⟩
      have : W.heap.size = g' := by simpa [Value.ownBlock] using e
      exact hz g' (by omega)
end Go.Proofs.Ytifdceofglocdaa
