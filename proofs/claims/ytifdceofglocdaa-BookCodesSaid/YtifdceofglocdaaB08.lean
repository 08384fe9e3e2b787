/- Several texts of this claim in one. No condition beyond what each theorem states. -/
import Derived.Test.YtifdceofglocdaaB06
import Derived.StillTailTactics
import Derived.Deep.RegionHeld3
/- Are two grants one: sameGrant, and the document's SameGrant, by contract. No condition beyond what each theorem states. -/
namespace Go.Proofs.Ytifdceofglocdaa
open Go Go.RowKit Go.PlainAid

set_option maxRecDepth 100000 in
set_option maxHeartbeats 4000000 in
theorem sameG_any (a b : GP) (W : World) (ha : ArgInts W a.2 a.1.stamp) (hb : ArgInts W b.2 b.1.stamp) (la : a.1.stamp.length ≤ maxLen) (lb : b.1.stamp.length ≤ maxLen) :
    Calls Try.prog 52 #[.agg (pC a).toArray, .agg (pC b).toArray] W fun e w' => e = .returned (.bool (decide (a.1 = b.1))) ∧ Kp No W w' := by
  obtain ⟨⟨gid, hol, path, mode, st, term⟩, sv⟩ := a
  obtain ⟨⟨gid2, hol2, path2, mode2, st2, term2⟩, sv2⟩ := b
  obtain ⟨A1, c1, rfl, _⟩ : ∃ A c, sv = .slice A st.length c ∧ st.length ≤ c := by obtain ⟨A, c, e, hc, _⟩ := ha; exact ⟨A, c, e, hc⟩
  obtain ⟨A2, c2, rfl, _⟩ : ∃ A c, sv2 = .slice A st2.length c ∧ st2.length ≤ c := by obtain ⟨A, c, e, hc, _⟩ := hb; exact ⟨A, c, e, hc⟩
  have ps := fun W2 (k : Kp No W W2) => eqI_any _ _ st st2 W2 (ha.no k) (hb.no k) la lb
  clear ha hb la lb
  have HM := Lib.hid (show ((⟨gid, hol, path, mode, st, term⟩ : Grt) = ⟨gid2, hol2, path2, mode2, st2, term2⟩) ↔ gid = gid2 ∧ hol = hol2 ∧ path = path2 ∧ mode = mode2 ∧ term = term2 ∧ st = st2 by
    constructor
    · intro h; injection h with h1 h2 h3 h4 h5 h6; exact ⟨h1, h2, h3, h4, h6, h5⟩
    · rintro ⟨h1, h2, h3, h4, h6, h5⟩; subst h1 h2 h3 h4 h5 h6; rfl)
  obtain ⟨R, hR⟩ : ∃ R, R = decide ((⟨gid, hol, path, mode, st, term⟩ : Grt) = ⟨gid2, hol2, path2, mode2, st2, term2⟩) := ⟨_, rfl⟩
  show Calls _ _ _ _ fun e w' => e = .returned (.bool (decide ((⟨gid, hol, path, mode, st, term⟩ : Grt) = ⟨gid2, hol2, path2, mode2, st2, term2⟩))) ∧ Kp No W w'
  rw [← hR]
  have HR := Lib.hid hR; clear hR
  have kA : Kp No W ((W.alloc (.cells (pC (⟨gid, hol, path, mode, st, term⟩, .slice A1 st.length c1)).toArray 30)).alloc (.cells (pC (⟨gid2, hol2, path2, mode2, st2, term2⟩, .slice A2 st2.length c2)).toArray 30)) := ((Kp.refl No W).alloc _).alloc _
  simp only [pC] at kA ⊢
  go_enter Try.func52, Try.ntmps52
  go_wp2_with fail
  refine (ps _ (by simpa [pC] using kA)).mono ?_
  rintro e w1 ⟨rfl, k1⟩
  have B1 : Bk w1 W.heap.size 30 (pC (⟨gid, hol, path, mode, st, term⟩, .slice A1 st.length c1)) := ((Bk.new' rfl rfl : Bk _ _ _ (pC (⟨gid, hol, path, mode, st, term⟩, .slice A1 st.length c1))).alloc _).no k1
  have B2 : Bk w1 (W.heap.size + 1) 30 (pC (⟨gid2, hol2, path2, mode2, st2, term2⟩, .slice A2 st2.length c2)) := (Bk.new' (by simp) rfl : Bk _ _ _ (pC (⟨gid2, hol2, path2, mode2, st2, term2⟩, .slice A2 st2.length c2))).no k1
  have z0 : w1.cell? ⟨W.heap.size, 0, none⟩ = some (.int .i64 gid) := B1.cell 0
  have u0 : w1.cell? ⟨W.heap.size + 1, 0, none⟩ = some (.int .i64 gid2) := B2.cell 0
  have z1 : w1.cell? ⟨W.heap.size, 1, none⟩ = some (.int .i64 hol) := B1.cell 1
  have u1 : w1.cell? ⟨W.heap.size + 1, 1, none⟩ = some (.int .i64 hol2) := B2.cell 1
  have z2 : w1.cell? ⟨W.heap.size, 2, none⟩ = some (.string ⟨path.toArray⟩) := B1.cell 2
  have u2 : w1.cell? ⟨W.heap.size + 1, 2, none⟩ = some (.string ⟨path2.toArray⟩) := B2.cell 2
  have z3 : w1.cell? ⟨W.heap.size, 3, none⟩ = some (.int .i64 mode) := B1.cell 3
  have u3 : w1.cell? ⟨W.heap.size + 1, 3, none⟩ = some (.int .i64 mode2) := B2.cell 3
  have z5 : w1.cell? ⟨W.heap.size, 5, none⟩ = some (.int .i64 term) := B1.cell 5
  have u5 : w1.cell? ⟨W.heap.size + 1, 5, none⟩ = some (.int .i64 term2) := B2.cell 5
  have K := Lib.hid ((((Kp.refl No W).alloc _).alloc _).trans k1)
  clear B1 B2 k1 ps kA
  by_cases hst : st = st2
  · have HS := Lib.hid hst
    have ds : decide (st = st2) = true := by simpa using hst
    rw [ds]; clear ds hst
    by_cases b0 : gid = gid2
    · subst b0
      by_cases b1 : hol = hol2
      · subst b1
        by_cases b2 : path = path2
        · subst b2
          by_cases b3 : mode = mode2
          · subst b3
            by_cases b4 : term = term2
            · subst b4
              have HX := Lib.hid (show R = true by rw [HR.out, decide_eq_true_iff, HM.out]; exact ⟨rfl, rfl, rfl, rfl, rfl, HS.out⟩)
              go_wp2
              go_ret
              exact ⟨ret_bool rfl (by rw [HX.out]), K.out⟩
            · have d : (term == term2) = false := by rw [beq_eq_false_iff_ne]; exact b4
              have HX := Lib.hid (show R = false by rw [HR.out, decide_eq_false_iff_not, HM.out]; rintro ⟨q0, q1, q2, q3, q4, q5⟩; exact b4 q4)
              clear b4
              go_wp2
              go_ret
              exact ⟨ret_bool rfl (by rw [HX.out]), K.out⟩
          · have d : (mode == mode2) = false := by rw [beq_eq_false_iff_ne]; exact b3
            have HX := Lib.hid (show R = false by rw [HR.out, decide_eq_false_iff_not, HM.out]; rintro ⟨q0, q1, q2, q3, q4, q5⟩; exact b3 q3)
            clear b3
            go_wp2
            go_ret
            exact ⟨ret_bool rfl (by rw [HX.out]), K.out⟩
        · have d : ((⟨path.toArray⟩ : ByteArray).toList == (⟨path2.toArray⟩ : ByteArray).toList) = false := by rw [beq_eq_false_iff_ne, ByteArray.toList_eq, ByteArray.toList_eq]; simpa using b2
          have d2 : (path == path2) = false := by rw [beq_eq_false_iff_ne]; exact b2
          have d3 : decide (path = path2) = false := decide_eq_false b2
          have HX := Lib.hid (show R = false by rw [HR.out, decide_eq_false_iff_not, HM.out]; rintro ⟨q0, q1, q2, q3, q4, q5⟩; exact b2 q2)
          go_wp2
          all_goals first
            | exact absurd (by assumption) b2
            | (go_ret; exact ⟨ret_bool rfl (by rw [HX.out]), K.out⟩)
      · have d : (hol == hol2) = false := by rw [beq_eq_false_iff_ne]; exact b1
        have HX := Lib.hid (show R = false by rw [HR.out, decide_eq_false_iff_not, HM.out]; rintro ⟨q0, q1, q2, q3, q4, q5⟩; exact b1 q1)
        clear b1
        go_wp2
        go_ret
        exact ⟨ret_bool rfl (by rw [HX.out]), K.out⟩
    · have d : (gid == gid2) = false := by rw [beq_eq_false_iff_ne]; exact b0
      have HX := Lib.hid (show R = false by rw [HR.out, decide_eq_false_iff_not, HM.out]; rintro ⟨q0, q1, q2, q3, q4, q5⟩; exact b0 q0)
      clear b0
      go_wp2
      go_ret
      exact ⟨ret_bool rfl (by rw [HX.out]), K.out⟩
  · have HX := Lib.hid (show R = false by rw [HR.out, decide_eq_false_iff_not, HM.out]; rintro ⟨q0, q1, q2, q3, q4, q5⟩; exact hst q5)
    have ds : decide (st = st2) = false := by simpa using hst
    rw [ds]; clear ds hst
    go_wp2
    go_ret
    exact ⟨ret_bool rfl (by rw [HX.out]), K.out⟩
set_option maxRecDepth 100000 in
set_option maxHeartbeats 4000000 in
theorem rsameG_any (a b : GP) (W : World) (ha : ArgInts W a.2 a.1.stamp) (hb : ArgInts W b.2 b.1.stamp) (la : a.1.stamp.length ≤ maxLen) (lb : b.1.stamp.length ≤ maxLen) :
    Calls Try.prog 43 #[.agg (pC a).toArray, .agg (pC b).toArray] W fun e w' => e = .returned (.bool (decide (a.1 = b.1))) ∧ Kp No W w' := by
  obtain ⟨⟨gid, hol, path, mode, st, term⟩, sv⟩ := a
  obtain ⟨⟨gid2, hol2, path2, mode2, st2, term2⟩, sv2⟩ := b
  obtain ⟨A1, c1, rfl, _⟩ : ∃ A c, sv = .slice A st.length c ∧ st.length ≤ c := by obtain ⟨A, c, e, hc, _⟩ := ha; exact ⟨A, c, e, hc⟩
  obtain ⟨A2, c2, rfl, _⟩ : ∃ A c, sv2 = .slice A st2.length c ∧ st2.length ≤ c := by obtain ⟨A, c, e, hc, _⟩ := hb; exact ⟨A, c, e, hc⟩
  have ps := fun W2 (k : Kp No W W2) => sameInts_any _ _ st st2 W2 (ha.no k) (hb.no k) la lb
  clear ha hb la lb
  have HM := Lib.hid (show ((⟨gid, hol, path, mode, st, term⟩ : Grt) = ⟨gid2, hol2, path2, mode2, st2, term2⟩) ↔ gid = gid2 ∧ hol = hol2 ∧ path = path2 ∧ mode = mode2 ∧ term = term2 ∧ st = st2 by
    constructor
    · intro h; injection h with h1 h2 h3 h4 h5 h6; exact ⟨h1, h2, h3, h4, h6, h5⟩
    · rintro ⟨h1, h2, h3, h4, h6, h5⟩; subst h1 h2 h3 h4 h5 h6; rfl)
  obtain ⟨R, hR⟩ : ∃ R, R = decide ((⟨gid, hol, path, mode, st, term⟩ : Grt) = ⟨gid2, hol2, path2, mode2, st2, term2⟩) := ⟨_, rfl⟩
  show Calls _ _ _ _ fun e w' => e = .returned (.bool (decide ((⟨gid, hol, path, mode, st, term⟩ : Grt) = ⟨gid2, hol2, path2, mode2, st2, term2⟩))) ∧ Kp No W w'
  rw [← hR]
  have HR := Lib.hid hR; clear hR
  have kA : Kp No W ((W.alloc (.cells (pC (⟨gid, hol, path, mode, st, term⟩, .slice A1 st.length c1)).toArray 30)).alloc (.cells (pC (⟨gid2, hol2, path2, mode2, st2, term2⟩, .slice A2 st2.length c2)).toArray 30)) := ((Kp.refl No W).alloc _).alloc _
  simp only [pC] at kA ⊢
  by_cases b0 : gid = gid2
  · subst b0
    by_cases b1 : hol = hol2
    · subst b1
      by_cases b2 : path = path2
      · subst b2
        by_cases b3 : mode = mode2
        · subst b3
          by_cases b4 : term = term2
          · subst b4
            have HX := Lib.hid (show R = decide (st = st2) by
              rw [HR.out, decide_eq_decide, HM.out]
              exact ⟨fun ⟨_, _, _, _, _, h⟩ => h, fun h => ⟨rfl, rfl, rfl, rfl, rfl, h⟩⟩)
            go_enter Try.func43, Try.ntmps43
            go_wp2_with (refine (ps _ (by simpa [pC] using kA)).mono ?_; rintro e w1 ⟨rfl, k1⟩)
            go_ret
            exact ⟨ret_bool rfl (by rw [HX.out]), kA.trans k1⟩
          · have d : (term == term2) = false := by rw [beq_eq_false_iff_ne]; exact b4
            have HX := Lib.hid (show R = false by rw [HR.out, decide_eq_false_iff_not, HM.out]; rintro ⟨q0, q1, q2, q3, q4, q5⟩; exact b4 q4)
            clear b4
            go_enter Try.func43, Try.ntmps43
            go_wp2
            go_ret
            exact ⟨ret_bool rfl (by rw [HX.out]), kA⟩
        · have d : (mode == mode2) = false := by rw [beq_eq_false_iff_ne]; exact b3
          have HX := Lib.hid (show R = false by rw [HR.out, decide_eq_false_iff_not, HM.out]; rintro ⟨q0, q1, q2, q3, q4, q5⟩; exact b3 q3)
          clear b3
          go_enter Try.func43, Try.ntmps43
          go_wp2
          go_ret
          exact ⟨ret_bool rfl (by rw [HX.out]), kA⟩
      · have d : ((⟨path.toArray⟩ : ByteArray).toList == (⟨path2.toArray⟩ : ByteArray).toList) = false := by rw [beq_eq_false_iff_ne, ByteArray.toList_eq, ByteArray.toList_eq]; simpa using b2
        have d2 : (path == path2) = false := by rw [beq_eq_false_iff_ne]; exact b2
        have d3 : decide (path = path2) = false := decide_eq_false b2
        have HX := Lib.hid (show R = false by rw [HR.out, decide_eq_false_iff_not, HM.out]; rintro ⟨q0, q1, q2, q3, q4, q5⟩; exact b2 q2)
        go_enter Try.func43, Try.ntmps43
        go_wp2
        all_goals first
          | exact absurd (by assumption) b2
          | (go_ret; exact ⟨ret_bool rfl (by rw [HX.out]), kA⟩)
    · have d : (hol == hol2) = false := by rw [beq_eq_false_iff_ne]; exact b1
      have HX := Lib.hid (show R = false by rw [HR.out, decide_eq_false_iff_not, HM.out]; rintro ⟨q0, q1, q2, q3, q4, q5⟩; exact b1 q1)
      clear b1
      go_enter Try.func43, Try.ntmps43
      go_wp2
      go_ret
      exact ⟨ret_bool rfl (by rw [HX.out]), kA⟩
  · have d : (gid == gid2) = false := by rw [beq_eq_false_iff_ne]; exact b0
    have HX := Lib.hid (show R = false by rw [HR.out, decide_eq_false_iff_not, HM.out]; rintro ⟨q0, q1, q2, q3, q4, q5⟩; exact b0 q0)
    clear b0
    go_enter Try.func43, Try.ntmps43
    go_wp2
    go_ret
    exact ⟨ret_bool rfl (by rw [HX.out]), kA⟩
end Go.Proofs.Ytifdceofglocdaa

/- Are two lists of grants one: slices.EqualFunc with sameGrant, by contract. No condition beyond what each theorem states. -/
namespace Go.Proofs.Ytifdceofglocdaa
open Go Go.RowKit Go.PlainAid

/-- all texts and stamps of a list are no longer than n -/
def ShL (n : Nat) (l : List GP) : Prop := l.length ≤ n ∧ ∀ p ∈ l, ShG n p.1
theorem gsL_get {l : List GP} {k : Nat} (h : k < l.length) : (gsL l)[k]'(by rw [gsL_len]; exact h) = l[k].1 := by simp [gsL]
theorem gsL_take (l : List GP) (k : Nat) : (gsL l).take k = gsL (l.take k) := by simp [gsL, List.map_take]
theorem gsL_snoc {l : List GP} {k : Nat} (h : k < l.length) : gsL (l.take (k + 1)) = gsL (l.take k) ++ [l[k].1] := by
  unfold gsL
  rw [List.take_succ_eq_append_getElem h, List.map_append]; rfl
theorem ArgG.len {w : World} {v : Value} {l : List GP} (h : ArgG w v l) : ∃ A c, v = .slice A l.length c ∧ l.length ≤ c := by
  obtain ⟨A, c, e, hc, _⟩ := h
  exact ⟨A, c, e, hc⟩
/-- the i-th grant's cells, written out -/
theorem ArgG.cells {w : World} {A : Option Addr} {c : Nat} {l : List GP} (h : ArgG w (.slice A l.length c) l) {k : Nat} (hk : k < l.length) :
    ∃ g o id hol path mode st term B d, A = some ⟨g, o, none⟩ ∧ l[k] = (⟨id, hol, path, mode, st, term⟩, .slice B st.length d) ∧ ArgInts w (.slice B st.length d) st ∧ l[k] ∈ l ∧
      w.cell? ⟨g, o + k * 6, none⟩ = some (.int .i64 id) ∧ w.cell? ⟨g, o + k * 6 + 1, none⟩ = some (.int .i64 hol) ∧ w.cell? ⟨g, o + k * 6 + 2, none⟩ = some (.string ⟨path.toArray⟩) ∧ w.cell? ⟨g, o + k * 6 + 3, none⟩ = some (.int .i64 mode) ∧
      w.cell? ⟨g, o + k * 6 + 4, none⟩ = some (.slice B st.length d) ∧ w.cell? ⟨g, o + k * 6 + 5, none⟩ = some (.int .i64 term) := by
  obtain ⟨g, o, c', e, hr, ha⟩ := h.at_ hk
  injection e with e _ _
  have hm := List.getElem_mem hk
  generalize l[k] = p at *
  obtain ⟨⟨id, hol, path, mode, st, term⟩, sv⟩ := p
  have ha0 : ArgInts w sv st := ha
  obtain ⟨B, d, e2, _⟩ := ha
  have e2 : sv = .slice B st.length d := e2
  subst e2
  exact ⟨g, o, id, hol, path, mode, st, term, B, d, e, rfl, ha0, hm, hr 0 _ rfl, hr 1 _ rfl, hr 2 _ rfl, hr 3 _ rfl, hr 4 _ rfl, hr 5 _ rfl⟩

set_option maxRecDepth 100000 in
set_option maxHeartbeats 4000000 in
theorem eqFunc_any (v u : Value) (l m : List GP) (W : World) (hv : ArgG W v l) (hu : ArgG W u m) (hl : ShL maxLen l) (hm : ShL maxLen m) :
    Calls Try.prog 51 #[v, u, .func (.func 52) #[] #[]] W fun e w' => e = .returned (.bool (decide (gsL l = gsL m))) ∧ Kp No W w' := by
  have HL := Lib.hid hl.2; have HM := Lib.hid hm.2
  have hl1 := hl.1; have hm1 := hm.1
  unfold maxLen at hl1 hm1
  clear hl hm
  obtain ⟨A1, c1, rfl, _⟩ := hv.len
  obtain ⟨A2, c2, rfl, _⟩ := hu.len
  have HV := Lib.hid hv; have HU := Lib.hid hu
  clear hv hu
  by_cases hlen : l.length = m.length
  · have HLen := Lib.hid hlen
    have hne : ((l.length : Int) != (m.length : Int)) = false := by simp [hlen]
    go_enter Try.func51, Try.ntmps51
    clear hlen
    go_wp2
    clear hne
    go_loopw [17] (fun i wr => ∃ k : Nat, k ≤ l.length ∧ i = .int .i64 k ∧ Kp No W wr ∧ gsL (l.take k) = gsL (m.take k)) (fun i _ => l.length - (intOf i).toNat)
    case atStart => exact ⟨0, Nat.zero_le _, rfl, Kp.refl _ _, by simp⟩
    case round =>
      obtain ⟨k, hk, rfl, hK, hT⟩ := hrel
      have HK := Lib.hid hK; have HT := Lib.hid hT; clear hK hT
      by_cases hlt : k < l.length
      · have hk0 : (0 : Int) ≤ (k : Int) := by omega
        have hk1 : (k : Int) < (l.length : Int) := by omega
        have hlt2 : k < m.length := by have := HLen.out; omega
        have hk2 : (k : Int) < (m.length : Int) := by omega
        obtain ⟨g, o, id, hol, path, mode, st, term, B, d, rfl, el, ha, hml, x0, x1, x2, x3, x4, x5⟩ := (HV.out.no HK.out).cells hlt
        have kB : Kp No W (wr.alloc (.cells (pC (⟨id, hol, path, mode, st, term⟩, .slice B st.length d)).toArray 30)) := HK.out.alloc _
        obtain ⟨g2, o2, id2, hol2, path2, mode2, st2, term2, B2, d2, rfl, em, ha2', hmm, y0, y1, y2, y3, y4, y5⟩ := (HU.out.no kB).cells hlt2
        have kB2 : Kp No wr (wr.alloc (.cells (pC (⟨id, hol, path, mode, st, term⟩, .slice B st.length d)).toArray 30)) := (Kp.refl No wr).alloc _
        simp only [pC] at y0 y1 y2 y3 y4 y5
        have HS1 := Lib.hid (gsL_snoc hlt); have HS2 := Lib.hid (gsL_snoc hlt2)
        have HNE := Lib.hid (show l[k].1 ≠ m[k].1 → gsL l ≠ gsL m from fun h e => h (by rw [← gsL_get hlt, ← gsL_get hlt2]; simp [e]))
        have h1 := HL.out _ hml; have h2 := HM.out _ hmm
        rw [el] at HS1 HNE h1
        rw [em] at HS2 HNE h2
        have pq := fun W2 (kk : Kp No (wr.alloc (.cells (pC (⟨id, hol, path, mode, st, term⟩, .slice B st.length d)).toArray 30)) W2) => sameG_any (⟨id, hol, path, mode, st, term⟩, .slice B st.length d) (⟨id2, hol2, path2, mode2, st2, term2⟩, .slice B2 st2.length d2) W2 (ha.no (kB2.trans kk)) (ha2'.no kk) h1.2 h2.2
        have kA : Kp No (wr.alloc (.cells (pC (⟨id, hol, path, mode, st, term⟩, .slice B st.length d)).toArray 30)) ((wr.alloc (.cells (pC (⟨id, hol, path, mode, st, term⟩, .slice B st.length d)).toArray 30)).alloc (.cells (pC (⟨id2, hol2, path2, mode2, st2, term2⟩, .slice B2 st2.length d2)).toArray 30)) := (Kp.refl No _).alloc _
        simp only [pC] at pq kA
        have KB := Lib.hid (kB.trans kA)
        clear ha ha2' h1 h2 hml hmm el em hlt hlt2 kB kB2
        by_cases heq : (⟨id, hol, path, mode, st, term⟩ : Grt) = ⟨id2, hol2, path2, mode2, st2, term2⟩
        · rw [decide_eq_true heq] at pq
          have HE := Lib.hid heq; clear heq
          go_wp2_with fail
          refine (pq _ kA).mono ?_
          rintro e w1 ⟨rfl, k1⟩
          have HK1 := Lib.hid (KB.out.trans k1)
          clear k1 pq kA
          go_wp2
          go_roundw
          case rel => exact ⟨k + 1, by omega, by go_num, HK1.out, by rw [HS1.out, HS2.out, HT.out, HE.out]⟩
          case measure => simp [intOf]; omega
        · rw [decide_eq_false heq] at pq
          have HE := Lib.hid heq; clear heq
          go_wp2_with fail
          refine (pq _ kA).mono ?_
          rintro e w1 ⟨rfl, k1⟩
          have HK1 := Lib.hid (KB.out.trans k1)
          clear k1 pq kA
          go_wp2
          go_ret
          exact ⟨ret_bool rfl (by rw [decide_eq_false (HNE.out HE.out)]), HK1.out⟩
      · have hk1 : ¬ (k : Int) < (l.length : Int) := by omega
        have HE := Lib.hid (show decide (gsL l = gsL m) = true by
          rw [decide_eq_true_iff]
          have h1 := HT.out
          rwa [List.take_of_length_le (by omega), List.take_of_length_le (by have := HLen.out; omega)] at h1)
        clear hlt
        go_wp2
        go_ret
        exact ⟨ret_bool rfl HE.out.symm, HK.out⟩
  · have hne : ((l.length : Int) != (m.length : Int)) = true := by rw [bne_iff_ne]; omega
    have HE := Lib.hid (show decide (gsL l = gsL m) = false by rw [decide_eq_false_iff_not]; intro e; apply hlen; rw [← gsL_len, e, gsL_len])
    clear hlen
    go_enter Try.func51, Try.ntmps51
    go_wp2
    go_ret
    exact ⟨ret_bool rfl HE.out.symm, Kp.refl _ _⟩
end Go.Proofs.Ytifdceofglocdaa

/- Are two books one: book.Same, and the document's Same, by contract. No condition beyond what each theorem states. -/
namespace Go.Proofs.Ytifdceofglocdaa
open Go Go.RowKit Go.PlainAid

/-- a book of these numbers and grants -/
def bk (n k t : Int) (l : List GP) : Bok := ⟨n, k, t, gsL l⟩
theorem bk_eq {n k t n2 k2 t2 : Int} {l m : List GP} : bk n k t l = bk n2 k2 t2 m ↔ n = n2 ∧ k = k2 ∧ t = t2 ∧ gsL l = gsL m := by
  unfold bk
  constructor
  · intro h; injection h with h1 h2 h3 h4; exact ⟨h1, h2, h3, h4⟩
  · rintro ⟨h1, h2, h3, h4⟩; rw [h1, h2, h3, h4]
set_option maxRecDepth 100000 in
set_option maxHeartbeats 4000000 in
theorem sameB_any (n k t n2 k2 t2 : Int) (v u : Value) (l m : List GP) (W : World) (hv : ArgG W v l) (hu : ArgG W u m) (hl : ShL maxLen l) (hm : ShL maxLen m) :
    Calls Try.prog 19 #[.agg #[.int .i64 n, .int .i64 k, .int .i64 t, v], .agg #[.int .i64 n2, .int .i64 k2, .int .i64 t2, u]] W fun e w' => e = .returned (.bool (decide (bk n k t l = bk n2 k2 t2 m))) ∧ Kp No W w' := by
  have HV := Lib.hid hv; have HU := Lib.hid hu
  obtain ⟨A1, c1, rfl, _⟩ := hv.len
  obtain ⟨A2, c2, rfl, _⟩ := hu.len
  have kA : Kp No W ((W.alloc (.cells #[.int .i64 n, .int .i64 k, .int .i64 t, .slice A1 l.length c1] 25)).alloc (.cells #[.int .i64 n2, .int .i64 k2, .int .i64 t2, .slice A2 m.length c2] 25)) := ((Kp.refl No W).alloc _).alloc _
  have ps := fun W2 (kk : Kp No W W2) => eqFunc_any _ _ l m W2 (hv.no kk) (hu.no kk) hl hm
  clear hv hu hl hm
  obtain ⟨R, hR⟩ : ∃ R, R = decide (bk n k t l = bk n2 k2 t2 m) := ⟨_, rfl⟩
  rw [← hR]
  have HR := Lib.hid hR; clear hR
  by_cases b0 : n = n2
  · subst b0
    by_cases b1 : k = k2
    · subst b1
      by_cases b2 : t = t2
      · subst b2
        have HX := Lib.hid (show R = decide (gsL l = gsL m) by
          rw [HR.out, decide_eq_decide, bk_eq]
          exact ⟨fun ⟨_, _, _, h⟩ => h, fun h => ⟨rfl, rfl, rfl, h⟩⟩)
        go_enter Try.func19, Try.ntmps19
        go_wp2_with (refine (ps _ kA).mono ?_; rintro e w1 ⟨rfl, k1⟩)
        go_ret
        exact ⟨ret_bool rfl (by rw [HX.out]), kA.trans k1⟩
      · have d : (t == t2) = false := by rw [beq_eq_false_iff_ne]; exact b2
        have HX := Lib.hid (show R = false by rw [HR.out, decide_eq_false_iff_not, bk_eq]; rintro ⟨q0, q1, q2, q3⟩; exact b2 q2)
        clear b2
        go_enter Try.func19, Try.ntmps19
        go_wp2
        go_ret
        exact ⟨ret_bool rfl (by rw [HX.out]), kA⟩
    · have d : (k == k2) = false := by rw [beq_eq_false_iff_ne]; exact b1
      have HX := Lib.hid (show R = false by rw [HR.out, decide_eq_false_iff_not, bk_eq]; rintro ⟨q0, q1, q2, q3⟩; exact b1 q1)
      clear b1
      go_enter Try.func19, Try.ntmps19
      go_wp2
      go_ret
      exact ⟨ret_bool rfl (by rw [HX.out]), kA⟩
  · have d : (n == n2) = false := by rw [beq_eq_false_iff_ne]; exact b0
    have HX := Lib.hid (show R = false by rw [HR.out, decide_eq_false_iff_not, bk_eq]; rintro ⟨q0, q1, q2, q3⟩; exact b0 q0)
    clear b0
    go_enter Try.func19, Try.ntmps19
    go_wp2
    go_ret
    exact ⟨ret_bool rfl (by rw [HX.out]), kA⟩
set_option maxRecDepth 100000 in
set_option maxHeartbeats 4000000 in
theorem rsameB_any (n k t n2 k2 t2 : Int) (v u : Value) (l m : List GP) (W : World) (hv : ArgG W v l) (hu : ArgG W u m) (hl : ShL maxLen l) (hm : ShL maxLen m) :
    Calls Try.prog 16 #[.agg #[.int .i64 n, .int .i64 k, .int .i64 t, v], .agg #[.int .i64 n2, .int .i64 k2, .int .i64 t2, u]] W fun e w' => e = .returned (.bool (decide (bk n k t l = bk n2 k2 t2 m))) ∧ Kp No W w' := by
  have HV := Lib.hid hv; have HU := Lib.hid hu
  obtain ⟨A1, c1, rfl, _⟩ := hv.len
  obtain ⟨A2, c2, rfl, _⟩ := hu.len
  have kA : Kp No W ((W.alloc (.cells #[.int .i64 n, .int .i64 k, .int .i64 t, .slice A1 l.length c1] 25)).alloc (.cells #[.int .i64 n2, .int .i64 k2, .int .i64 t2, .slice A2 m.length c2] 25)) := ((Kp.refl No W).alloc _).alloc _
  have HL := Lib.hid hl.2; have HM := Lib.hid hm.2
  have hl1 := hl.1; have hm1 := hm.1
  unfold maxLen at hl1 hm1
  clear hv hu hl hm
  obtain ⟨R, hR⟩ : ∃ R, R = decide (bk n k t l = bk n2 k2 t2 m) := ⟨_, rfl⟩
  rw [← hR]
  have HR := Lib.hid hR; clear hR
  by_cases b0 : n = n2
  · subst b0
    by_cases b1 : k = k2
    · subst b1
      by_cases b2 : t = t2
      · subst b2
        have HX := Lib.hid (show R = decide (gsL l = gsL m) by
          rw [HR.out, decide_eq_decide, bk_eq]
          exact ⟨fun ⟨_, _, _, h⟩ => h, fun h => ⟨rfl, rfl, rfl, h⟩⟩)
        by_cases hlen : l.length = m.length
        · have HLen := Lib.hid hlen
          have hne : ((l.length : Int) != (m.length : Int)) = false := by simp [hlen]
          have HB1 := Lib.hid (show Bk ((W.alloc (.cells #[.int .i64 n, .int .i64 k, .int .i64 t, .slice A1 l.length c1] 25)).alloc (.cells #[.int .i64 n, .int .i64 k, .int .i64 t, .slice A2 m.length c2] 25)) W.heap.size 25 [.int .i64 n, .int .i64 k, .int .i64 t, .slice A1 l.length c1] from (Bk.new' rfl rfl).alloc _)
          have HB2 := Lib.hid (show Bk ((W.alloc (.cells #[.int .i64 n, .int .i64 k, .int .i64 t, .slice A1 l.length c1] 25)).alloc (.cells #[.int .i64 n, .int .i64 k, .int .i64 t, .slice A2 m.length c2] 25)) (W.heap.size + 1) 25 [.int .i64 n, .int .i64 k, .int .i64 t, .slice A2 m.length c2] from Bk.new' (by simp) rfl)
          have HK0 := Lib.hid kA; clear kA
          go_enter Try.func16, Try.ntmps16
          clear hlen
          go_wp2
          clear hne
          generalize ((W.alloc (.cells #[.int .i64 n, .int .i64 k, .int .i64 t, .slice A1 l.length c1] 25)).alloc (.cells #[.int .i64 n, .int .i64 k, .int .i64 t, .slice A2 m.length c2] 25)) = w0 at *
          go_loopw [5] (fun i wr => ∃ j : Nat, j ≤ l.length ∧ i = .int .i64 j ∧ Kp No w0 wr ∧ gsL (l.take j) = gsL (m.take j)) (fun i _ => l.length - (intOf i).toNat)
          case atStart => exact ⟨0, Nat.zero_le _, rfl, Kp.refl _ _, by simp⟩
          case round =>
            obtain ⟨j, hj, rfl, hK, hT⟩ := hrel
            have HK := Lib.hid hK; have HT := Lib.hid hT; clear hK hT
            have a3 : wr.cell? ⟨W.heap.size, 3, none⟩ = some (.slice A1 l.length c1) := (HB1.out.no HK.out).cell 3
            have b3 : wr.cell? ⟨W.heap.size + 1, 3, none⟩ = some (.slice A2 m.length c2) := (HB2.out.no HK.out).cell 3
            by_cases hlt : j < l.length
            · have hk0 : (0 : Int) ≤ (j : Int) := by omega
              have hk1 : (j : Int) < (l.length : Int) := by omega
              have hlt2 : j < m.length := by have := HLen.out; omega
              have hk2 : (j : Int) < (m.length : Int) := by omega
              have kW : Kp No W wr := HK0.out.trans HK.out
              obtain ⟨g, o, id, hol, path, mode, st, term, B, d, rfl, el, ha, hml, x0, x1, x2, x3, x4, x5⟩ := (HV.out.no kW).cells hlt
              obtain ⟨g2, o2, id2, hol2, path2, mode2, st2, term2, B2, d2, rfl, em, ha2, hmm, y0, y1, y2, y3, y4, y5⟩ := (HU.out.no kW).cells hlt2
              have HS1 := Lib.hid (gsL_snoc hlt); have HS2 := Lib.hid (gsL_snoc hlt2)
              have HNE := Lib.hid (show l[j].1 ≠ m[j].1 → gsL l ≠ gsL m from fun h e => h (by rw [← gsL_get hlt, ← gsL_get hlt2]; simp [e]))
              have h1 := HL.out _ hml; have h2 := HM.out _ hmm
              rw [el] at HS1 HNE h1
              rw [em] at HS2 HNE h2
              have pq := fun W2 (kk : Kp No wr W2) => rsameG_any (⟨id, hol, path, mode, st, term⟩, .slice B st.length d) (⟨id2, hol2, path2, mode2, st2, term2⟩, .slice B2 st2.length d2) W2 (ha.no kk) (ha2.no kk) h1.2 h2.2
              simp only [pC] at pq
              clear ha ha2 h1 h2 hml hmm el em hlt hlt2
              go_upto_region 6 with (fail)
              go_still_tail 10, (by kernel_rfl)
              change wpList _ _ _ _ _ wr.drew
              have kD : Kp No wr wr.drew := (Kp.refl No wr).drew
              generalize wr.drew = W2 at *
              by_cases heq : (⟨id, hol, path, mode, st, term⟩ : Grt) = ⟨id2, hol2, path2, mode2, st2, term2⟩
              · rw [decide_eq_true heq] at pq
                have HE := Lib.hid heq; clear heq
                go_wp2_with fail
                refine (pq _ kD).mono ?_
                rintro e w1 ⟨rfl, k1⟩
                have HK1 := Lib.hid (HK.out.trans (kD.trans k1))
                clear k1 pq kD
                go_wp2
                go_roundw
                case rel => exact ⟨j + 1, by omega, by go_num, HK1.out, by rw [HS1.out, HS2.out, HT.out, HE.out]⟩
                case measure => simp [intOf]; omega
              · rw [decide_eq_false heq] at pq
                have HE := Lib.hid heq; clear heq
                go_wp2_with fail
                refine (pq _ kD).mono ?_
                rintro e w1 ⟨rfl, k1⟩
                have HK1 := Lib.hid (HK.out.trans (kD.trans k1))
                clear k1 pq kD
                go_wp2
                go_ret
                exact ⟨ret_bool rfl (by rw [HX.out, decide_eq_false (HNE.out HE.out)]), HK0.out.trans HK1.out⟩
            · have hk1 : ¬ (j : Int) < (l.length : Int) := by omega
              have HE := Lib.hid (show decide (gsL l = gsL m) = true by
                rw [decide_eq_true_iff]
                have h1 := HT.out
                rwa [List.take_of_length_le (by omega), List.take_of_length_le (by have := HLen.out; omega)] at h1)
              clear hlt
              go_wp2
              go_ret
              exact ⟨ret_bool rfl (by rw [HX.out, HE.out]), HK0.out.trans HK.out⟩
        · have hne : ((l.length : Int) != (m.length : Int)) = true := by rw [bne_iff_ne]; omega
          have HE := Lib.hid (show decide (gsL l = gsL m) = false by rw [decide_eq_false_iff_not]; intro e; apply hlen; rw [← gsL_len, e, gsL_len])
          clear hlen
          go_enter Try.func16, Try.ntmps16
          go_wp2
          go_ret
          exact ⟨ret_bool rfl (by rw [HX.out, HE.out]), kA⟩
      · have d : (t != t2) = true := by rw [bne_iff_ne]; exact b2
        have HX := Lib.hid (show R = false by rw [HR.out, decide_eq_false_iff_not, bk_eq]; rintro ⟨q0, q1, q2, q3⟩; exact b2 q2)
        clear b2
        go_enter Try.func16, Try.ntmps16
        go_wp2
        go_ret
        exact ⟨ret_bool rfl (by rw [HX.out]), kA⟩
    · have d : (k != k2) = true := by rw [bne_iff_ne]; exact b1
      have HX := Lib.hid (show R = false by rw [HR.out, decide_eq_false_iff_not, bk_eq]; rintro ⟨q0, q1, q2, q3⟩; exact b1 q1)
      clear b1
      go_enter Try.func16, Try.ntmps16
      go_wp2
      go_ret
      exact ⟨ret_bool rfl (by rw [HX.out]), kA⟩
  · have d : (n != n2) = true := by rw [bne_iff_ne]; exact b0
    have HX := Lib.hid (show R = false by rw [HR.out, decide_eq_false_iff_not, bk_eq]; rintro ⟨q0, q1, q2, q3⟩; exact b0 q0)
    clear b0
    go_enter Try.func16, Try.ntmps16
    go_wp2
    go_ret
    exact ⟨ret_bool rfl (by rw [HX.out]), kA⟩
end Go.Proofs.Ytifdceofglocdaa
