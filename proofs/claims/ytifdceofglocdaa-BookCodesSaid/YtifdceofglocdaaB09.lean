/- May it be a book: book.Valid by contract. No condition beyond what each theorem states. -/
import Derived.Test.YtifdceofglocdaaB07
import Derived.Test.YtifdceofglocdaaB08
namespace Go.Proofs.Ytifdceofglocdaa
open Go Go.RowKit Go.PlainAid

/-- grants of a book whose next counter is n -/
def goodL (n : Int) (L : List Grt) : Prop := (∀ g ∈ L, mayG g ∧ newestS g.stamp < n) ∧ L.Pairwise (fun x y => x.id < y.id)
def lastId (L : List Grt) : Int := (L.getLast?.map (·.id)).getD 0
theorem lastId_nil : lastId [] = 0 := rfl
theorem lastId_snoc (L : List Grt) (x : Grt) : lastId (L ++ [x]) = x.id := by unfold lastId; simp
theorem goodL_le {L : List Grt} (h : L.Pairwise (fun x y => x.id < y.id)) : ∀ a ∈ L, a.id ≤ lastId L := by
  intro a ha
  rcases List.eq_nil_or_concat L with rfl | ⟨M, x, rfl⟩
  · cases ha
  · rw [List.concat_eq_append] at ha h ⊢
    rw [lastId_snoc]
    rcases List.mem_append.1 ha with h1 | h1
    · exact Int.le_of_lt ((List.pairwise_append.1 h).2.2 a h1 x (List.mem_singleton.2 rfl))
    · rw [List.mem_singleton.1 h1]; exact Int.le_refl _
theorem goodL_snoc (n : Int) (L : List Grt) (x : Grt) : goodL n (L ++ [x]) ↔ goodL n L ∧ mayG x ∧ newestS x.stamp < n ∧ lastId L < x.id := by
  unfold goodL
  rw [List.pairwise_append]
  constructor
  · rintro ⟨h, h1, _, h3⟩
    obtain ⟨g1, g2⟩ := h x (List.mem_append.2 (.inr (List.mem_singleton.2 rfl)))
    refine ⟨⟨fun g hg => h g (List.mem_append.2 (.inl hg)), h1⟩, g1, g2, ?_⟩
    rcases List.eq_nil_or_concat L with rfl | ⟨M, y, rfl⟩
    · rw [lastId_nil]; have := g1.1; unfold cntI at this; omega
    · rw [List.concat_eq_append, lastId_snoc]
      exact h3 y (by rw [List.concat_eq_append]; exact List.mem_append.2 (.inr (List.mem_singleton.2 rfl))) x (List.mem_singleton.2 rfl)
  · rintro ⟨⟨h, h1⟩, g1, g2, g3⟩
    refine ⟨fun g hg => ?_, h1, List.pairwise_singleton _ _, fun a ha b hb => ?_⟩
    · rcases List.mem_append.1 hg with hg | hg
      · exact h g hg
      · rw [List.mem_singleton.1 hg]; exact ⟨g1, g2⟩
    · rw [List.mem_singleton.1 hb]
      have := goodL_le h1 a ha
      omega
theorem goodL_take {n : Int} {L : List Grt} (h : goodL n L) (k : Nat) : goodL n (L.take k) :=
  ⟨fun g hg => h.1 g (List.mem_of_mem_take hg), h.2.sublist (List.take_sublist k L)⟩
theorem goodL_nil (n : Int) : goodL n [] := ⟨fun g hg => (by cases hg), List.Pairwise.nil⟩
theorem valid_bk (n k t : Int) (l : List GP) : validB (bk n k t l) ↔ headsB n k ∧ (t = 0 ∨ termI t) ∧ l.length ≤ 6 ∧ goodL n (gsL l) := by
  unfold validB bk goodL
  rw [gsL_len]
/-- one grant more -/
theorem goodL_step {n : Int} {l : List GP} {j : Nat} {p : GP} (h : j < l.length) (e : l[j] = p) : goodL n (gsL (l.take (j + 1))) ↔ goodL n (gsL (l.take j)) ∧ mayG p.1 ∧ newestS p.1.stamp < n ∧ lastId (gsL (l.take j)) < p.1.id := by
  rw [gsL_snoc h, goodL_snoc, e]
theorem lastId_step {l : List GP} {j : Nat} {p : GP} (h : j < l.length) (e : l[j] = p) : lastId (gsL (l.take (j + 1))) = p.1.id := by
  rw [gsL_snoc h, lastId_snoc, e]

set_option maxRecDepth 100000 in
set_option maxHeartbeats 8000000 in
theorem bvalid_any (n k t : Int) (v : Value) (l : List GP) (W : World) (hv : ArgG W v l) (hl : ShL maxLen l) :
    Calls Try.prog 17 #[.agg #[.int .i64 n, .int .i64 k, .int .i64 t, v]] W fun e w' => e = .returned (.bool (decide (validB (bk n k t l)))) ∧ Kp No W w' := by
  have HV := Lib.hid hv
  obtain ⟨A, c, rfl, hc⟩ := hv.len
  have HL := Lib.hid hl.2; have hl1 := hl.1
  unfold maxLen at hl1
  obtain ⟨R, hR⟩ : ∃ R, R = decide (validB (bk n k t l)) := ⟨_, rfl⟩
  rw [← hR]
  have HR := Lib.hid hR; clear hR hv hl
  have HM := Lib.hid (valid_bk n k t l)
  have kA : Kp No W (W.alloc (.cells #[.int .i64 n, .int .i64 k, .int .i64 t, .slice A l.length c] 25)) := (Kp.refl No W).alloc _
  have HB := Lib.hid (show Bk (W.alloc (.cells #[.int .i64 n, .int .i64 k, .int .i64 t, .slice A l.length c] 25)) W.heap.size 25 [.int .i64 n, .int .i64 k, .int .i64 t, .slice A l.length c] from Bk.new' rfl rfl)
  by_cases b0 : headsB n k
  case neg =>
    have HX := Lib.hid (show R = false by rw [HR.out, decide_eq_false_iff_not, HM.out]; rintro ⟨q, _⟩; exact b0 q)
    have H0 := Lib.hid (decide_eq_false b0); clear b0
    go_enter Try.func17, Try.ntmps17
    go_wp2_with (go_at_call 44; refine (heads_any _ _ _).mono ?_; rintro e w' ⟨rfl, rfl⟩; rw [H0.out])
    go_ret
    exact ⟨ret_bool rfl (by rw [HX.out]), kA⟩
  have B0 := Lib.hid b0; have H0 := Lib.hid (decide_eq_true b0); clear b0
  by_cases bl : t = 0 ∨ termI t
  case neg =>
    have HX := Lib.hid (show R = false by rw [HR.out, decide_eq_false_iff_not, HM.out]; rintro ⟨_, q, _⟩; exact bl q)
    have d : (t != 0) = true := by rw [bne_iff_ne]; exact fun e => bl (.inl e)
    have H1 := Lib.hid (decide_eq_false (fun h => bl (.inr h))); clear bl
    go_enter Try.func17, Try.ntmps17
    go_wp2_with (first | (go_at_call 44; refine (heads_any _ _ _).mono ?_; rintro e w' ⟨rfl, rfl⟩; rw [H0.out]) | (go_at_call 45; refine (tlegal_any _ _).mono ?_; rintro e w' ⟨rfl, rfl⟩; rw [H1.out]))
    go_ret
    exact ⟨ret_bool rfl (by rw [HX.out]), kA⟩
  have BL := Lib.hid bl
  by_cases b6 : l.length ≤ 6
  case neg =>
    have HX := Lib.hid (show R = false by rw [HR.out, decide_eq_false_iff_not, HM.out]; rintro ⟨_, _, q, _⟩; exact b6 q)
    have h6 : (6 : Int) < (l.length : Int) := by omega
    by_cases t0 : t = 0
    · have d : (t != 0) = false := by rw [bne_eq_false_iff_eq]; exact t0
      clear t0 bl b6
      go_enter Try.func17, Try.ntmps17
      go_wp2_with (go_at_call 44; refine (heads_any _ _ _).mono ?_; rintro e w' ⟨rfl, rfl⟩; rw [H0.out])
      go_ret
      exact ⟨ret_bool rfl (by rw [HX.out]), kA⟩
    · have d : (t != 0) = true := by rw [bne_iff_ne]; exact t0
      have H1 := Lib.hid (decide_eq_true (bl.resolve_left t0)); clear bl t0 b6
      go_enter Try.func17, Try.ntmps17
      go_wp2_with (first | (go_at_call 44; refine (heads_any _ _ _).mono ?_; rintro e w' ⟨rfl, rfl⟩; rw [H0.out]) | (go_at_call 45; refine (tlegal_any _ _).mono ?_; rintro e w' ⟨rfl, rfl⟩; rw [H1.out]))
      go_ret
      exact ⟨ret_bool rfl (by rw [HX.out]), kA⟩
  have B6 := Lib.hid b6
  have h6 : ¬ (6 : Int) < (l.length : Int) := by omega
  have HK0 := Lib.hid kA; clear kA
  have main : ∀ H1 : Hid ((t != 0) = false ∨ (t != 0) = true ∧ decide (termI t) = true), Calls Try.prog 17 #[.agg #[.int .i64 n, .int .i64 k, .int .i64 t, .slice A l.length c]] W fun e w' => e = .returned (.bool R) ∧ Kp No W w' := by
    intro H1
    clear bl b6
    go_enter Try.func17, Try.ntmps17
    go_upto_region 1 with (fail)
    go_cut [28] (fun s wx => s = .bool false ∧ W.alloc (.cells #[.int .i64 n, .int .i64 k, .int .i64 t, .slice A l.length c] 25) = wx)
    case first =>
      rcases H1.out with d | ⟨d, d2⟩
      · go_wp2_with (go_at_call 44; refine (heads_any _ _ _).mono ?_; rintro e w' ⟨rfl, rfl⟩; rw [H0.out])
        go_meet
        exact ⟨by first | trivial | rfl | (rw [decide_eq_false (by omega)]), by first | trivial | rfl⟩
      · have H2 := Lib.hid d2; clear d2
        go_wp2_with (first | (go_at_call 44; refine (heads_any _ _ _).mono ?_; rintro e w' ⟨rfl, rfl⟩; rw [H0.out]) | (go_at_call 45; refine (tlegal_any _ _).mono ?_; rintro e w' ⟨rfl, rfl⟩; rw [H2.out]))
        go_meet
        exact ⟨by first | trivial | rfl | (rw [decide_eq_false (by omega)]), by first | trivial | rfl⟩
    case rest =>
      obtain ⟨rfl, rfl⟩ := hcut
      go_wp2
      have HH : Hid (Kp No W (W.alloc (.cells #[.int .i64 n, .int .i64 k, .int .i64 t, .slice A l.length c] 25))) := HK0
      clear HK0
      generalize W.alloc (.cells #[.int .i64 n, .int .i64 k, .int .i64 t, .slice A l.length c] 25) = w0 at *
      go_loopw [32, 3] (fun i q wr => ∃ j : Nat, j ≤ l.length ∧ i = .int .i64 j ∧ q = .int .i64 (lastId (gsL (l.take j))) ∧ Kp No w0 wr ∧ goodL n (gsL (l.take j))) (fun i _ _ => l.length - (intOf i).toNat)
      case atStart => exact ⟨0, Nat.zero_le _, rfl, rfl, Kp.refl _ _, goodL_nil n⟩
      case round =>
        obtain ⟨j, hj, rfl, rfl, hK, hT⟩ := hrel
        have HK := Lib.hid hK; have HT := Lib.hid hT; clear hK hT
        by_cases hlt : j < l.length
        · have hk0 : (0 : Int) ≤ (j : Int) := by omega
          have hk1 : (j : Int) < (l.length : Int) := by omega
          have kW : Kp No W wr := HH.out.trans HK.out
          obtain ⟨g, o, id, hol, path, mode, st, term, B, d, rfl, el, ha, hml, x0, x1, x2, x3, x4, x5⟩ := (HV.out.no kW).cells hlt
          have HST := Lib.hid (goodL_step (n := n) hlt el); have HLI := Lib.hid (lastId_step hlt el)
          have h1 := HL.out _ hml
          rw [el] at h1
          have HA := Lib.hid ha; have H1 := Lib.hid h1
          have hsz := HK.out.size
          have hb0 := HB.out.lt
          clear ha h1 hml el hlt
          go_upto_region 7 with (fail)
          have HG := Lib.hid (show Bk (wr.alloc (.cells #[.int .i64 id, .int .i64 hol, .string ⟨path.toArray⟩, .int .i64 mode, .slice B st.length d, .int .i64 term] 30)) wr.heap.size 30 (pC (⟨id, hol, path, mode, st, term⟩, .slice B st.length d)) from Bk.new' rfl rfl)
          have HK5 := Lib.hid (show Kp No wr (wr.alloc (.cells #[.int .i64 id, .int .i64 hol, .string ⟨path.toArray⟩, .int .i64 mode, .slice B st.length d, .int .i64 term] 30)) from (Kp.refl No wr).alloc _)
          generalize wr.alloc (.cells #[.int .i64 id, .int .i64 hol, .string ⟨path.toArray⟩, .int .i64 mode, .slice B st.length d, .int .i64 term] 30) = w5 at *
          have HB5 := Lib.hid (HB.out.no (HK.out.trans HK5.out))
          clear x0 x1 x2 x3 x4 x5
          have pm := fun W2 (kk : Kp No w5 W2) => (mayGrant_any (⟨id, hol, path, mode, st, term⟩, .slice B st.length d) W2 ((HA.out.no HK5.out).no kk) H1.out).mono fun e w' ⟨h, k2⟩ => (⟨h, kk.trans k2⟩ : _ ∧ Kp No w5 w')
          have pn := fun W2 (kk : Kp No w5 W2) => (newest_any (.slice B st.length d) st W2 ((HA.out.no HK5.out).no kk) H1.out.2).mono fun e w' ⟨h, k2⟩ => (⟨h, by rw [← k2]; exact kk⟩ : _ ∧ Kp No w5 w')
          have sk : ∀ W2, Kp No w5 W2 → W2.cell? ⟨wr.heap.size, 0, none⟩ = some (.int .i64 id) ∧ W2.cell? ⟨wr.heap.size, 1, none⟩ = some (.int .i64 hol) ∧ W2.cell? ⟨wr.heap.size, 2, none⟩ = some (.string ⟨path.toArray⟩) ∧ W2.cell? ⟨wr.heap.size, 3, none⟩ = some (.int .i64 mode) ∧ W2.cell? ⟨wr.heap.size, 4, none⟩ = some (.slice B st.length d) ∧ W2.cell? ⟨wr.heap.size, 5, none⟩ = some (.int .i64 term) ∧ W2.cell? ⟨W.heap.size, 0, none⟩ = some (.int .i64 n) := fun W2 kk => ⟨(HG.out.no kk).cell 0, (HG.out.no kk).cell 1, (HG.out.no kk).cell 2, (HG.out.no kk).cell 3, (HG.out.no kk).cell 4, (HG.out.no kk).cell 5, (HB5.out.no kk).cell 0⟩
          simp only [pC] at pm
          have HJ := Lib.hid hj; have HSZ := Lib.hid hsz; have HB0 := Lib.hid hb0
          clear hj hsz hb0
          have HST : Hid (goodL n (gsL (l.take (j + 1))) ↔ goodL n (gsL (l.take j)) ∧ mayG ⟨id, hol, path, mode, st, term⟩ ∧ newestS st < n ∧ lastId (gsL (l.take j)) < id) := HST
          have HLI : Hid (lastId (gsL (l.take (j + 1))) = id) := HLI
          generalize newestS st = nw at *
          generalize lastId (gsL (l.take j)) = li at *
          by_cases m1 : mayG ⟨id, hol, path, mode, st, term⟩
          · rw [decide_eq_true m1] at pm
            have M1 := Lib.hid m1; clear m1
            by_cases m2 : nw < n
            · have d2 : decide (n ≤ nw) = false := by rw [decide_eq_false_iff_not]; omega
              by_cases m3 : li < id
              · have d3 : decide (id ≤ li) = false := by rw [decide_eq_false_iff_not]; omega
                have HGD := Lib.hid (HST.out.2 ⟨HT.out, M1.out, m2, m3⟩)
                clear m2 m3
                first | (go_region_held3 (fun W2 => W2.cell? ⟨wr.heap.size, 0, none⟩ = some (.int .i64 id) ∧ W2.cell? ⟨wr.heap.size, 1, none⟩ = some (.int .i64 hol) ∧ W2.cell? ⟨wr.heap.size, 2, none⟩ = some (.string ⟨path.toArray⟩) ∧ W2.cell? ⟨wr.heap.size, 3, none⟩ = some (.int .i64 mode) ∧ W2.cell? ⟨wr.heap.size, 4, none⟩ = some (.slice B st.length d) ∧ W2.cell? ⟨wr.heap.size, 5, none⟩ = some (.int .i64 term) ∧ W2.cell? ⟨W.heap.size, 0, none⟩ = some (.int .i64 n)) (first | (go_keep; done) | exact sk _ (by with_reducible repeat (first | assumption | exact Kp.refl _ _ | refine Kp.drew ?_ | refine Kp.drewN ?_ _)))
                  (first
                      | (go_at_call 46; (with_reducible refine (pm _ (by with_reducible repeat (first | assumption | exact Kp.refl _ _ | refine Kp.drew ?_ | refine Kp.drewN ?_ _))).mono ?_); rintro e w6 ⟨rfl, k6⟩)
                      | (go_at_call 47; (with_reducible refine (pn _ (by with_reducible repeat (first | assumption | exact Kp.refl _ _ | refine Kp.drew ?_ | refine Kp.drewN ?_ _))).mono ?_); rintro e w7 ⟨rfl, k7⟩))) | fail
                all_goals
                  have HK7 := Lib.hid (HK.out.trans (HK5.out.trans k7))
                  have c0 := (HG.out.no k7).cell 0
                  clear pm pn sk k6 k7
                  go_wp2
                  go_roundw
                  case rel => exact ⟨j + 1, by have := hk1; omega, by go_num, by rw [HLI.out], HK7.out, HGD.out⟩
                  case measure => simp [intOf]; omega
              · have d3 : id ≤ li := by omega
                have HX := Lib.hid (show R = false by
                  rw [HR.out, decide_eq_false_iff_not, HM.out]
                  rintro ⟨_, _, _, q⟩
                  have q := HST.out.1 (by rw [← gsL_take]; exact goodL_take q (j + 1))
                  exact absurd q.2.2.2 m3)
                clear m2 m3
                first | (go_region_held3 (fun W2 => W2.cell? ⟨wr.heap.size, 0, none⟩ = some (.int .i64 id) ∧ W2.cell? ⟨wr.heap.size, 1, none⟩ = some (.int .i64 hol) ∧ W2.cell? ⟨wr.heap.size, 2, none⟩ = some (.string ⟨path.toArray⟩) ∧ W2.cell? ⟨wr.heap.size, 3, none⟩ = some (.int .i64 mode) ∧ W2.cell? ⟨wr.heap.size, 4, none⟩ = some (.slice B st.length d) ∧ W2.cell? ⟨wr.heap.size, 5, none⟩ = some (.int .i64 term) ∧ W2.cell? ⟨W.heap.size, 0, none⟩ = some (.int .i64 n)) (first | (go_keep; done) | exact sk _ (by with_reducible repeat (first | assumption | exact Kp.refl _ _ | refine Kp.drew ?_ | refine Kp.drewN ?_ _)))
                  (first
                      | (go_at_call 46; (with_reducible refine (pm _ (by with_reducible repeat (first | assumption | exact Kp.refl _ _ | refine Kp.drew ?_ | refine Kp.drewN ?_ _))).mono ?_); rintro e w6 ⟨rfl, k6⟩)
                      | (go_at_call 47; (with_reducible refine (pn _ (by with_reducible repeat (first | assumption | exact Kp.refl _ _ | refine Kp.drew ?_ | refine Kp.drewN ?_ _))).mono ?_); rintro e w7 ⟨rfl, k7⟩))) | fail
                all_goals
                  have HK7 := Lib.hid (HH.out.trans (HK.out.trans (HK5.out.trans k7)))
                  clear pm pn sk k6 k7
                  go_wp2
                  go_ret
                  exact ⟨ret_bool rfl (by rw [HX.out]), HK7.out⟩
            · have d2 : n ≤ nw := by omega
              have HX := Lib.hid (show R = false by
                rw [HR.out, decide_eq_false_iff_not, HM.out]
                rintro ⟨_, _, _, q⟩
                have q := HST.out.1 (by rw [← gsL_take]; exact goodL_take q (j + 1))
                exact absurd q.2.2.1 m2)
              clear m2
              obtain ⟨s0, s1, s2, s3, s4, s5, s6⟩ := sk w5 (Kp.refl _ _)
              first | (go_region_with (first
                    | (go_at_call 46; (with_reducible refine (pm _ (by with_reducible repeat (first | assumption | exact Kp.refl _ _ | refine Kp.drew ?_ | refine Kp.drewN ?_ _))).mono ?_); rintro e w6 ⟨rfl, k6⟩; have y4 : w6.cell? ⟨wr.heap.size, 4, none⟩ = some (.slice B st.length d) := (HG.out.no k6).cell 4; have z0 : w6.cell? ⟨W.heap.size, 0, none⟩ = some (.int .i64 n) := (HB5.out.no k6).cell 0)
                    | (go_at_call 47; (with_reducible refine (pn _ (by with_reducible repeat (first | assumption | exact Kp.refl _ _ | refine Kp.drew ?_ | refine Kp.drewN ?_ _))).mono ?_); rintro e w7 ⟨rfl, k7⟩; have z0 : w7.cell? ⟨W.heap.size, 0, none⟩ = some (.int .i64 n) := (HB5.out.no k7).cell 0))) | fail
              all_goals
                have HK7 := Lib.hid (HH.out.trans (HK.out.trans (HK5.out.trans k7)))
                clear pm pn sk k6 k7
                go_wp2
                go_ret
                exact ⟨ret_bool rfl (by rw [HX.out]), HK7.out⟩
          · rw [decide_eq_false m1] at pm
            have HX := Lib.hid (show R = false by
              rw [HR.out, decide_eq_false_iff_not, HM.out]
              rintro ⟨_, _, _, q⟩
              have q := HST.out.1 (by rw [← gsL_take]; exact goodL_take q (j + 1))
              exact m1 q.2.1)
            clear m1 pn
            obtain ⟨s0, s1, s2, s3, s4, s5, s6⟩ := sk w5 (Kp.refl _ _)
            first | (go_region_with (go_at_call 46; (with_reducible refine (pm _ (by with_reducible repeat (first | assumption | exact Kp.refl _ _ | refine Kp.drew ?_ | refine Kp.drewN ?_ _))).mono ?_); rintro e w6 ⟨rfl, k6⟩)) | fail
            all_goals
              have HK7 := Lib.hid (HH.out.trans (HK.out.trans (HK5.out.trans k6)))
              clear pm sk k6
              go_wp2
              go_ret
              exact ⟨ret_bool rfl (by rw [HX.out]), HK7.out⟩
        · have hk1 : ¬ (j : Int) < (l.length : Int) := by omega
          have HX := Lib.hid (show R = true by
            rw [HR.out, decide_eq_true_iff, HM.out]
            have h := HT.out
            rw [List.take_of_length_le (by omega)] at h
            exact ⟨B0.out, BL.out, B6.out, h⟩)
          clear hlt
          go_wp2
          go_ret
          exact ⟨ret_bool rfl (by rw [HX.out]), HH.out.trans HK.out⟩
  rcases bl with bl | bl
  · exact main (Lib.hid (.inl (by rw [bne_eq_false_iff_eq]; exact bl)))
  · exact main (Lib.hid (.inr ⟨by rw [bne_iff_ne]; unfold termI at bl; omega, decide_eq_true bl⟩))
end Go.Proofs.Ytifdceofglocdaa
