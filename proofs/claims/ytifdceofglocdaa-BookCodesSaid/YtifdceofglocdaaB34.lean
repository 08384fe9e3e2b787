/- May it be a book: the document's Valid by contract. No condition beyond what each theorem states. -/
import Derived.Test.YtifdceofglocdaaB09
import Derived.Test.YtifdceofglocdaaB33
import Derived.Test.YtifdceofglocdaaB16
namespace Go.Proofs.Ytifdceofglocdaa
open Go Go.RowKit Go.PlainAid

set_option maxRecDepth 100000 in
set_option maxHeartbeats 8000000 in
theorem rbvalid_any (n k t : Int) (v : Value) (l : List GP) (W : World) (hv : ArgG W v l) (hl : ShL maxLen l) (hp : ∀ p ∈ l, p.1.path.length < 9223372036854775807) :
    Calls Try.prog 18 #[.agg #[.int .i64 n, .int .i64 k, .int .i64 t, v]] W fun e w' => e = .returned (.bool (decide (validB (bk n k t l)))) ∧ Kp No W w' := by
  have HV := Lib.hid hv
  obtain ⟨A, c, rfl, hc⟩ := hv.len
  have HL := Lib.hid hl.2; have hl1 := hl.1; have HP := Lib.hid hp
  unfold maxLen at hl1
  obtain ⟨R, hR⟩ : ∃ R, R = decide (validB (bk n k t l)) := ⟨_, rfl⟩
  rw [← hR]
  have HR := Lib.hid hR; clear hR hv hl hp
  have HM : Hid (validB (bk n k t l) ↔ (1 ≤ n ∧ n ≤ 1099511627777 ∧ 0 ≤ k ∧ k ≤ 1099511627776) ∧ (t = 0 ∨ termI t) ∧ l.length ≤ 6 ∧ goodL n (gsL l)) := Lib.hid (valid_bk n k t l)
  have kA : Kp No W (W.alloc (.cells #[.int .i64 n, .int .i64 k, .int .i64 t, .slice A l.length c] 25)) := (Kp.refl No W).alloc _
  have HB := Lib.hid (show Bk (W.alloc (.cells #[.int .i64 n, .int .i64 k, .int .i64 t, .slice A l.length c] 25)) W.heap.size 25 [.int .i64 n, .int .i64 k, .int .i64 t, .slice A l.length c] from Bk.new' rfl rfl)
  by_cases b0 : 1 ≤ n
  case neg =>
    have HX := Lib.hid (show R = false by rw [HR.out, decide_eq_false_iff_not, HM.out]; rintro ⟨q0, q1, q2, q3⟩; exact b0 q0.1)
    have d : n < 1 := by omega
    clear b0
    go_enter Try.func18, Try.ntmps18
    go_wp2
    go_ret
    exact ⟨ret_bool rfl (by rw [HX.out]), kA⟩
  by_cases b1 : n ≤ 1099511627777
  case neg =>
    have HX := Lib.hid (show R = false by rw [HR.out, decide_eq_false_iff_not, HM.out]; rintro ⟨q0, q1, q2, q3⟩; exact b1 q0.2.1)
    have d : (1099511627777 : Int) < n := by omega
    clear b1
    have e0 : ¬ n < 1 := by omega
    clear b0
    go_enter Try.func18, Try.ntmps18
    go_wp2
    go_ret
    exact ⟨ret_bool rfl (by rw [HX.out]), kA⟩
  by_cases b2 : 0 ≤ k
  case neg =>
    have HX := Lib.hid (show R = false by rw [HR.out, decide_eq_false_iff_not, HM.out]; rintro ⟨q0, q1, q2, q3⟩; exact b2 q0.2.2.1)
    have d : k < 0 := by omega
    clear b2
    have e0 : ¬ n < 1 := by omega
    have e1 : ¬ (1099511627777 : Int) < n := by omega
    clear b0 b1
    go_enter Try.func18, Try.ntmps18
    go_wp2
    go_ret
    exact ⟨ret_bool rfl (by rw [HX.out]), kA⟩
  by_cases b3 : k ≤ 1099511627776
  case neg =>
    have HX := Lib.hid (show R = false by rw [HR.out, decide_eq_false_iff_not, HM.out]; rintro ⟨q0, q1, q2, q3⟩; exact b3 q0.2.2.2)
    have d : (1099511627776 : Int) < k := by omega
    clear b3
    have e0 : ¬ n < 1 := by omega
    have e1 : ¬ (1099511627777 : Int) < n := by omega
    have e2 : ¬ k < 0 := by omega
    clear b0 b1 b2
    go_enter Try.func18, Try.ntmps18
    go_wp2
    go_ret
    exact ⟨ret_bool rfl (by rw [HX.out]), kA⟩
  have e0 : ¬ n < 1 := by omega
  have e1 : ¬ (1099511627777 : Int) < n := by omega
  have e2 : ¬ k < 0 := by omega
  have e3 : ¬ (1099511627776 : Int) < k := by omega
  have B0 := Lib.hid (show 1 ≤ n ∧ n ≤ 1099511627777 ∧ 0 ≤ k ∧ k ≤ 1099511627776 from ⟨b0, b1, b2, b3⟩)
  clear b0 b1 b2 b3
  by_cases b6 : l.length ≤ 6
  case neg =>
    have HX := Lib.hid (show R = false by rw [HR.out, decide_eq_false_iff_not, HM.out]; rintro ⟨_, _, q, _⟩; exact b6 q)
    have h6 : (6 : Int) < (l.length : Int) := by omega
    clear b6
    go_enter Try.func18, Try.ntmps18
    go_wp2
    go_ret
    exact ⟨ret_bool rfl (by rw [HX.out]), kA⟩
  have B6 := Lib.hid b6
  have h6 : ¬ (6 : Int) < (l.length : Int) := by omega
  clear b6
  by_cases bl : t = 0 ∨ termI t
  case neg =>
    have HX := Lib.hid (show R = false by rw [HR.out, decide_eq_false_iff_not, HM.out]; rintro ⟨_, q, _⟩; exact bl q)
    have d : (t != 0) = true := by rw [bne_iff_ne]; exact fun e => bl (.inl e)
    have H1 := Lib.hid (decide_eq_false (fun h => bl (.inr h))); clear bl
    go_enter Try.func18, Try.ntmps18
    go_wp2_with (go_at_call 48; refine (rlegal_any _ _).mono ?_; rintro e w' ⟨rfl, rfl⟩; rw [H1.out])
    go_ret
    exact ⟨ret_bool rfl (by rw [HX.out]), kA⟩
  have BL := Lib.hid bl
  have HH := Lib.hid kA; clear kA
  have H1 : Hid ((t != 0) = false ∨ (t != 0) = true ∧ decide (termI t) = true) := Lib.hid (by
    rcases bl with bl | bl
    · exact .inl (by rw [bne_eq_false_iff_eq]; exact bl)
    · exact .inr ⟨by rw [bne_iff_ne]; unfold termI at bl; omega, decide_eq_true bl⟩)
  clear bl
  go_enter Try.func18, Try.ntmps18
  go_upto_region 3 with (fail)
  go_cut [37] (fun s wx => s = .bool false ∧ W.alloc (.cells #[.int .i64 n, .int .i64 k, .int .i64 t, .slice A l.length c] 25) = wx)
  case first =>
    rcases H1.out with d | ⟨d, d2⟩
    · go_wp2
      go_meet
      exact ⟨by first | trivial | rfl, by first | trivial | rfl⟩
    · have H2 := Lib.hid d2; clear d2
      go_wp2_with (go_at_call 48; refine (rlegal_any _ _).mono ?_; rintro e w' ⟨rfl, rfl⟩; rw [H2.out])
      go_meet
      exact ⟨by first | trivial | rfl, by first | trivial | rfl⟩
  case rest =>
    obtain ⟨rfl, rfl⟩ := hcut
    clear e0 e1 e2 e3 h6
    go_wp2
    generalize W.alloc (.cells #[.int .i64 n, .int .i64 k, .int .i64 t, .slice A l.length c] 25) = w0 at *
    go_loopw [3] (fun i wr => ∃ j : Nat, j ≤ l.length ∧ i = .int .i64 j ∧ Kp No w0 wr ∧ goodL n (gsL (l.take j))) (fun i _ => l.length - (intOf i).toNat)
    case atStart => exact ⟨0, Nat.zero_le _, rfl, Kp.refl _ _, goodL_nil n⟩
    case round =>
      obtain ⟨j, hj, rfl, hK, hT⟩ := hrel
      have HK := Lib.hid hK; have HT := Lib.hid hT; clear hK hT
      have zb : wr.cell? ⟨W.heap.size, 3, none⟩ = some (.slice A l.length c) := (HB.out.no HK.out).cell 3
      by_cases hlt : j < l.length
      · have hk0 : (0 : Int) ≤ (j : Int) := by omega
        have hk1 : (j : Int) < (l.length : Int) := by omega
        have kW : Kp No W wr := HH.out.trans HK.out
        obtain ⟨g, o, id, hol, path, mode, st, term, B, d, rfl, el, ha, hml, x0, x1, x2, x3, x4, x5⟩ := (HV.out.no kW).cells hlt
        have HST : Hid (goodL n (gsL (l.take (j + 1))) ↔ goodL n (gsL (l.take j)) ∧ mayG ⟨id, hol, path, mode, st, term⟩ ∧ newestS st < n ∧ lastId (gsL (l.take j)) < id) := Lib.hid (goodL_step (n := n) hlt el)
        have h1 := HL.out _ hml; have hp1 := HP.out _ hml
        rw [el] at h1 hp1
        have HA := Lib.hid ha; have H1 := Lib.hid h1; have HP1 := Lib.hid hp1; have HKW := Lib.hid kW
        clear ha h1 hp1 hml el kW
        go_upto_region 9 with (fail)
        have HG := Lib.hid (show Bk (wr.alloc (.cells #[.int .i64 id, .int .i64 hol, .string ⟨path.toArray⟩, .int .i64 mode, .slice B st.length d, .int .i64 term] 30)) wr.heap.size 30 (pC (⟨id, hol, path, mode, st, term⟩, .slice B st.length d)) from Bk.new' rfl rfl)
        have HK5 := Lib.hid (show Kp No wr (wr.alloc (.cells #[.int .i64 id, .int .i64 hol, .string ⟨path.toArray⟩, .int .i64 mode, .slice B st.length d, .int .i64 term] 30)) from (Kp.refl No wr).alloc _)
        generalize wr.alloc (.cells #[.int .i64 id, .int .i64 hol, .string ⟨path.toArray⟩, .int .i64 mode, .slice B st.length d, .int .i64 term] 30) = w5 at *
        have HB5 := Lib.hid (HB.out.no (HK.out.trans HK5.out))
        clear x0 x1 x2 x3 x4 x5 zb
        have pm := fun W2 (kk : Kp No w5 W2) => (rGrant_any (⟨id, hol, path, mode, st, term⟩, .slice B st.length d) W2 ((HA.out.no HK5.out).no kk) H1.out HP1.out).mono fun e w' ⟨h, k2⟩ => (⟨h, kk.trans k2⟩ : _ ∧ Kp No w5 w')
        have pn := fun W2 (kk : Kp No w5 W2) => (rlast_any (.slice B st.length d) st W2 ((HA.out.no HK5.out).no kk) H1.out.2).mono fun e w' ⟨h, k2⟩ => (⟨h, by rw [← k2]; exact kk⟩ : _ ∧ Kp No w5 w')
        simp only [pC] at pm
        generalize newestS st = nw at *
        have hF : (fun W2 => Kp No w5 W2) w5.drew := (Kp.refl No w5).drew
        by_cases m1 : mayG ⟨id, hol, path, mode, st, term⟩
        · rw [decide_eq_true m1] at pm
          have M1 := Lib.hid m1; clear m1
          by_cases m2 : nw < n
          · have d2 : decide (n ≤ nw) = false := by rw [decide_eq_false_iff_not]; omega
            rcases j with _ | i
            · have HGD := Lib.hid (HST.out.2 ⟨HT.out, M1.out, m2, by have h := M1.out.1; have h : 1 ≤ id ∧ id ≤ 1099511627776 := h; rw [List.take_zero]; show (0 : Int) < id; omega⟩)
              clear m2 hk0 hk1
              refine rg_begin (fun W2 => Kp No w5 W2) 27 (by kernel_rfl) ?_
              refine rg_take (i := 0) (v := (.agg #[.int .i64 id, .int .i64 hol, .string ⟨path.toArray⟩, .int .i64 mode, .slice B st.length d, .int .i64 term])) (by simp only [List.getElem?_toArray, List.getElem?_cons_zero]; rfl) (by kernel_rfl) (by exact fun _ _ _ h => h) (by rfl) ?ra0 hF ?sa0
              case ra0 => (intro W9 hW; have z0 : W9.cell? ⟨wr.heap.size, 0, none⟩ = some (.int .i64 id) := (HG.out.no hW).cell 0; have z1 : W9.cell? ⟨wr.heap.size, 1, none⟩ = some (.int .i64 hol) := (HG.out.no hW).cell 1; have z2 : W9.cell? ⟨wr.heap.size, 2, none⟩ = some (.string ⟨path.toArray⟩) := (HG.out.no hW).cell 2; have z3 : W9.cell? ⟨wr.heap.size, 3, none⟩ = some (.int .i64 mode) := (HG.out.no hW).cell 3; have z4 : W9.cell? ⟨wr.heap.size, 4, none⟩ = some (.slice B st.length d) := (HG.out.no hW).cell 4; have z5 : W9.cell? ⟨wr.heap.size, 5, none⟩ = some (.int .i64 term) := (HG.out.no hW).cell 5; go_simp; try with_reducible rfl)
              try simp only [Act.put, List.setIfInBounds_toArray, List.set_cons_zero, List.set_cons_succ]
              refine rg_one (i := 1) (oi := ?oa1) ?aa1 ?ba1 ?ca1 ?da1
              case aa1 => (simp only [List.getElem?_toArray, List.getElem?_cons_succ, List.getElem?_cons_zero]; rfl)
              case ba1 => kernel_rfl
              case ca1 => rfl
              intro K hK
              (go_simp; refine (pm _ hF).mono ?_; rintro e w6 ⟨rfl, k6⟩)
              refine rg_use hK (k6) (fun hF => ?_)
              clear hK K
              try simp only [Act.put, List.setIfInBounds_toArray, List.set_cons_zero, List.set_cons_succ]
              refine rg_take (i := 2) (v := (.bool false)) (by simp only [List.getElem?_toArray, List.getElem?_cons_succ, List.getElem?_cons_zero]; rfl) (by kernel_rfl) (by exact fun _ _ _ h => h) (by rfl) ?ra2 hF ?sa2
              case ra2 => (intro W hW; clear hW; go_simp; try with_reducible rfl)
              try simp only [Act.put, List.setIfInBounds_toArray, List.set_cons_zero, List.set_cons_succ]
              refine rg_take (i := 3) (v := (.bool false)) (by simp only [List.getElem?_toArray, List.getElem?_cons_succ, List.getElem?_cons_zero]; rfl) (by kernel_rfl) (by exact fun _ _ _ h => h) (by rfl) ?ra3 hF ?sa3
              case ra3 => (intro W hW; clear hW; go_simp; try with_reducible rfl)
              try simp only [Act.put, List.setIfInBounds_toArray, List.set_cons_zero, List.set_cons_succ]
              refine rg_take (i := 4) (v := ?va4) (by simp only [List.getElem?_toArray, List.getElem?_cons_succ, List.getElem?_cons_zero]; rfl) (by kernel_rfl) (by exact fun _ _ _ h => h) (by rfl) ?ra4 hF ?sa4
              case ra4 => (intro W hW; clear hW; go_simp; try with_reducible rfl)
              try simp only [Act.put, List.setIfInBounds_toArray, List.set_cons_zero, List.set_cons_succ]
              refine rg_take (i := 5) (v := ?va5) (by simp only [List.getElem?_toArray, List.getElem?_cons_succ, List.getElem?_cons_zero]; rfl) (by kernel_rfl) (by exact fun _ _ _ h => h) (by rfl) ?ra5 hF ?sa5
              case ra5 => (intro W9 hW; have z : W9.cell? ⟨wr.heap.size, 4, none⟩ = some (.slice B st.length d) := (HG.out.no hW).cell 4; go_simp; try with_reducible rfl)
              try simp only [Act.put, List.setIfInBounds_toArray, List.set_cons_zero, List.set_cons_succ]
              refine rg_take (i := 7) (v := ?va7) (by simp only [List.getElem?_toArray, List.getElem?_cons_succ, List.getElem?_cons_zero]; rfl) (by kernel_rfl) (by exact fun _ _ _ h => h) (by rfl) ?ra7 hF ?sa7
              case ra7 => (intro W hW; clear hW; go_simp; try with_reducible rfl)
              try simp only [Act.put, List.setIfInBounds_toArray, List.set_cons_zero, List.set_cons_succ]
              refine rg_take (i := 8) (v := ?va8) (by simp only [List.getElem?_toArray, List.getElem?_cons_succ, List.getElem?_cons_zero]; rfl) (by kernel_rfl) (by exact fun _ _ _ h => h) (by rfl) ?ra8 hF ?sa8
              case ra8 => (intro W9 hW; have z : W9.cell? ⟨W.heap.size, 0, none⟩ = some (.int .i64 n) := (HB5.out.no hW).cell 0; go_simp; try with_reducible rfl)
              try simp only [Act.put, List.setIfInBounds_toArray, List.set_cons_zero, List.set_cons_succ]
              refine rg_one (i := 6) (oi := ?oa6) ?aa6 ?ba6 ?ca6 ?da6
              case aa6 => (simp only [List.getElem?_toArray, List.getElem?_cons_succ, List.getElem?_cons_zero]; rfl)
              case ba6 => kernel_rfl
              case ca6 => rfl
              intro K hK
              (go_simp; refine (pn _ hF).mono ?_; rintro e w7 ⟨rfl, k7⟩)
              refine rg_use hK (k7) (fun hF => ?_)
              clear hK K
              try simp only [Act.put, List.setIfInBounds_toArray, List.set_cons_zero, List.set_cons_succ]
              refine rg_take (i := 9) (v := (.bool false)) (by simp only [List.getElem?_toArray, List.getElem?_cons_succ, List.getElem?_cons_zero]; rfl) (by kernel_rfl) (by exact fun _ _ _ h => h) (by rfl) ?ra9 hF ?sa9
              case ra9 => (intro W hW; clear hW; go_simp; try with_reducible rfl)
              try simp only [Act.put, List.setIfInBounds_toArray, List.set_cons_zero, List.set_cons_succ]
              refine rg_take (i := 10) (v := (.bool false)) (by simp only [List.getElem?_toArray, List.getElem?_cons_succ, List.getElem?_cons_zero]; rfl) (by kernel_rfl) (by exact fun _ _ _ h => h) (by rfl) ?ra10 hF ?sa10
              case ra10 => (intro W hW; clear hW; go_simp; try with_reducible rfl)
              try simp only [Act.put, List.setIfInBounds_toArray, List.set_cons_zero, List.set_cons_succ]
              refine rg_take (i := 11) (v := (.bool false)) (by simp only [List.getElem?_toArray, List.getElem?_cons_succ, List.getElem?_cons_zero]; rfl) (by kernel_rfl) (by exact fun _ _ _ h => h) (by rfl) ?ra11 hF ?sa11
              case ra11 => (intro W hW; clear hW; go_simp; try with_reducible rfl)
              try simp only [Act.put, List.setIfInBounds_toArray, List.set_cons_zero, List.set_cons_succ]
              refine rg_take (i := 12) (v := ?va12) (by simp only [List.getElem?_toArray, List.getElem?_cons_succ, List.getElem?_cons_zero]; rfl) (by kernel_rfl) (by exact fun _ _ _ h => h) (by rfl) ?ra12 hF ?sa12
              case ra12 => (intro W hW; clear hW; go_simp; try with_reducible rfl)
              try simp only [Act.put, List.setIfInBounds_toArray, List.set_cons_zero, List.set_cons_succ]
              refine rg_take (i := 13) (v := (.bool false)) (by simp only [List.getElem?_toArray, List.getElem?_cons_succ, List.getElem?_cons_zero]; rfl) (by kernel_rfl) (by exact fun _ _ _ h => h) (by rfl) ?ra13 hF ?sa13
              case ra13 => (intro W hW; clear hW; go_simp; try with_reducible rfl)
              try simp only [Act.put, List.setIfInBounds_toArray, List.set_cons_zero, List.set_cons_succ]
              refine rg_take (i := 14) (v := (.bool false)) (by simp only [List.getElem?_toArray, List.getElem?_cons_succ, List.getElem?_cons_zero]; rfl) (by kernel_rfl) (by exact fun _ _ _ h => h) (by rfl) ?ra14 hF ?sa14
              case ra14 => (intro W hW; clear hW; go_simp; try with_reducible rfl)
              try simp only [Act.put, List.setIfInBounds_toArray, List.set_cons_zero, List.set_cons_succ]
              refine rg_pass (i := 15) (by simp only [List.getElem?_toArray, List.getElem?_cons_succ, List.getElem?_cons_zero]; rfl) (by kernel_rfl) (by exact fun _ _ _ h => h) (by rfl) hF ?_
              try simp only [Act.put, List.setIfInBounds_toArray, List.set_cons_zero, List.set_cons_succ]
              refine rg_pass (i := 16) (by simp only [List.getElem?_toArray, List.getElem?_cons_succ, List.getElem?_cons_zero]; rfl) (by kernel_rfl) (by exact fun _ _ _ h => h) (by rfl) hF ?_
              try simp only [Act.put, List.setIfInBounds_toArray, List.set_cons_zero, List.set_cons_succ]
              refine rg_pass (i := 17) (by simp only [List.getElem?_toArray, List.getElem?_cons_succ, List.getElem?_cons_zero]; rfl) (by kernel_rfl) (by exact fun _ _ _ h => h) (by rfl) hF ?_
              try simp only [Act.put, List.setIfInBounds_toArray, List.set_cons_zero, List.set_cons_succ]
              refine rg_pass (i := 18) (by simp only [List.getElem?_toArray, List.getElem?_cons_succ, List.getElem?_cons_zero]; rfl) (by kernel_rfl) (by exact fun _ _ _ h => h) (by rfl) hF ?_
              try simp only [Act.put, List.setIfInBounds_toArray, List.set_cons_zero, List.set_cons_succ]
              refine rg_pass (i := 19) (by simp only [List.getElem?_toArray, List.getElem?_cons_succ, List.getElem?_cons_zero]; rfl) (by kernel_rfl) (by exact fun _ _ _ h => h) (by rfl) hF ?_
              try simp only [Act.put, List.setIfInBounds_toArray, List.set_cons_zero, List.set_cons_succ]
              refine rg_pass (i := 20) (by simp only [List.getElem?_toArray, List.getElem?_cons_succ, List.getElem?_cons_zero]; rfl) (by kernel_rfl) (by exact fun _ _ _ h => h) (by rfl) hF ?_
              try simp only [Act.put, List.setIfInBounds_toArray, List.set_cons_zero, List.set_cons_succ]
              refine rg_pass (i := 21) (by simp only [List.getElem?_toArray, List.getElem?_cons_succ, List.getElem?_cons_zero]; rfl) (by kernel_rfl) (by exact fun _ _ _ h => h) (by rfl) hF ?_
              try simp only [Act.put, List.setIfInBounds_toArray, List.set_cons_zero, List.set_cons_succ]
              refine rg_pass (i := 22) (by simp only [List.getElem?_toArray, List.getElem?_cons_succ, List.getElem?_cons_zero]; rfl) (by kernel_rfl) (by exact fun _ _ _ h => h) (by rfl) hF ?_
              try simp only [Act.put, List.setIfInBounds_toArray, List.set_cons_zero, List.set_cons_succ]
              refine rg_pass (i := 23) (by simp only [List.getElem?_toArray, List.getElem?_cons_succ, List.getElem?_cons_zero]; rfl) (by kernel_rfl) (by exact fun _ _ _ h => h) (by rfl) hF ?_
              try simp only [Act.put, List.setIfInBounds_toArray, List.set_cons_zero, List.set_cons_succ]
              refine rg_pass (i := 24) (by simp only [List.getElem?_toArray, List.getElem?_cons_succ, List.getElem?_cons_zero]; rfl) (by kernel_rfl) (by exact fun _ _ _ h => h) (by rfl) hF ?_
              try simp only [Act.put, List.setIfInBounds_toArray, List.set_cons_zero, List.set_cons_succ]
              refine rg_take (i := 25) (v := (.bool false)) (by simp only [List.getElem?_toArray, List.getElem?_cons_succ, List.getElem?_cons_zero]; rfl) (by kernel_rfl) (by exact fun _ _ _ h => h) (by rfl) ?ra25 hF ?sa25
              case ra25 => (intro W hW; clear hW; go_simp; try with_reducible rfl)
              try simp only [Act.put, List.setIfInBounds_toArray, List.set_cons_zero, List.set_cons_succ]
              refine rg_take (i := 26) (v := (.bool false)) (by simp only [List.getElem?_toArray, List.getElem?_cons_succ, List.getElem?_cons_zero]; rfl) (by kernel_rfl) (by exact fun _ _ _ h => h) (by rfl) ?ra26 hF ?sa26
              case ra26 => (intro W hW; clear hW; go_simp; try with_reducible rfl)
              try simp only [Act.put, List.setIfInBounds_toArray, List.set_cons_zero, List.set_cons_succ]
              refine rg_done (by kernel_rfl) ?_
              go_wp2
              go_roundw
              case rel => exact ⟨0 + 1, by omega, by go_num, HK.out.trans (HK5.out.trans hF), HGD.out⟩
              case measure => simp [intOf]; omega
            · have hi : i < l.length := by omega
              obtain ⟨g2, o2, id2, hol2, path2, mode2, st2, term2, B2, dd2, eA, el2, -, -, y0, -, -, -, -, -⟩ := (HV.out.no HKW.out).cells hi
              injection eA with eA; injection eA with eg eo _
              subst eg; subst eo
              have HLI : Hid (lastId (gsL (l.take (i + 1))) = id2) := Lib.hid (lastId_step hi el2)
              have HRg := Lib.hid y0
              have hr : wr.rangeAt g (o + i * 6) [.int .i64 id2] := fun q v hq => by
                rcases q with _ | q
                · injection hq with hq; subst hq; exact HRg.out
                · cases hq
              have HZ := Lib.hid (fun W9 (hW : Kp No w5 W9) => (show W9.cell? ⟨g, o + i * 6, none⟩ = some (.int .i64 id2) from range_kp (range_kp hr HK5.out (fun m => m)) hW (fun m => m) 0 _ rfl))
              have hi0 : (0 : Int) ≤ (i : Int) := by omega
              have hi1 : (i : Int) < (l.length : Int) := by omega
              have hip : (0 : Int) < ((i + 1 : Nat) : Int) := by omega
              have hil : i + 1 ≤ 9223372036854775807 := by omega
              have HWI := Lib.hid (show IntKind.i64.wrap (i : Int) = (i : Int) by rw [IntKind.wrap_i64]; omega)
              clear y0 hr el2 hi hlt
              by_cases m3 : id2 < id
              · have HGD := Lib.hid (HST.out.2 ⟨HT.out, M1.out, m2, by rw [HLI.out]; exact m3⟩)
                have d3 : decide (id ≤ id2) = false := by rw [decide_eq_false_iff_not]; omega
                clear m2 m3
                refine rg_begin (fun W2 => Kp No w5 W2) 27 (by kernel_rfl) ?_
                refine rg_take (i := 0) (v := (.agg #[.int .i64 id, .int .i64 hol, .string ⟨path.toArray⟩, .int .i64 mode, .slice B st.length d, .int .i64 term])) (by simp only [List.getElem?_toArray, List.getElem?_cons_zero]; rfl) (by kernel_rfl) (by exact fun _ _ _ h => h) (by rfl) ?rb0 hF ?sb0
                case rb0 => (intro W9 hW; have z0 : W9.cell? ⟨wr.heap.size, 0, none⟩ = some (.int .i64 id) := (HG.out.no hW).cell 0; have z1 : W9.cell? ⟨wr.heap.size, 1, none⟩ = some (.int .i64 hol) := (HG.out.no hW).cell 1; have z2 : W9.cell? ⟨wr.heap.size, 2, none⟩ = some (.string ⟨path.toArray⟩) := (HG.out.no hW).cell 2; have z3 : W9.cell? ⟨wr.heap.size, 3, none⟩ = some (.int .i64 mode) := (HG.out.no hW).cell 3; have z4 : W9.cell? ⟨wr.heap.size, 4, none⟩ = some (.slice B st.length d) := (HG.out.no hW).cell 4; have z5 : W9.cell? ⟨wr.heap.size, 5, none⟩ = some (.int .i64 term) := (HG.out.no hW).cell 5; go_simp; try with_reducible rfl)
                try simp only [Act.put, List.setIfInBounds_toArray, List.set_cons_zero, List.set_cons_succ]
                refine rg_one (i := 1) (oi := ?ob1) ?ab1 ?bb1 ?cb1 ?db1
                case ab1 => (simp only [List.getElem?_toArray, List.getElem?_cons_succ, List.getElem?_cons_zero]; rfl)
                case bb1 => kernel_rfl
                case cb1 => rfl
                intro K hK
                (go_simp; refine (pm _ hF).mono ?_; rintro e w6 ⟨rfl, k6⟩)
                refine rg_use hK (k6) (fun hF => ?_)
                clear hK K
                try simp only [Act.put, List.setIfInBounds_toArray, List.set_cons_zero, List.set_cons_succ]
                refine rg_take (i := 2) (v := (.bool false)) (by simp only [List.getElem?_toArray, List.getElem?_cons_succ, List.getElem?_cons_zero]; rfl) (by kernel_rfl) (by exact fun _ _ _ h => h) (by rfl) ?rb2 hF ?sb2
                case rb2 => (intro W hW; clear hW; go_simp; try with_reducible rfl)
                try simp only [Act.put, List.setIfInBounds_toArray, List.set_cons_zero, List.set_cons_succ]
                refine rg_take (i := 3) (v := (.bool false)) (by simp only [List.getElem?_toArray, List.getElem?_cons_succ, List.getElem?_cons_zero]; rfl) (by kernel_rfl) (by exact fun _ _ _ h => h) (by rfl) ?rb3 hF ?sb3
                case rb3 => (intro W hW; clear hW; go_simp; try with_reducible rfl)
                try simp only [Act.put, List.setIfInBounds_toArray, List.set_cons_zero, List.set_cons_succ]
                refine rg_take (i := 4) (v := ?vb4) (by simp only [List.getElem?_toArray, List.getElem?_cons_succ, List.getElem?_cons_zero]; rfl) (by kernel_rfl) (by exact fun _ _ _ h => h) (by rfl) ?rb4 hF ?sb4
                case rb4 => (intro W hW; clear hW; go_simp; try with_reducible rfl)
                try simp only [Act.put, List.setIfInBounds_toArray, List.set_cons_zero, List.set_cons_succ]
                refine rg_take (i := 5) (v := ?vb5) (by simp only [List.getElem?_toArray, List.getElem?_cons_succ, List.getElem?_cons_zero]; rfl) (by kernel_rfl) (by exact fun _ _ _ h => h) (by rfl) ?rb5 hF ?sb5
                case rb5 => (intro W9 hW; have z : W9.cell? ⟨wr.heap.size, 4, none⟩ = some (.slice B st.length d) := (HG.out.no hW).cell 4; go_simp; try with_reducible rfl)
                try simp only [Act.put, List.setIfInBounds_toArray, List.set_cons_zero, List.set_cons_succ]
                refine rg_take (i := 7) (v := ?vb7) (by simp only [List.getElem?_toArray, List.getElem?_cons_succ, List.getElem?_cons_zero]; rfl) (by kernel_rfl) (by exact fun _ _ _ h => h) (by rfl) ?rb7 hF ?sb7
                case rb7 => (intro W hW; clear hW; go_simp; try with_reducible rfl)
                try simp only [Act.put, List.setIfInBounds_toArray, List.set_cons_zero, List.set_cons_succ]
                refine rg_take (i := 8) (v := ?vb8) (by simp only [List.getElem?_toArray, List.getElem?_cons_succ, List.getElem?_cons_zero]; rfl) (by kernel_rfl) (by exact fun _ _ _ h => h) (by rfl) ?rb8 hF ?sb8
                case rb8 => (intro W9 hW; have z : W9.cell? ⟨W.heap.size, 0, none⟩ = some (.int .i64 n) := (HB5.out.no hW).cell 0; go_simp; try with_reducible rfl)
                try simp only [Act.put, List.setIfInBounds_toArray, List.set_cons_zero, List.set_cons_succ]
                refine rg_one (i := 6) (oi := ?ob6) ?ab6 ?bb6 ?cb6 ?db6
                case ab6 => (simp only [List.getElem?_toArray, List.getElem?_cons_succ, List.getElem?_cons_zero]; rfl)
                case bb6 => kernel_rfl
                case cb6 => rfl
                intro K hK
                (go_simp; refine (pn _ hF).mono ?_; rintro e w7 ⟨rfl, k7⟩)
                refine rg_use hK (k7) (fun hF => ?_)
                clear hK K
                try simp only [Act.put, List.setIfInBounds_toArray, List.set_cons_zero, List.set_cons_succ]
                refine rg_take (i := 9) (v := (.bool false)) (by simp only [List.getElem?_toArray, List.getElem?_cons_succ, List.getElem?_cons_zero]; rfl) (by kernel_rfl) (by exact fun _ _ _ h => h) (by rfl) ?rb9 hF ?sb9
                case rb9 => (intro W hW; clear hW; go_simp; try with_reducible rfl)
                try simp only [Act.put, List.setIfInBounds_toArray, List.set_cons_zero, List.set_cons_succ]
                refine rg_take (i := 10) (v := (.bool false)) (by simp only [List.getElem?_toArray, List.getElem?_cons_succ, List.getElem?_cons_zero]; rfl) (by kernel_rfl) (by exact fun _ _ _ h => h) (by rfl) ?rb10 hF ?sb10
                case rb10 => (intro W hW; clear hW; go_simp; try with_reducible rfl)
                try simp only [Act.put, List.setIfInBounds_toArray, List.set_cons_zero, List.set_cons_succ]
                refine rg_take (i := 11) (v := (.bool false)) (by simp only [List.getElem?_toArray, List.getElem?_cons_succ, List.getElem?_cons_zero]; rfl) (by kernel_rfl) (by exact fun _ _ _ h => h) (by rfl) ?rb11 hF ?sb11
                case rb11 => (intro W hW; clear hW; go_simp; try with_reducible rfl)
                try simp only [Act.put, List.setIfInBounds_toArray, List.set_cons_zero, List.set_cons_succ]
                refine rg_take (i := 12) (v := ?vb12) (by simp only [List.getElem?_toArray, List.getElem?_cons_succ, List.getElem?_cons_zero]; rfl) (by kernel_rfl) (by exact fun _ _ _ h => h) (by rfl) ?rb12 hF ?sb12
                case rb12 => (intro W hW; clear hW; go_simp; try with_reducible rfl)
                try simp only [Act.put, List.setIfInBounds_toArray, List.set_cons_zero, List.set_cons_succ]
                refine rg_take (i := 13) (v := (.bool true)) (by simp only [List.getElem?_toArray, List.getElem?_cons_succ, List.getElem?_cons_zero]; rfl) (by kernel_rfl) (by exact fun _ _ _ h => h) (by rfl) ?rb13 hF ?sb13
                case rb13 => (intro W hW; clear hW; go_simp; try with_reducible rfl)
                try simp only [Act.put, List.setIfInBounds_toArray, List.set_cons_zero, List.set_cons_succ]
                refine rg_take (i := 14) (v := (.bool true)) (by simp only [List.getElem?_toArray, List.getElem?_cons_succ, List.getElem?_cons_zero]; rfl) (by kernel_rfl) (by exact fun _ _ _ h => h) (by rfl) ?rb14 hF ?sb14
                case rb14 => (intro W hW; clear hW; go_simp; try with_reducible rfl)
                try simp only [Act.put, List.setIfInBounds_toArray, List.set_cons_zero, List.set_cons_succ]
                refine rg_take (i := 15) (v := ?vb15) (by simp only [List.getElem?_toArray, List.getElem?_cons_succ, List.getElem?_cons_zero]; rfl) (by kernel_rfl) (by exact fun _ _ _ h => h) (by rfl) ?rb15 hF ?sb15
                case rb15 => (intro W hW; clear hW; go_simp; try with_reducible rfl)
                try simp only [Act.put, List.setIfInBounds_toArray, List.set_cons_zero, List.set_cons_succ]
                refine rg_take (i := 16) (v := ?vb16) (by simp only [List.getElem?_toArray, List.getElem?_cons_succ, List.getElem?_cons_zero]; rfl) (by kernel_rfl) (by exact fun _ _ _ h => h) (by rfl) ?rb16 hF ?sb16
                case rb16 => (intro W9 hW; have z : W9.cell? ⟨W.heap.size, 3, none⟩ = some (.slice (some ⟨g, o, none⟩) l.length c) := (HB5.out.no hW).cell 3; go_simp; try with_reducible rfl)
                try simp only [Act.put, List.setIfInBounds_toArray, List.set_cons_zero, List.set_cons_succ]
                refine rg_take (i := 17) (v := ?vb17) (by simp only [List.getElem?_toArray, List.getElem?_cons_succ, List.getElem?_cons_zero]; rfl) (by kernel_rfl) (by exact fun _ _ _ h => h) (by rfl) ?rb17 hF ?sb17
                case rb17 => (intro W hW; clear hW; go_simp; try with_reducible rfl)
                try simp only [Act.put, List.setIfInBounds_toArray, List.set_cons_zero, List.set_cons_succ]
                refine rg_take (i := 18) (v := (.int .i64 (i : Int))) (by simp only [List.getElem?_toArray, List.getElem?_cons_succ, List.getElem?_cons_zero]; rfl) (by kernel_rfl) (by exact fun _ _ _ h => h) (by rfl) ?rb18 hF ?sb18
                case rb18 => (intro W hW; clear hW; go_simp; (try with_reducible rfl); all_goals exact HWI.out)
                try simp only [Act.put, List.setIfInBounds_toArray, List.set_cons_zero, List.set_cons_succ]
                refine rg_take (i := 19) (v := ?vb19) (by simp only [List.getElem?_toArray, List.getElem?_cons_succ, List.getElem?_cons_zero]; rfl) (by kernel_rfl) (by exact fun _ _ _ h => h) (by rfl) ?rb19 hF ?sb19
                case rb19 => (intro W hW; clear hW; go_simp; try with_reducible rfl)
                try simp only [Act.put, List.setIfInBounds_toArray, List.set_cons_zero, List.set_cons_succ]
                refine rg_take (i := 20) (v := ?vb20) (by simp only [List.getElem?_toArray, List.getElem?_cons_succ, List.getElem?_cons_zero]; rfl) (by kernel_rfl) (by exact fun _ _ _ h => h) (by rfl) ?rb20 hF ?sb20
                case rb20 => (intro W hW; clear hW; go_simp; try with_reducible rfl)
                try simp only [Act.put, List.setIfInBounds_toArray, List.set_cons_zero, List.set_cons_succ]
                refine rg_take (i := 21) (v := ?vb21) (by simp only [List.getElem?_toArray, List.getElem?_cons_succ, List.getElem?_cons_zero]; rfl) (by kernel_rfl) (by exact fun _ _ _ h => h) (by rfl) ?rb21 hF ?sb21
                case rb21 => (intro W9 hW; have z : W9.cell? ⟨g, o + i * 6, none⟩ = some (.int .i64 id2) := HZ.out W9 hW; go_simp; try with_reducible rfl)
                try simp only [Act.put, List.setIfInBounds_toArray, List.set_cons_zero, List.set_cons_succ]
                refine rg_take (i := 22) (v := ?vb22) (by simp only [List.getElem?_toArray, List.getElem?_cons_succ, List.getElem?_cons_zero]; rfl) (by kernel_rfl) (by exact fun _ _ _ h => h) (by rfl) ?rb22 hF ?sb22
                case rb22 => (intro W hW; clear hW; go_simp; try with_reducible rfl)
                try simp only [Act.put, List.setIfInBounds_toArray, List.set_cons_zero, List.set_cons_succ]
                refine rg_take (i := 23) (v := ?vb23) (by simp only [List.getElem?_toArray, List.getElem?_cons_succ, List.getElem?_cons_zero]; rfl) (by kernel_rfl) (by exact fun _ _ _ h => h) (by rfl) ?rb23 hF ?sb23
                case rb23 => (intro W9 hW; have z : W9.cell? ⟨wr.heap.size, 0, none⟩ = some (.int .i64 id) := (HG.out.no hW).cell 0; go_simp; try with_reducible rfl)
                try simp only [Act.put, List.setIfInBounds_toArray, List.set_cons_zero, List.set_cons_succ]
                refine rg_take (i := 24) (v := (.bool false)) (by simp only [List.getElem?_toArray, List.getElem?_cons_succ, List.getElem?_cons_zero]; rfl) (by kernel_rfl) (by exact fun _ _ _ h => h) (by rfl) ?rb24 hF ?sb24
                case rb24 => (intro W hW; clear hW; go_simp; try with_reducible rfl)
                try simp only [Act.put, List.setIfInBounds_toArray, List.set_cons_zero, List.set_cons_succ]
                refine rg_take (i := 25) (v := (.bool false)) (by simp only [List.getElem?_toArray, List.getElem?_cons_succ, List.getElem?_cons_zero]; rfl) (by kernel_rfl) (by exact fun _ _ _ h => h) (by rfl) ?rb25 hF ?sb25
                case rb25 => (intro W hW; clear hW; go_simp; try with_reducible rfl)
                try simp only [Act.put, List.setIfInBounds_toArray, List.set_cons_zero, List.set_cons_succ]
                refine rg_take (i := 26) (v := (.bool false)) (by simp only [List.getElem?_toArray, List.getElem?_cons_succ, List.getElem?_cons_zero]; rfl) (by kernel_rfl) (by exact fun _ _ _ h => h) (by rfl) ?rb26 hF ?sb26
                case rb26 => (intro W hW; clear hW; go_simp; try with_reducible rfl)
                try simp only [Act.put, List.setIfInBounds_toArray, List.set_cons_zero, List.set_cons_succ]
                refine rg_done (by kernel_rfl) ?_
                go_wp2
                go_roundw
                case rel => exact ⟨(i + 1) + 1, by omega, by go_num, HK.out.trans (HK5.out.trans hF), HGD.out⟩
                case measure => simp [intOf]; omega
              · have d3 : id ≤ id2 := by omega
                have HX := Lib.hid (show R = false by
                  rw [HR.out, decide_eq_false_iff_not, HM.out]
                  rintro ⟨_, _, _, q⟩
                  have q := HST.out.1 (by rw [← gsL_take]; exact goodL_take q _)
                  exact absurd q.2.2.2 (by rw [HLI.out]; exact m3))
                clear m2 m3
                refine rg_begin (fun W2 => Kp No w5 W2) 27 (by kernel_rfl) ?_
                refine rg_take (i := 0) (v := (.agg #[.int .i64 id, .int .i64 hol, .string ⟨path.toArray⟩, .int .i64 mode, .slice B st.length d, .int .i64 term])) (by simp only [List.getElem?_toArray, List.getElem?_cons_zero]; rfl) (by kernel_rfl) (by exact fun _ _ _ h => h) (by rfl) ?rc0 hF ?sc0
                case rc0 => (intro W9 hW; have z0 : W9.cell? ⟨wr.heap.size, 0, none⟩ = some (.int .i64 id) := (HG.out.no hW).cell 0; have z1 : W9.cell? ⟨wr.heap.size, 1, none⟩ = some (.int .i64 hol) := (HG.out.no hW).cell 1; have z2 : W9.cell? ⟨wr.heap.size, 2, none⟩ = some (.string ⟨path.toArray⟩) := (HG.out.no hW).cell 2; have z3 : W9.cell? ⟨wr.heap.size, 3, none⟩ = some (.int .i64 mode) := (HG.out.no hW).cell 3; have z4 : W9.cell? ⟨wr.heap.size, 4, none⟩ = some (.slice B st.length d) := (HG.out.no hW).cell 4; have z5 : W9.cell? ⟨wr.heap.size, 5, none⟩ = some (.int .i64 term) := (HG.out.no hW).cell 5; go_simp; try with_reducible rfl)
                try simp only [Act.put, List.setIfInBounds_toArray, List.set_cons_zero, List.set_cons_succ]
                refine rg_one (i := 1) (oi := ?oc1) ?ac1 ?bc1 ?cc1 ?dc1
                case ac1 => (simp only [List.getElem?_toArray, List.getElem?_cons_succ, List.getElem?_cons_zero]; rfl)
                case bc1 => kernel_rfl
                case cc1 => rfl
                intro K hK
                (go_simp; refine (pm _ hF).mono ?_; rintro e w6 ⟨rfl, k6⟩)
                refine rg_use hK (k6) (fun hF => ?_)
                clear hK K
                try simp only [Act.put, List.setIfInBounds_toArray, List.set_cons_zero, List.set_cons_succ]
                refine rg_take (i := 2) (v := (.bool false)) (by simp only [List.getElem?_toArray, List.getElem?_cons_succ, List.getElem?_cons_zero]; rfl) (by kernel_rfl) (by exact fun _ _ _ h => h) (by rfl) ?rc2 hF ?sc2
                case rc2 => (intro W hW; clear hW; go_simp; try with_reducible rfl)
                try simp only [Act.put, List.setIfInBounds_toArray, List.set_cons_zero, List.set_cons_succ]
                refine rg_take (i := 3) (v := (.bool false)) (by simp only [List.getElem?_toArray, List.getElem?_cons_succ, List.getElem?_cons_zero]; rfl) (by kernel_rfl) (by exact fun _ _ _ h => h) (by rfl) ?rc3 hF ?sc3
                case rc3 => (intro W hW; clear hW; go_simp; try with_reducible rfl)
                try simp only [Act.put, List.setIfInBounds_toArray, List.set_cons_zero, List.set_cons_succ]
                refine rg_take (i := 4) (v := ?vc4) (by simp only [List.getElem?_toArray, List.getElem?_cons_succ, List.getElem?_cons_zero]; rfl) (by kernel_rfl) (by exact fun _ _ _ h => h) (by rfl) ?rc4 hF ?sc4
                case rc4 => (intro W hW; clear hW; go_simp; try with_reducible rfl)
                try simp only [Act.put, List.setIfInBounds_toArray, List.set_cons_zero, List.set_cons_succ]
                refine rg_take (i := 5) (v := ?vc5) (by simp only [List.getElem?_toArray, List.getElem?_cons_succ, List.getElem?_cons_zero]; rfl) (by kernel_rfl) (by exact fun _ _ _ h => h) (by rfl) ?rc5 hF ?sc5
                case rc5 => (intro W9 hW; have z : W9.cell? ⟨wr.heap.size, 4, none⟩ = some (.slice B st.length d) := (HG.out.no hW).cell 4; go_simp; try with_reducible rfl)
                try simp only [Act.put, List.setIfInBounds_toArray, List.set_cons_zero, List.set_cons_succ]
                refine rg_take (i := 7) (v := ?vc7) (by simp only [List.getElem?_toArray, List.getElem?_cons_succ, List.getElem?_cons_zero]; rfl) (by kernel_rfl) (by exact fun _ _ _ h => h) (by rfl) ?rc7 hF ?sc7
                case rc7 => (intro W hW; clear hW; go_simp; try with_reducible rfl)
                try simp only [Act.put, List.setIfInBounds_toArray, List.set_cons_zero, List.set_cons_succ]
                refine rg_take (i := 8) (v := ?vc8) (by simp only [List.getElem?_toArray, List.getElem?_cons_succ, List.getElem?_cons_zero]; rfl) (by kernel_rfl) (by exact fun _ _ _ h => h) (by rfl) ?rc8 hF ?sc8
                case rc8 => (intro W9 hW; have z : W9.cell? ⟨W.heap.size, 0, none⟩ = some (.int .i64 n) := (HB5.out.no hW).cell 0; go_simp; try with_reducible rfl)
                try simp only [Act.put, List.setIfInBounds_toArray, List.set_cons_zero, List.set_cons_succ]
                refine rg_one (i := 6) (oi := ?oc6) ?ac6 ?bc6 ?cc6 ?dc6
                case ac6 => (simp only [List.getElem?_toArray, List.getElem?_cons_succ, List.getElem?_cons_zero]; rfl)
                case bc6 => kernel_rfl
                case cc6 => rfl
                intro K hK
                (go_simp; refine (pn _ hF).mono ?_; rintro e w7 ⟨rfl, k7⟩)
                refine rg_use hK (k7) (fun hF => ?_)
                clear hK K
                try simp only [Act.put, List.setIfInBounds_toArray, List.set_cons_zero, List.set_cons_succ]
                refine rg_take (i := 9) (v := (.bool false)) (by simp only [List.getElem?_toArray, List.getElem?_cons_succ, List.getElem?_cons_zero]; rfl) (by kernel_rfl) (by exact fun _ _ _ h => h) (by rfl) ?rc9 hF ?sc9
                case rc9 => (intro W hW; clear hW; go_simp; try with_reducible rfl)
                try simp only [Act.put, List.setIfInBounds_toArray, List.set_cons_zero, List.set_cons_succ]
                refine rg_take (i := 10) (v := (.bool false)) (by simp only [List.getElem?_toArray, List.getElem?_cons_succ, List.getElem?_cons_zero]; rfl) (by kernel_rfl) (by exact fun _ _ _ h => h) (by rfl) ?rc10 hF ?sc10
                case rc10 => (intro W hW; clear hW; go_simp; try with_reducible rfl)
                try simp only [Act.put, List.setIfInBounds_toArray, List.set_cons_zero, List.set_cons_succ]
                refine rg_take (i := 11) (v := (.bool false)) (by simp only [List.getElem?_toArray, List.getElem?_cons_succ, List.getElem?_cons_zero]; rfl) (by kernel_rfl) (by exact fun _ _ _ h => h) (by rfl) ?rc11 hF ?sc11
                case rc11 => (intro W hW; clear hW; go_simp; try with_reducible rfl)
                try simp only [Act.put, List.setIfInBounds_toArray, List.set_cons_zero, List.set_cons_succ]
                refine rg_take (i := 12) (v := ?vc12) (by simp only [List.getElem?_toArray, List.getElem?_cons_succ, List.getElem?_cons_zero]; rfl) (by kernel_rfl) (by exact fun _ _ _ h => h) (by rfl) ?rc12 hF ?sc12
                case rc12 => (intro W hW; clear hW; go_simp; try with_reducible rfl)
                try simp only [Act.put, List.setIfInBounds_toArray, List.set_cons_zero, List.set_cons_succ]
                refine rg_take (i := 13) (v := (.bool true)) (by simp only [List.getElem?_toArray, List.getElem?_cons_succ, List.getElem?_cons_zero]; rfl) (by kernel_rfl) (by exact fun _ _ _ h => h) (by rfl) ?rc13 hF ?sc13
                case rc13 => (intro W hW; clear hW; go_simp; try with_reducible rfl)
                try simp only [Act.put, List.setIfInBounds_toArray, List.set_cons_zero, List.set_cons_succ]
                refine rg_take (i := 14) (v := (.bool true)) (by simp only [List.getElem?_toArray, List.getElem?_cons_succ, List.getElem?_cons_zero]; rfl) (by kernel_rfl) (by exact fun _ _ _ h => h) (by rfl) ?rc14 hF ?sc14
                case rc14 => (intro W hW; clear hW; go_simp; try with_reducible rfl)
                try simp only [Act.put, List.setIfInBounds_toArray, List.set_cons_zero, List.set_cons_succ]
                refine rg_take (i := 15) (v := ?vc15) (by simp only [List.getElem?_toArray, List.getElem?_cons_succ, List.getElem?_cons_zero]; rfl) (by kernel_rfl) (by exact fun _ _ _ h => h) (by rfl) ?rc15 hF ?sc15
                case rc15 => (intro W hW; clear hW; go_simp; try with_reducible rfl)
                try simp only [Act.put, List.setIfInBounds_toArray, List.set_cons_zero, List.set_cons_succ]
                refine rg_take (i := 16) (v := ?vc16) (by simp only [List.getElem?_toArray, List.getElem?_cons_succ, List.getElem?_cons_zero]; rfl) (by kernel_rfl) (by exact fun _ _ _ h => h) (by rfl) ?rc16 hF ?sc16
                case rc16 => (intro W9 hW; have z : W9.cell? ⟨W.heap.size, 3, none⟩ = some (.slice (some ⟨g, o, none⟩) l.length c) := (HB5.out.no hW).cell 3; go_simp; try with_reducible rfl)
                try simp only [Act.put, List.setIfInBounds_toArray, List.set_cons_zero, List.set_cons_succ]
                refine rg_take (i := 17) (v := ?vc17) (by simp only [List.getElem?_toArray, List.getElem?_cons_succ, List.getElem?_cons_zero]; rfl) (by kernel_rfl) (by exact fun _ _ _ h => h) (by rfl) ?rc17 hF ?sc17
                case rc17 => (intro W hW; clear hW; go_simp; try with_reducible rfl)
                try simp only [Act.put, List.setIfInBounds_toArray, List.set_cons_zero, List.set_cons_succ]
                refine rg_take (i := 18) (v := (.int .i64 (i : Int))) (by simp only [List.getElem?_toArray, List.getElem?_cons_succ, List.getElem?_cons_zero]; rfl) (by kernel_rfl) (by exact fun _ _ _ h => h) (by rfl) ?rc18 hF ?sc18
                case rc18 => (intro W hW; clear hW; go_simp; (try with_reducible rfl); all_goals exact HWI.out)
                try simp only [Act.put, List.setIfInBounds_toArray, List.set_cons_zero, List.set_cons_succ]
                refine rg_take (i := 19) (v := ?vc19) (by simp only [List.getElem?_toArray, List.getElem?_cons_succ, List.getElem?_cons_zero]; rfl) (by kernel_rfl) (by exact fun _ _ _ h => h) (by rfl) ?rc19 hF ?sc19
                case rc19 => (intro W hW; clear hW; go_simp; try with_reducible rfl)
                try simp only [Act.put, List.setIfInBounds_toArray, List.set_cons_zero, List.set_cons_succ]
                refine rg_take (i := 20) (v := ?vc20) (by simp only [List.getElem?_toArray, List.getElem?_cons_succ, List.getElem?_cons_zero]; rfl) (by kernel_rfl) (by exact fun _ _ _ h => h) (by rfl) ?rc20 hF ?sc20
                case rc20 => (intro W hW; clear hW; go_simp; try with_reducible rfl)
                try simp only [Act.put, List.setIfInBounds_toArray, List.set_cons_zero, List.set_cons_succ]
                refine rg_take (i := 21) (v := ?vc21) (by simp only [List.getElem?_toArray, List.getElem?_cons_succ, List.getElem?_cons_zero]; rfl) (by kernel_rfl) (by exact fun _ _ _ h => h) (by rfl) ?rc21 hF ?sc21
                case rc21 => (intro W9 hW; have z : W9.cell? ⟨g, o + i * 6, none⟩ = some (.int .i64 id2) := HZ.out W9 hW; go_simp; try with_reducible rfl)
                try simp only [Act.put, List.setIfInBounds_toArray, List.set_cons_zero, List.set_cons_succ]
                refine rg_take (i := 22) (v := ?vc22) (by simp only [List.getElem?_toArray, List.getElem?_cons_succ, List.getElem?_cons_zero]; rfl) (by kernel_rfl) (by exact fun _ _ _ h => h) (by rfl) ?rc22 hF ?sc22
                case rc22 => (intro W hW; clear hW; go_simp; try with_reducible rfl)
                try simp only [Act.put, List.setIfInBounds_toArray, List.set_cons_zero, List.set_cons_succ]
                refine rg_take (i := 23) (v := ?vc23) (by simp only [List.getElem?_toArray, List.getElem?_cons_succ, List.getElem?_cons_zero]; rfl) (by kernel_rfl) (by exact fun _ _ _ h => h) (by rfl) ?rc23 hF ?sc23
                case rc23 => (intro W9 hW; have z : W9.cell? ⟨wr.heap.size, 0, none⟩ = some (.int .i64 id) := (HG.out.no hW).cell 0; go_simp; try with_reducible rfl)
                try simp only [Act.put, List.setIfInBounds_toArray, List.set_cons_zero, List.set_cons_succ]
                refine rg_take (i := 24) (v := (.bool true)) (by simp only [List.getElem?_toArray, List.getElem?_cons_succ, List.getElem?_cons_zero]; rfl) (by kernel_rfl) (by exact fun _ _ _ h => h) (by rfl) ?rc24 hF ?sc24
                case rc24 => (intro W hW; clear hW; go_simp; try with_reducible rfl)
                try simp only [Act.put, List.setIfInBounds_toArray, List.set_cons_zero, List.set_cons_succ]
                refine rg_take (i := 25) (v := (.bool true)) (by simp only [List.getElem?_toArray, List.getElem?_cons_succ, List.getElem?_cons_zero]; rfl) (by kernel_rfl) (by exact fun _ _ _ h => h) (by rfl) ?rc25 hF ?sc25
                case rc25 => (intro W hW; clear hW; go_simp; try with_reducible rfl)
                try simp only [Act.put, List.setIfInBounds_toArray, List.set_cons_zero, List.set_cons_succ]
                refine rg_take (i := 26) (v := (.bool true)) (by simp only [List.getElem?_toArray, List.getElem?_cons_succ, List.getElem?_cons_zero]; rfl) (by kernel_rfl) (by exact fun _ _ _ h => h) (by rfl) ?rc26 hF ?sc26
                case rc26 => (intro W hW; clear hW; go_simp; try with_reducible rfl)
                try simp only [Act.put, List.setIfInBounds_toArray, List.set_cons_zero, List.set_cons_succ]
                refine rg_done (by kernel_rfl) ?_
                go_wp2
                go_ret
                exact ⟨ret_bool rfl (by rw [HX.out]), HKW.out.trans (HK5.out.trans hF)⟩
          · have d2 : n ≤ nw := by omega
            have HX := Lib.hid (show R = false by
              rw [HR.out, decide_eq_false_iff_not, HM.out]
              rintro ⟨_, _, _, q⟩
              have q := HST.out.1 (by rw [← gsL_take]; exact goodL_take q _)
              exact absurd q.2.2.1 m2)
            clear m2
            refine rg_begin (fun W2 => Kp No w5 W2) 27 (by kernel_rfl) ?_
            refine rg_take (i := 0) (v := (.agg #[.int .i64 id, .int .i64 hol, .string ⟨path.toArray⟩, .int .i64 mode, .slice B st.length d, .int .i64 term])) (by simp only [List.getElem?_toArray, List.getElem?_cons_zero]; rfl) (by kernel_rfl) (by exact fun _ _ _ h => h) (by rfl) ?rd0 hF ?sd0
            case rd0 => (intro W9 hW; have z0 : W9.cell? ⟨wr.heap.size, 0, none⟩ = some (.int .i64 id) := (HG.out.no hW).cell 0; have z1 : W9.cell? ⟨wr.heap.size, 1, none⟩ = some (.int .i64 hol) := (HG.out.no hW).cell 1; have z2 : W9.cell? ⟨wr.heap.size, 2, none⟩ = some (.string ⟨path.toArray⟩) := (HG.out.no hW).cell 2; have z3 : W9.cell? ⟨wr.heap.size, 3, none⟩ = some (.int .i64 mode) := (HG.out.no hW).cell 3; have z4 : W9.cell? ⟨wr.heap.size, 4, none⟩ = some (.slice B st.length d) := (HG.out.no hW).cell 4; have z5 : W9.cell? ⟨wr.heap.size, 5, none⟩ = some (.int .i64 term) := (HG.out.no hW).cell 5; go_simp; try with_reducible rfl)
            try simp only [Act.put, List.setIfInBounds_toArray, List.set_cons_zero, List.set_cons_succ]
            refine rg_one (i := 1) (oi := ?od1) ?ad1 ?bd1 ?cd1 ?dd1
            case ad1 => (simp only [List.getElem?_toArray, List.getElem?_cons_succ, List.getElem?_cons_zero]; rfl)
            case bd1 => kernel_rfl
            case cd1 => rfl
            intro K hK
            (go_simp; refine (pm _ hF).mono ?_; rintro e w6 ⟨rfl, k6⟩)
            refine rg_use hK (k6) (fun hF => ?_)
            clear hK K
            try simp only [Act.put, List.setIfInBounds_toArray, List.set_cons_zero, List.set_cons_succ]
            refine rg_take (i := 2) (v := (.bool false)) (by simp only [List.getElem?_toArray, List.getElem?_cons_succ, List.getElem?_cons_zero]; rfl) (by kernel_rfl) (by exact fun _ _ _ h => h) (by rfl) ?rd2 hF ?sd2
            case rd2 => (intro W hW; clear hW; go_simp; try with_reducible rfl)
            try simp only [Act.put, List.setIfInBounds_toArray, List.set_cons_zero, List.set_cons_succ]
            refine rg_take (i := 3) (v := (.bool false)) (by simp only [List.getElem?_toArray, List.getElem?_cons_succ, List.getElem?_cons_zero]; rfl) (by kernel_rfl) (by exact fun _ _ _ h => h) (by rfl) ?rd3 hF ?sd3
            case rd3 => (intro W hW; clear hW; go_simp; try with_reducible rfl)
            try simp only [Act.put, List.setIfInBounds_toArray, List.set_cons_zero, List.set_cons_succ]
            refine rg_take (i := 4) (v := ?vd4) (by simp only [List.getElem?_toArray, List.getElem?_cons_succ, List.getElem?_cons_zero]; rfl) (by kernel_rfl) (by exact fun _ _ _ h => h) (by rfl) ?rd4 hF ?sd4
            case rd4 => (intro W hW; clear hW; go_simp; try with_reducible rfl)
            try simp only [Act.put, List.setIfInBounds_toArray, List.set_cons_zero, List.set_cons_succ]
            refine rg_take (i := 5) (v := ?vd5) (by simp only [List.getElem?_toArray, List.getElem?_cons_succ, List.getElem?_cons_zero]; rfl) (by kernel_rfl) (by exact fun _ _ _ h => h) (by rfl) ?rd5 hF ?sd5
            case rd5 => (intro W9 hW; have z : W9.cell? ⟨wr.heap.size, 4, none⟩ = some (.slice B st.length d) := (HG.out.no hW).cell 4; go_simp; try with_reducible rfl)
            try simp only [Act.put, List.setIfInBounds_toArray, List.set_cons_zero, List.set_cons_succ]
            refine rg_take (i := 7) (v := ?vd7) (by simp only [List.getElem?_toArray, List.getElem?_cons_succ, List.getElem?_cons_zero]; rfl) (by kernel_rfl) (by exact fun _ _ _ h => h) (by rfl) ?rd7 hF ?sd7
            case rd7 => (intro W hW; clear hW; go_simp; try with_reducible rfl)
            try simp only [Act.put, List.setIfInBounds_toArray, List.set_cons_zero, List.set_cons_succ]
            refine rg_take (i := 8) (v := ?vd8) (by simp only [List.getElem?_toArray, List.getElem?_cons_succ, List.getElem?_cons_zero]; rfl) (by kernel_rfl) (by exact fun _ _ _ h => h) (by rfl) ?rd8 hF ?sd8
            case rd8 => (intro W9 hW; have z : W9.cell? ⟨W.heap.size, 0, none⟩ = some (.int .i64 n) := (HB5.out.no hW).cell 0; go_simp; try with_reducible rfl)
            try simp only [Act.put, List.setIfInBounds_toArray, List.set_cons_zero, List.set_cons_succ]
            refine rg_one (i := 6) (oi := ?od6) ?ad6 ?bd6 ?cd6 ?dd6
            case ad6 => (simp only [List.getElem?_toArray, List.getElem?_cons_succ, List.getElem?_cons_zero]; rfl)
            case bd6 => kernel_rfl
            case cd6 => rfl
            intro K hK
            (go_simp; refine (pn _ hF).mono ?_; rintro e w7 ⟨rfl, k7⟩)
            refine rg_use hK (k7) (fun hF => ?_)
            clear hK K
            try simp only [Act.put, List.setIfInBounds_toArray, List.set_cons_zero, List.set_cons_succ]
            refine rg_take (i := 9) (v := (.bool true)) (by simp only [List.getElem?_toArray, List.getElem?_cons_succ, List.getElem?_cons_zero]; rfl) (by kernel_rfl) (by exact fun _ _ _ h => h) (by rfl) ?rd9 hF ?sd9
            case rd9 => (intro W hW; clear hW; go_simp; try with_reducible rfl)
            try simp only [Act.put, List.setIfInBounds_toArray, List.set_cons_zero, List.set_cons_succ]
            refine rg_take (i := 10) (v := (.bool true)) (by simp only [List.getElem?_toArray, List.getElem?_cons_succ, List.getElem?_cons_zero]; rfl) (by kernel_rfl) (by exact fun _ _ _ h => h) (by rfl) ?rd10 hF ?sd10
            case rd10 => (intro W hW; clear hW; go_simp; try with_reducible rfl)
            try simp only [Act.put, List.setIfInBounds_toArray, List.set_cons_zero, List.set_cons_succ]
            refine rg_take (i := 11) (v := (.bool true)) (by simp only [List.getElem?_toArray, List.getElem?_cons_succ, List.getElem?_cons_zero]; rfl) (by kernel_rfl) (by exact fun _ _ _ h => h) (by rfl) ?rd11 hF ?sd11
            case rd11 => (intro W hW; clear hW; go_simp; try with_reducible rfl)
            try simp only [Act.put, List.setIfInBounds_toArray, List.set_cons_zero, List.set_cons_succ]
            refine rg_pass (i := 12) (by simp only [List.getElem?_toArray, List.getElem?_cons_succ, List.getElem?_cons_zero]; rfl) (by kernel_rfl) (by exact fun _ _ _ h => h) (by rfl) hF ?_
            try simp only [Act.put, List.setIfInBounds_toArray, List.set_cons_zero, List.set_cons_succ]
            refine rg_pass (i := 13) (by simp only [List.getElem?_toArray, List.getElem?_cons_succ, List.getElem?_cons_zero]; rfl) (by kernel_rfl) (by exact fun _ _ _ h => h) (by rfl) hF ?_
            try simp only [Act.put, List.setIfInBounds_toArray, List.set_cons_zero, List.set_cons_succ]
            refine rg_pass (i := 14) (by simp only [List.getElem?_toArray, List.getElem?_cons_succ, List.getElem?_cons_zero]; rfl) (by kernel_rfl) (by exact fun _ _ _ h => h) (by rfl) hF ?_
            try simp only [Act.put, List.setIfInBounds_toArray, List.set_cons_zero, List.set_cons_succ]
            refine rg_pass (i := 15) (by simp only [List.getElem?_toArray, List.getElem?_cons_succ, List.getElem?_cons_zero]; rfl) (by kernel_rfl) (by exact fun _ _ _ h => h) (by rfl) hF ?_
            try simp only [Act.put, List.setIfInBounds_toArray, List.set_cons_zero, List.set_cons_succ]
            refine rg_pass (i := 16) (by simp only [List.getElem?_toArray, List.getElem?_cons_succ, List.getElem?_cons_zero]; rfl) (by kernel_rfl) (by exact fun _ _ _ h => h) (by rfl) hF ?_
            try simp only [Act.put, List.setIfInBounds_toArray, List.set_cons_zero, List.set_cons_succ]
            refine rg_pass (i := 17) (by simp only [List.getElem?_toArray, List.getElem?_cons_succ, List.getElem?_cons_zero]; rfl) (by kernel_rfl) (by exact fun _ _ _ h => h) (by rfl) hF ?_
            try simp only [Act.put, List.setIfInBounds_toArray, List.set_cons_zero, List.set_cons_succ]
            refine rg_pass (i := 18) (by simp only [List.getElem?_toArray, List.getElem?_cons_succ, List.getElem?_cons_zero]; rfl) (by kernel_rfl) (by exact fun _ _ _ h => h) (by rfl) hF ?_
            try simp only [Act.put, List.setIfInBounds_toArray, List.set_cons_zero, List.set_cons_succ]
            refine rg_pass (i := 19) (by simp only [List.getElem?_toArray, List.getElem?_cons_succ, List.getElem?_cons_zero]; rfl) (by kernel_rfl) (by exact fun _ _ _ h => h) (by rfl) hF ?_
            try simp only [Act.put, List.setIfInBounds_toArray, List.set_cons_zero, List.set_cons_succ]
            refine rg_pass (i := 20) (by simp only [List.getElem?_toArray, List.getElem?_cons_succ, List.getElem?_cons_zero]; rfl) (by kernel_rfl) (by exact fun _ _ _ h => h) (by rfl) hF ?_
            try simp only [Act.put, List.setIfInBounds_toArray, List.set_cons_zero, List.set_cons_succ]
            refine rg_pass (i := 21) (by simp only [List.getElem?_toArray, List.getElem?_cons_succ, List.getElem?_cons_zero]; rfl) (by kernel_rfl) (by exact fun _ _ _ h => h) (by rfl) hF ?_
            try simp only [Act.put, List.setIfInBounds_toArray, List.set_cons_zero, List.set_cons_succ]
            refine rg_pass (i := 22) (by simp only [List.getElem?_toArray, List.getElem?_cons_succ, List.getElem?_cons_zero]; rfl) (by kernel_rfl) (by exact fun _ _ _ h => h) (by rfl) hF ?_
            try simp only [Act.put, List.setIfInBounds_toArray, List.set_cons_zero, List.set_cons_succ]
            refine rg_pass (i := 23) (by simp only [List.getElem?_toArray, List.getElem?_cons_succ, List.getElem?_cons_zero]; rfl) (by kernel_rfl) (by exact fun _ _ _ h => h) (by rfl) hF ?_
            try simp only [Act.put, List.setIfInBounds_toArray, List.set_cons_zero, List.set_cons_succ]
            refine rg_pass (i := 24) (by simp only [List.getElem?_toArray, List.getElem?_cons_succ, List.getElem?_cons_zero]; rfl) (by kernel_rfl) (by exact fun _ _ _ h => h) (by rfl) hF ?_
            try simp only [Act.put, List.setIfInBounds_toArray, List.set_cons_zero, List.set_cons_succ]
            refine rg_pass (i := 25) (by simp only [List.getElem?_toArray, List.getElem?_cons_succ, List.getElem?_cons_zero]; rfl) (by kernel_rfl) (by exact fun _ _ _ h => h) (by rfl) hF ?_
            try simp only [Act.put, List.setIfInBounds_toArray, List.set_cons_zero, List.set_cons_succ]
            refine rg_take (i := 26) (v := (.bool true)) (by simp only [List.getElem?_toArray, List.getElem?_cons_succ, List.getElem?_cons_zero]; rfl) (by kernel_rfl) (by exact fun _ _ _ h => h) (by rfl) ?rd26 hF ?sd26
            case rd26 => (intro W hW; clear hW; go_simp; try with_reducible rfl)
            try simp only [Act.put, List.setIfInBounds_toArray, List.set_cons_zero, List.set_cons_succ]
            refine rg_done (by kernel_rfl) ?_
            go_wp2
            go_ret
            exact ⟨ret_bool rfl (by rw [HX.out]), HKW.out.trans (HK5.out.trans hF)⟩
        · rw [decide_eq_false m1] at pm
          have HX := Lib.hid (show R = false by
            rw [HR.out, decide_eq_false_iff_not, HM.out]
            rintro ⟨_, _, _, q⟩
            have q := HST.out.1 (by rw [← gsL_take]; exact goodL_take q _)
            exact m1 q.2.1)
          clear m1 pn
          refine rg_begin (fun W2 => Kp No w5 W2) 27 (by kernel_rfl) ?_
          refine rg_take (i := 0) (v := (.agg #[.int .i64 id, .int .i64 hol, .string ⟨path.toArray⟩, .int .i64 mode, .slice B st.length d, .int .i64 term])) (by simp only [List.getElem?_toArray, List.getElem?_cons_zero]; rfl) (by kernel_rfl) (by exact fun _ _ _ h => h) (by rfl) ?re0 hF ?se0
          case re0 => (intro W9 hW; have z0 : W9.cell? ⟨wr.heap.size, 0, none⟩ = some (.int .i64 id) := (HG.out.no hW).cell 0; have z1 : W9.cell? ⟨wr.heap.size, 1, none⟩ = some (.int .i64 hol) := (HG.out.no hW).cell 1; have z2 : W9.cell? ⟨wr.heap.size, 2, none⟩ = some (.string ⟨path.toArray⟩) := (HG.out.no hW).cell 2; have z3 : W9.cell? ⟨wr.heap.size, 3, none⟩ = some (.int .i64 mode) := (HG.out.no hW).cell 3; have z4 : W9.cell? ⟨wr.heap.size, 4, none⟩ = some (.slice B st.length d) := (HG.out.no hW).cell 4; have z5 : W9.cell? ⟨wr.heap.size, 5, none⟩ = some (.int .i64 term) := (HG.out.no hW).cell 5; go_simp; try with_reducible rfl)
          try simp only [Act.put, List.setIfInBounds_toArray, List.set_cons_zero, List.set_cons_succ]
          refine rg_one (i := 1) (oi := ?oe1) ?ae1 ?be1 ?ce1 ?de1
          case ae1 => (simp only [List.getElem?_toArray, List.getElem?_cons_succ, List.getElem?_cons_zero]; rfl)
          case be1 => kernel_rfl
          case ce1 => rfl
          intro K hK
          (go_simp; refine (pm _ hF).mono ?_; rintro e w6 ⟨rfl, k6⟩)
          refine rg_use hK (k6) (fun hF => ?_)
          clear hK K
          try simp only [Act.put, List.setIfInBounds_toArray, List.set_cons_zero, List.set_cons_succ]
          refine rg_take (i := 2) (v := (.bool true)) (by simp only [List.getElem?_toArray, List.getElem?_cons_succ, List.getElem?_cons_zero]; rfl) (by kernel_rfl) (by exact fun _ _ _ h => h) (by rfl) ?re2 hF ?se2
          case re2 => (intro W hW; clear hW; go_simp; try with_reducible rfl)
          try simp only [Act.put, List.setIfInBounds_toArray, List.set_cons_zero, List.set_cons_succ]
          refine rg_take (i := 3) (v := (.bool true)) (by simp only [List.getElem?_toArray, List.getElem?_cons_succ, List.getElem?_cons_zero]; rfl) (by kernel_rfl) (by exact fun _ _ _ h => h) (by rfl) ?re3 hF ?se3
          case re3 => (intro W hW; clear hW; go_simp; try with_reducible rfl)
          try simp only [Act.put, List.setIfInBounds_toArray, List.set_cons_zero, List.set_cons_succ]
          refine rg_pass (i := 4) (by simp only [List.getElem?_toArray, List.getElem?_cons_succ, List.getElem?_cons_zero]; rfl) (by kernel_rfl) (by exact fun _ _ _ h => h) (by rfl) hF ?_
          try simp only [Act.put, List.setIfInBounds_toArray, List.set_cons_zero, List.set_cons_succ]
          refine rg_pass (i := 5) (by simp only [List.getElem?_toArray, List.getElem?_cons_succ, List.getElem?_cons_zero]; rfl) (by kernel_rfl) (by exact fun _ _ _ h => h) (by rfl) hF ?_
          try simp only [Act.put, List.setIfInBounds_toArray, List.set_cons_zero, List.set_cons_succ]
          refine rg_pass (i := 6) (by simp only [List.getElem?_toArray, List.getElem?_cons_succ, List.getElem?_cons_zero]; rfl) (by kernel_rfl) (by exact fun _ _ _ h => h) (by rfl) hF ?_
          try simp only [Act.put, List.setIfInBounds_toArray, List.set_cons_zero, List.set_cons_succ]
          refine rg_pass (i := 7) (by simp only [List.getElem?_toArray, List.getElem?_cons_succ, List.getElem?_cons_zero]; rfl) (by kernel_rfl) (by exact fun _ _ _ h => h) (by rfl) hF ?_
          try simp only [Act.put, List.setIfInBounds_toArray, List.set_cons_zero, List.set_cons_succ]
          refine rg_pass (i := 8) (by simp only [List.getElem?_toArray, List.getElem?_cons_succ, List.getElem?_cons_zero]; rfl) (by kernel_rfl) (by exact fun _ _ _ h => h) (by rfl) hF ?_
          try simp only [Act.put, List.setIfInBounds_toArray, List.set_cons_zero, List.set_cons_succ]
          refine rg_pass (i := 9) (by simp only [List.getElem?_toArray, List.getElem?_cons_succ, List.getElem?_cons_zero]; rfl) (by kernel_rfl) (by exact fun _ _ _ h => h) (by rfl) hF ?_
          try simp only [Act.put, List.setIfInBounds_toArray, List.set_cons_zero, List.set_cons_succ]
          refine rg_take (i := 10) (v := (.bool true)) (by simp only [List.getElem?_toArray, List.getElem?_cons_succ, List.getElem?_cons_zero]; rfl) (by kernel_rfl) (by exact fun _ _ _ h => h) (by rfl) ?re10 hF ?se10
          case re10 => (intro W hW; clear hW; go_simp; try with_reducible rfl)
          try simp only [Act.put, List.setIfInBounds_toArray, List.set_cons_zero, List.set_cons_succ]
          refine rg_take (i := 11) (v := (.bool true)) (by simp only [List.getElem?_toArray, List.getElem?_cons_succ, List.getElem?_cons_zero]; rfl) (by kernel_rfl) (by exact fun _ _ _ h => h) (by rfl) ?re11 hF ?se11
          case re11 => (intro W hW; clear hW; go_simp; try with_reducible rfl)
          try simp only [Act.put, List.setIfInBounds_toArray, List.set_cons_zero, List.set_cons_succ]
          refine rg_pass (i := 12) (by simp only [List.getElem?_toArray, List.getElem?_cons_succ, List.getElem?_cons_zero]; rfl) (by kernel_rfl) (by exact fun _ _ _ h => h) (by rfl) hF ?_
          try simp only [Act.put, List.setIfInBounds_toArray, List.set_cons_zero, List.set_cons_succ]
          refine rg_pass (i := 13) (by simp only [List.getElem?_toArray, List.getElem?_cons_succ, List.getElem?_cons_zero]; rfl) (by kernel_rfl) (by exact fun _ _ _ h => h) (by rfl) hF ?_
          try simp only [Act.put, List.setIfInBounds_toArray, List.set_cons_zero, List.set_cons_succ]
          refine rg_pass (i := 14) (by simp only [List.getElem?_toArray, List.getElem?_cons_succ, List.getElem?_cons_zero]; rfl) (by kernel_rfl) (by exact fun _ _ _ h => h) (by rfl) hF ?_
          try simp only [Act.put, List.setIfInBounds_toArray, List.set_cons_zero, List.set_cons_succ]
          refine rg_pass (i := 15) (by simp only [List.getElem?_toArray, List.getElem?_cons_succ, List.getElem?_cons_zero]; rfl) (by kernel_rfl) (by exact fun _ _ _ h => h) (by rfl) hF ?_
          try simp only [Act.put, List.setIfInBounds_toArray, List.set_cons_zero, List.set_cons_succ]
          refine rg_pass (i := 16) (by simp only [List.getElem?_toArray, List.getElem?_cons_succ, List.getElem?_cons_zero]; rfl) (by kernel_rfl) (by exact fun _ _ _ h => h) (by rfl) hF ?_
          try simp only [Act.put, List.setIfInBounds_toArray, List.set_cons_zero, List.set_cons_succ]
          refine rg_pass (i := 17) (by simp only [List.getElem?_toArray, List.getElem?_cons_succ, List.getElem?_cons_zero]; rfl) (by kernel_rfl) (by exact fun _ _ _ h => h) (by rfl) hF ?_
          try simp only [Act.put, List.setIfInBounds_toArray, List.set_cons_zero, List.set_cons_succ]
          refine rg_pass (i := 18) (by simp only [List.getElem?_toArray, List.getElem?_cons_succ, List.getElem?_cons_zero]; rfl) (by kernel_rfl) (by exact fun _ _ _ h => h) (by rfl) hF ?_
          try simp only [Act.put, List.setIfInBounds_toArray, List.set_cons_zero, List.set_cons_succ]
          refine rg_pass (i := 19) (by simp only [List.getElem?_toArray, List.getElem?_cons_succ, List.getElem?_cons_zero]; rfl) (by kernel_rfl) (by exact fun _ _ _ h => h) (by rfl) hF ?_
          try simp only [Act.put, List.setIfInBounds_toArray, List.set_cons_zero, List.set_cons_succ]
          refine rg_pass (i := 20) (by simp only [List.getElem?_toArray, List.getElem?_cons_succ, List.getElem?_cons_zero]; rfl) (by kernel_rfl) (by exact fun _ _ _ h => h) (by rfl) hF ?_
          try simp only [Act.put, List.setIfInBounds_toArray, List.set_cons_zero, List.set_cons_succ]
          refine rg_pass (i := 21) (by simp only [List.getElem?_toArray, List.getElem?_cons_succ, List.getElem?_cons_zero]; rfl) (by kernel_rfl) (by exact fun _ _ _ h => h) (by rfl) hF ?_
          try simp only [Act.put, List.setIfInBounds_toArray, List.set_cons_zero, List.set_cons_succ]
          refine rg_pass (i := 22) (by simp only [List.getElem?_toArray, List.getElem?_cons_succ, List.getElem?_cons_zero]; rfl) (by kernel_rfl) (by exact fun _ _ _ h => h) (by rfl) hF ?_
          try simp only [Act.put, List.setIfInBounds_toArray, List.set_cons_zero, List.set_cons_succ]
          refine rg_pass (i := 23) (by simp only [List.getElem?_toArray, List.getElem?_cons_succ, List.getElem?_cons_zero]; rfl) (by kernel_rfl) (by exact fun _ _ _ h => h) (by rfl) hF ?_
          try simp only [Act.put, List.setIfInBounds_toArray, List.set_cons_zero, List.set_cons_succ]
          refine rg_pass (i := 24) (by simp only [List.getElem?_toArray, List.getElem?_cons_succ, List.getElem?_cons_zero]; rfl) (by kernel_rfl) (by exact fun _ _ _ h => h) (by rfl) hF ?_
          try simp only [Act.put, List.setIfInBounds_toArray, List.set_cons_zero, List.set_cons_succ]
          refine rg_pass (i := 25) (by simp only [List.getElem?_toArray, List.getElem?_cons_succ, List.getElem?_cons_zero]; rfl) (by kernel_rfl) (by exact fun _ _ _ h => h) (by rfl) hF ?_
          try simp only [Act.put, List.setIfInBounds_toArray, List.set_cons_zero, List.set_cons_succ]
          refine rg_take (i := 26) (v := (.bool true)) (by simp only [List.getElem?_toArray, List.getElem?_cons_succ, List.getElem?_cons_zero]; rfl) (by kernel_rfl) (by exact fun _ _ _ h => h) (by rfl) ?re26 hF ?se26
          case re26 => (intro W hW; clear hW; go_simp; try with_reducible rfl)
          try simp only [Act.put, List.setIfInBounds_toArray, List.set_cons_zero, List.set_cons_succ]
          refine rg_done (by kernel_rfl) ?_
          go_wp2
          go_ret
          exact ⟨ret_bool rfl (by rw [HX.out]), HKW.out.trans (HK5.out.trans hF)⟩
      · have hk1 : ¬ (j : Int) < (l.length : Int) := by omega
        have HX := Lib.hid (show R = true by
          rw [HR.out, decide_eq_true_iff, HM.out]
          have h := HT.out
          rw [List.take_of_length_le (by omega)] at h
          exact ⟨B0.out, BL.out, B6.out, h⟩)
        clear hlt
        go_wp2
        go_ret
        exact ⟨ret_bool rfl (by rw [HX.out]), HH.out.trans HK.out⟩
end Go.Proofs.Ytifdceofglocdaa
