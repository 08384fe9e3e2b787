/- May it be a record: the document's Rec by contract. No condition beyond what each theorem states. -/
import Derived.Test.YtifdceofglocdaaB26
import Derived.Test.YtifdceofglocdaaB34
namespace Go.Proofs.Ytifdceofglocdaa
open Go Go.RowKit Go.PlainAid

theorem mayU_0 {r : Rcd} (h : mayR r) : usedR r = r := by
  unfold mayR at h
  by_cases k1 : r.kind = 1
  · rw [if_pos k1] at h; rw [usedR_1 k1, h.2]
  rw [if_neg k1] at h
  by_cases k2 : r.kind = 2
  · rw [if_pos k2] at h; rw [usedR_2 k2, h.2]
  rw [if_neg k2] at h
  by_cases k3 : r.kind = 3
  · rw [if_pos k3] at h; rw [usedR_3 (.inl k3), h.2]
  rw [if_neg k3] at h
  by_cases k4 : r.kind = 4
  · rw [if_pos k4] at h; rw [usedR_3 (.inr k4), h.2.2]
  rw [if_neg k4] at h
  by_cases k5 : r.kind = 5
  · rw [if_pos k5] at h; rw [usedR_5 k5, h.2.2.2]
  rw [if_neg k5] at h
  by_cases k6 : r.kind = 6
  · rw [if_pos k6] at h; rw [usedR_6 k6, h.2]
  rw [if_neg k6] at h
  by_cases k7 : r.kind = 7
  · rw [if_pos k7] at h; rw [usedR_0 (by omega), h]
  rw [if_neg k7] at h
  exact h.elim
theorem usedR_eq (r s : Rcd) (h : r = s) : r.kind = s.kind ∧ r.grant = s.grant ∧ r.id = s.id ∧ r.stamp = s.stamp ∧ r.next = s.next ∧ r.boots = s.boots ∧ r.longest = s.longest := (rcd_eq r s).1 h
theorem mayU_1 {r : Rcd} (u : usedR r = r) (h : r.kind = 1) : mayR r ↔ headsB r.next r.boots := by
  rw [usedR_1 h] at u
  obtain ⟨_, u1, u2, u3, u4, u5, u6⟩ := usedR_eq _ _ u
  rw [mayR_1 h]
  exact ⟨fun q => q.1, fun q => ⟨q, u6.symm, u1.symm, u2.symm, u3.symm⟩⟩
theorem mayU_2 {r : Rcd} (u : usedR r = r) (h : r.kind = 2) : mayR r ↔ termI r.longest := by
  rw [usedR_2 h] at u
  obtain ⟨_, u1, u2, u3, u4, u5, u6⟩ := usedR_eq _ _ u
  rw [mayR_2 h]
  exact ⟨fun q => q.1, fun q => ⟨q, u4.symm, u5.symm, u1.symm, u2.symm, u3.symm⟩⟩
theorem mayU_3 {r : Rcd} (u : usedR r = r) (h : r.kind = 3) : mayR r ↔ mayG r.grant := by
  rw [usedR_3 (.inl h)] at u
  obtain ⟨_, u1, u2, u3, u4, u5, u6⟩ := usedR_eq _ _ u
  rw [mayR_3 h]
  exact ⟨fun q => q.1, fun q => ⟨q, ⟨u4.symm, u5.symm, u6.symm⟩, u2.symm, u3.symm⟩⟩
theorem mayU_4 {r : Rcd} (u : usedR r = r) (h : r.kind = 4) : mayR r ↔ mayG r.grant ∧ newestS r.grant.stamp = r.grant.id := by
  rw [usedR_3 (.inr h)] at u
  obtain ⟨_, u1, u2, u3, u4, u5, u6⟩ := usedR_eq _ _ u
  rw [mayR_4 h]
  exact ⟨fun q => ⟨q.2.1, q.1⟩, fun q => ⟨q.2, q.1, ⟨u4.symm, u5.symm, u6.symm⟩, u2.symm, u3.symm⟩⟩
theorem mayU_5 {r : Rcd} (u : usedR r = r) (h : r.kind = 5) : mayR r ↔ cntI r.id ∧ r.stamp ≠ [] ∧ validS r.stamp = true := by
  rw [usedR_5 h] at u
  obtain ⟨_, u1, u2, u3, u4, u5, u6⟩ := usedR_eq _ _ u
  rw [mayR_5 h]
  exact ⟨fun q => ⟨q.1, q.2.1.2, q.2.1.1⟩, fun q => ⟨q.1, ⟨q.2.2, q.2.1⟩, ⟨u4.symm, u5.symm, u6.symm⟩, u1.symm⟩⟩
theorem mayU_6 {r : Rcd} (u : usedR r = r) (h : r.kind = 6) : mayR r ↔ cntI r.id := by
  rw [usedR_6 h] at u
  obtain ⟨_, u1, u2, u3, u4, u5, u6⟩ := usedR_eq _ _ u
  rw [mayR_6 h]
  exact ⟨fun q => q.1, fun q => ⟨q, u3.symm, ⟨u4.symm, u5.symm, u6.symm⟩, u1.symm⟩⟩
theorem mayU_7 {r : Rcd} (u : usedR r = r) (h : r.kind = 7) : mayR r := by
  rw [usedR_0 (by omega)] at u
  obtain ⟨_, u1, u2, u3, u4, u5, u6⟩ := usedR_eq _ _ u
  rw [mayR_7 h]
  exact ⟨⟨u4.symm, u5.symm, u6.symm⟩, u1.symm, u2.symm, u3.symm⟩
theorem usedR_len (r : Rcd) : (usedR r).grant.stamp.length ≤ r.grant.stamp.length ∧ (usedR r).stamp.length ≤ r.stamp.length := by
  unfold usedR
  repeat' split
  all_goals exact ⟨by first | exact Nat.le_refl _ | exact Nat.zero_le _, by first | exact Nat.le_refl _ | exact Nat.zero_le _⟩
theorem sub_range {w : World} {g : Nat} {xs ys : List Value} {i : Nat} (h : w.rangeAt g 0 xs) (hy : ∀ j v, ys[j]? = some v → xs[i + j]? = some v) : w.rangeAt g i ys := fun j v hv => by
  have := h (i + j) v (hy j v hv)
  rwa [Nat.zero_add] at this
set_option maxRecDepth 100000 in
set_option maxHeartbeats 8000000 in
theorem rrec_any (r : Rcd) (gv rv : Value) (W : World) (hg : ArgInts W gv r.grant.stamp) (hr : ArgInts W rv r.stamp) (lg : ShG maxLen r.grant) (ls : r.stamp.length ≤ maxLen) (hp63 : r.grant.path.length < 9223372036854775807) :
    Calls Try.prog 57 #[.agg (rC r gv rv).toArray] W fun e w' => e = .returned (.bool (decide (mayR r))) ∧ Kp No W w' := by
  obtain ⟨R, hR⟩ : ∃ R, R = decide (mayR r) := ⟨_, rfl⟩
  rw [← hR]
  have HR := Lib.hid hR; clear hR
  have M1 := Lib.hid (mayU_1 (r := r)); have M2 := Lib.hid (mayU_2 (r := r)); have M3 := Lib.hid (mayU_3 (r := r)); have M4 := Lib.hid (mayU_4 (r := r)); have M5 := Lib.hid (mayU_5 (r := r)); have M6 := Lib.hid (mayU_6 (r := r)); have M7 := Lib.hid (mayU_7 (r := r))
  have M0 := Lib.hid (mayU_0 (r := r))
  have hlu := usedR_len r
  obtain ⟨A, c, rfl, _⟩ := ints_of _ _ _ hg
  obtain ⟨A2, c2, rfl, _⟩ := ints_of _ _ _ hr
  obtain ⟨C, hC⟩ : ∃ C, C = rC r (.slice A r.grant.stamp.length c) (.slice A2 r.stamp.length c2) := ⟨_, rfl⟩
  obtain ⟨w1, hw1⟩ : ∃ w1, w1 = W.alloc (.cells C.toArray 32) := ⟨_, rfl⟩
  have HB1 := Lib.hid (show Bk w1 W.heap.size 32 C by rw [hw1]; exact Bk.new' rfl rfl)
  have HK1 := Lib.hid (show Kp No W w1 by rw [hw1]; exact (Kp.refl No W).alloc _)
  have HW := Lib.hid hw1
  have hcl : C.length = 12 := by rw [hC]; rfl
  have HI := Lib.hid (show (Try.prog.info? 32).map (·.size) = some C.length by rw [hcl]; kernel_rfl)
  have HU := Lib.hid Try.underlying32
  have HIG := Lib.hid grant_size
  have HUG := Lib.hid Try.underlying30
  have pu := fun W2 (kk : Kp No w1 W2) => (used_any r (.slice A r.grant.stamp.length c) (.slice A2 r.stamp.length c2) W2 (hg.no (HK1.out.trans kk)) (hr.no (HK1.out.trans kk))).mono fun e w' ⟨gu, ru, h1, h2, h3, h4⟩ => (⟨gu, ru, h1, h2.no h4, h3.no h4, kk.trans h4⟩ : ∃ gu ru, e = Ending.returned (.agg (rC (usedR r) gu ru).toArray) ∧ ArgInts w' gu (usedR r).grant.stamp ∧ ArgInts w' ru (usedR r).stamp ∧ Kp No w1 w')
  have ps := fun gu ru W2 (kk : Kp No w1 W2) (au : ArgInts W2 gu (usedR r).grant.stamp) (ar : ArgInts W2 ru (usedR r).stamp) => (rsameRec_any (usedR r) r gu ru (.slice A r.grant.stamp.length c) (.slice A2 r.stamp.length c2) W2 au ar (hg.no (HK1.out.trans kk)) (hr.no (HK1.out.trans kk)) (Nat.le_trans hlu.1 lg.2) (Nat.le_trans hlu.2 ls) lg.2 ls).mono fun e w' ⟨h1, h4⟩ => (⟨h1, kk.trans h4⟩ : e = Ending.returned (.bool (decide (usedR r = r))) ∧ Kp No w1 w')
  obtain ⟨D, hD⟩ : ∃ D, D = decide (usedR r = r) := ⟨_, rfl⟩
  rw [← hC] at pu ps
  rw [← hD] at ps
  have HD := Lib.hid hD
  have HC := Lib.hid hC
  have HLG := Lib.hid lg; have HLS := Lib.hid ls; have HHG := Lib.hid hg; have HHR := Lib.hid hr; have HP := Lib.hid hp63
  clear hw1 hD hcl hg hr lg ls hlu hp63
  rw [← hC]
  clear hC
  go_enter Try.func57, Try.ntmps57
  go_upto_region 1 with (fail)
  rw [← HW.out]
  clear HW
  have hF := (Kp.refl No w1).drew
  refine rg_begin (fun W2 => Kp No w1 W2) 5 (by kernel_rfl) ?_
  refine rg_take (i := 0) (v := ?vp0) (by simp only [List.getElem?_toArray, List.getElem?_cons_zero]; rfl) (by kernel_rfl) (by exact fun _ _ _ h => h) (by rfl) ?rp0 hF ?sp0
  case rp0 => (intro W9 hW; refine exec_load_mid W9 32 (.tmp 1) ?_ W.heap.size 0 ?_ C _ (bk_range (HB1.out.no hW)) HU.out ?_ HI.out; exact rfl; exact rfl; exact rfl)
  try simp only [Act.put, List.setIfInBounds_toArray, List.set_cons_zero, List.set_cons_succ]
  refine rg_take (i := 2) (v := ?vp2) (by simp only [List.getElem?_toArray, List.getElem?_cons_succ, List.getElem?_cons_zero]; rfl) (by kernel_rfl) (by exact fun _ _ _ h => h) (by rfl) ?rp2 hF ?sp2
  case rp2 => (intro W9 hW; refine exec_load_mid W9 32 (.tmp 1) ?_ W.heap.size 0 ?_ C _ (bk_range (HB1.out.no hW)) HU.out ?_ HI.out; exact rfl; exact rfl; exact rfl)
  try simp only [Act.put, List.setIfInBounds_toArray, List.set_cons_zero, List.set_cons_succ]
  refine rg_one (i := 1) (oi := ?op1) ?ap1 ?bp1 ?cp1 ?dp1
  case ap1 => (simp only [List.getElem?_toArray, List.getElem?_cons_succ, List.getElem?_cons_zero]; rfl)
  case bp1 => kernel_rfl
  case cp1 => rfl
  intro K hK
  (go_simp; refine (pu _ (Kp.refl No w1).drew).mono ?_; rintro e w2 ⟨gu, ru, rfl, au, ar, k2⟩)
  refine rg_use hK (k2) (fun hF => ?_)
  clear hK K
  try simp only [Act.put, List.setIfInBounds_toArray, List.set_cons_zero, List.set_cons_succ]
  refine rg_one (i := 3) (oi := ?op3) ?ap3 ?bp3 ?cp3 ?dp3
  case ap3 => (simp only [List.getElem?_toArray, List.getElem?_cons_succ, List.getElem?_cons_zero]; rfl)
  case bp3 => kernel_rfl
  case cp3 => rfl
  intro K hK
  (go_simp; refine (ps gu ru w2 k2 au ar).mono ?_; rintro e w3 ⟨rfl, k3⟩)
  refine rg_use hK (k3) (fun hF => ?_)
  clear hK K
  try simp only [Act.put, List.setIfInBounds_toArray, List.set_cons_zero, List.set_cons_succ]
  refine rg_take (i := 4) (v := ?vp4) (by simp only [List.getElem?_toArray, List.getElem?_cons_succ, List.getElem?_cons_zero]; rfl) (by kernel_rfl) (by exact fun _ _ _ h => h) (by rfl) ?rp4 hF ?sp4
  case rp4 => (intro W hW; clear hW; go_simp; try with_reducible rfl)
  try simp only [Act.put, List.setIfInBounds_toArray, List.set_cons_zero, List.set_cons_succ]
  refine rg_done (by kernel_rfl) ?_
  have HK3 := Lib.hid (HK1.out.trans k3)
  have HB3 := Lib.hid (HB1.out.no k3)
  clear hF pu ps k2 k3 au ar HU HI
  cases D with
  | false =>
    have HX := Lib.hid (show R = false by
      rw [HR.out, decide_eq_false_iff_not]
      exact fun h => (of_decide_eq_false HD.out.symm) (M0.out h))
    go_wp2
    go_ret
    exact ⟨ret_bool rfl (by rw [HX.out]), HK3.out⟩
  | true =>
  have HUR := Lib.hid (show usedR r = r from of_decide_eq_true HD.out.symm)
  obtain ⟨kind, ⟨gid, hol, path, mode, st, term⟩, id, stamp, next, boots, longest⟩ := r
  have HG0 := Lib.hid (show ArgInts W (.slice A st.length c) st from HHG.out)
  have HR0 := Lib.hid (show ArgInts W (.slice A2 stamp.length c2) stamp from HHR.out)
  have HC : Hid (C = [.int .i64 kind, .int .i64 gid, .int .i64 hol, .string ⟨path.toArray⟩, .int .i64 mode, .slice A st.length c, .int .i64 term, .int .i64 id, .slice A2 stamp.length c2, .int .i64 next, .int .i64 boots, .int .i64 longest]) := HC
  have HB4 := Lib.hid (show ∀ W2, Kp No w3 W2 → ∀ (j : Nat) u, ([.int .i64 kind, .int .i64 gid, .int .i64 hol, .string ⟨path.toArray⟩, .int .i64 mode, .slice A st.length c, .int .i64 term, .int .i64 id, .slice A2 stamp.length c2, .int .i64 next, .int .i64 boots, .int .i64 longest] : List Value)[j]? = some u → W2.cell? ⟨W.heap.size, j, none⟩ = some u from fun W2 kk j u hu => by
    rw [(HB3.out.no kk).cell, HC.out]; exact hu)
  obtain ⟨G, hG⟩ : ∃ G : List Value, G = [.int .i64 gid, .int .i64 hol, .string ⟨path.toArray⟩, .int .i64 mode, .slice A st.length c, .int .i64 term] := ⟨_, rfl⟩
  have hgl : G.length = 6 := by rw [hG]; rfl
  have HIG : Hid ((Try.prog.info? 30).map (·.size) = some G.length) := Lib.hid (by rw [hgl]; exact grant_size)
  have HRG := Lib.hid (show ∀ W2, Kp No w3 W2 → W2.rangeAt W.heap.size 1 G from fun W2 kk => sub_range (bk_range (HB3.out.no kk)) fun j v hv => by
    have hj : j < 6 := by rw [← hgl]; exact (List.getElem?_eq_some_iff.1 hv).1
    rw [hG] at hv
    rw [HC.out, Nat.add_comm, List.getElem?_cons_succ]
    match j, hj with
    | 0, _ => exact hv
    | 1, _ => exact hv
    | 2, _ => exact hv
    | 3, _ => exact hv
    | 4, _ => exact hv
    | 5, _ => exact hv)
  have pgr := fun W2 (kk : Kp No w3 W2) => (rGrant_any (⟨gid, hol, path, mode, st, term⟩, .slice A st.length c) W2 (HG0.out.no (HK3.out.trans kk)) HLG.out HP.out).mono fun e w' ⟨h1, h4⟩ => (⟨h1, kk.trans h4⟩ : e = Ending.returned (.bool (decide (mayG ⟨gid, hol, path, mode, st, term⟩))) ∧ Kp No w3 w')
  have pg3 : ∀ W2, Kp No w3 W2 → Calls Try.prog 49 #[.agg #[.int .i64 gid, .int .i64 hol, .string ⟨path.toArray⟩, .int .i64 mode, .slice A st.length c, .int .i64 term]] W2 fun e w' => e = Ending.returned (.bool (decide (mayG ⟨gid, hol, path, mode, st, term⟩))) ∧ Kp No w3 w' := pgr
  have pg4 : ∀ W2, Kp No w3 W2 → Calls Try.prog 49 #[.agg G.toArray] W2 fun e w' => e = Ending.returned (.bool (decide (mayG ⟨gid, hol, path, mode, st, term⟩))) ∧ Kp No w3 w' := by rw [hG]; exact pgr
  have pn := fun W2 (kk : Kp No w3 W2) => rlast_any (.slice A st.length c) st W2 (HG0.out.no (HK3.out.trans kk)) HLG.out.2
  have pv := fun W2 (kk : Kp No w3 W2) => rvalidS_any (.slice A2 stamp.length c2) stamp W2 (HR0.out.no (HK3.out.trans kk)) HLS.out
  have HS0 := Lib.hid (show (¬ stamp.length = 0 → stamp ≠ []) ∧ (stamp.length = 0 → stamp = []) from ⟨fun h e => h (by rw [e]; rfl), List.eq_nil_of_length_eq_zero⟩)
  clear hG hgl pgr HC HB1 HK1
  by_cases e1 : kind = 1
  case pos =>
    subst e1
    have z0 : w3.cell? ⟨W.heap.size, 0, none⟩ = some (.int .i64 1) := HB4.out w3 (Kp.refl _ _) 0 _ rfl
    have z9 : w3.cell? ⟨W.heap.size, 9, none⟩ = some (.int .i64 next) := HB4.out w3 (Kp.refl _ _) 9 _ rfl
    have z10 : w3.cell? ⟨W.heap.size, 10, none⟩ = some (.int .i64 boots) := HB4.out w3 (Kp.refl _ _) 10 _ rfl
    by_cases n1 : 1 ≤ next
    case neg =>
      have HX := Lib.hid (show R = false by rw [HR.out, decide_eq_false_iff_not]; intro hm; exact n1 ((M1.out HUR.out rfl).1 hm).1)
      have dd : decide (1 ≤ next) = false := decide_eq_false n1
      go_wp2
      go_ret
      exact ⟨ret_bool rfl (by rw [HX.out]), HK3.out⟩
    by_cases n2 : next ≤ 1099511627777
    case neg =>
      have HX := Lib.hid (show R = false by rw [HR.out, decide_eq_false_iff_not]; intro hm; exact n2 ((M1.out HUR.out rfl).1 hm).2.1)
      have dd : decide (next ≤ 1099511627777) = false := decide_eq_false n2
      go_wp2
      go_ret
      exact ⟨ret_bool rfl (by rw [HX.out]), HK3.out⟩
    by_cases n3 : 0 ≤ boots
    case neg =>
      have HX := Lib.hid (show R = false by rw [HR.out, decide_eq_false_iff_not]; intro hm; exact n3 ((M1.out HUR.out rfl).1 hm).2.2.1)
      have dd : decide (0 ≤ boots) = false := decide_eq_false n3
      go_wp2
      go_ret
      exact ⟨ret_bool rfl (by rw [HX.out]), HK3.out⟩
    by_cases n4 : boots ≤ 1099511627776
    case neg =>
      have HX := Lib.hid (show R = false by rw [HR.out, decide_eq_false_iff_not]; intro hm; exact n4 ((M1.out HUR.out rfl).1 hm).2.2.2)
      have dd : decide (boots ≤ 1099511627776) = false := decide_eq_false n4
      go_wp2
      go_ret
      exact ⟨ret_bool rfl (by rw [HX.out]), HK3.out⟩
    have HX := Lib.hid (show R = true by rw [HR.out, decide_eq_true_iff]; exact (M1.out HUR.out rfl).2 ⟨n1, n2, n3, n4⟩)
    go_wp2
    go_ret
    exact ⟨ret_bool rfl (by rw [HX.out]), HK3.out⟩
  by_cases e2 : kind = 2
  case pos =>
    subst e2
    clear e1
    have z0 : w3.cell? ⟨W.heap.size, 0, none⟩ = some (.int .i64 2) := HB4.out w3 (Kp.refl _ _) 0 _ rfl
    have z11 : w3.cell? ⟨W.heap.size, 11, none⟩ = some (.int .i64 longest) := HB4.out w3 (Kp.refl _ _) 11 _ rfl
    have HX := Lib.hid (show R = decide (termI longest) by rw [HR.out]; exact decide_eq_decide.2 (M2.out HUR.out rfl))
    go_wp2_with fail
    refine (rlegal_any _ _).mono ?_
    rintro e w4 ⟨rfl, rfl⟩
    rw [← HX.out]
    go_wp2
    go_ret
    exact ⟨ret_bool rfl rfl, HK3.out⟩
  by_cases e3 : kind = 3
  case pos =>
    subst e3
    clear e1 e2
    have z0 : w3.cell? ⟨W.heap.size, 0, none⟩ = some (.int .i64 3) := HB4.out w3 (Kp.refl _ _) 0 _ rfl
    have z1 : w3.cell? ⟨W.heap.size, 1, none⟩ = some (.int .i64 gid) := HB4.out w3 (Kp.refl _ _) 1 _ rfl
    have z2 : w3.cell? ⟨W.heap.size, 2, none⟩ = some (.int .i64 hol) := HB4.out w3 (Kp.refl _ _) 2 _ rfl
    have z3 : w3.cell? ⟨W.heap.size, 3, none⟩ = some (.string ⟨path.toArray⟩) := HB4.out w3 (Kp.refl _ _) 3 _ rfl
    have z4 : w3.cell? ⟨W.heap.size, 4, none⟩ = some (.int .i64 mode) := HB4.out w3 (Kp.refl _ _) 4 _ rfl
    have z5 : w3.cell? ⟨W.heap.size, 5, none⟩ = some (.slice A st.length c) := HB4.out w3 (Kp.refl _ _) 5 _ rfl
    have z6 : w3.cell? ⟨W.heap.size, 6, none⟩ = some (.int .i64 term) := HB4.out w3 (Kp.refl _ _) 6 _ rfl
    have HX := Lib.hid (show R = decide (mayG ⟨gid, hol, path, mode, st, term⟩) by rw [HR.out]; exact decide_eq_decide.2 (M3.out HUR.out rfl))
    have pg := pg3 _ (Kp.refl No w3)
    go_wp2_with fail
    refine pg.mono ?_
    rintro e w4 ⟨rfl, k4⟩
    rw [← HX.out]
    have HK4 := Lib.hid (HK3.out.trans k4)
    clear k4
    go_wp2
    go_ret
    exact ⟨ret_bool rfl rfl, HK4.out⟩
  by_cases e4 : kind = 4
  case pos =>
    subst e4
    clear e1 e2 e3
    have z0 : w3.cell? ⟨W.heap.size, 0, none⟩ = some (.int .i64 4) := HB4.out w3 (Kp.refl _ _) 0 _ rfl
    have pg := pg4
    go_upto_region 11 with (fail)
    have hF := Kp.refl No w3
    replace hF := hF.drew
    by_cases hmg : mayG ⟨gid, hol, path, mode, st, term⟩
    case neg =>
      have HMG := Lib.hid hmg
      have HX := Lib.hid (show R = false by rw [HR.out, decide_eq_false_iff_not]; intro hm; exact HMG.out ((M4.out HUR.out rfl).1 hm).1)
      clear hmg
      refine rg_begin (fun W2 => Kp No w3 W2) 14 (by kernel_rfl) ?_
      refine rg_take (i := 0) (v := ?vq0) (by simp only [List.getElem?_toArray, List.getElem?_cons_zero]; rfl) (by kernel_rfl) (by exact fun _ _ _ h => h) (by rfl) ?rq0 hF ?sq0
      case rq0 => (intro W hW; clear hW; go_simp; try with_reducible rfl)
      try simp only [Act.put, List.setIfInBounds_toArray, List.set_cons_zero, List.set_cons_succ]
      refine rg_take (i := 1) (v := ?vq1) (by simp only [List.getElem?_toArray, List.getElem?_cons_succ, List.getElem?_cons_zero]; rfl) (by kernel_rfl) (by exact fun _ _ _ h => h) (by rfl) ?rq1 hF ?sq1
      case rq1 => (intro W9 hW; refine exec_load_mid W9 30 (.tmp 42) ?_ W.heap.size 1 ?_ G _ (HRG.out W9 hW) HUG.out ?_ HIG.out; exact rfl; exact rfl; exact rfl)
      try simp only [Act.put, List.setIfInBounds_toArray, List.set_cons_zero, List.set_cons_succ]
      refine rg_one (i := 2) (oi := ?oq2) ?aq2 ?bq2 ?cq2 ?dq2
      case aq2 => (simp only [List.getElem?_toArray, List.getElem?_cons_succ, List.getElem?_cons_zero]; rfl)
      case bq2 => kernel_rfl
      case cq2 => rfl
      intro K hK
      (go_simp; refine (pg _ (Kp.refl No w3).drew).mono ?_; rintro e w4 ⟨rfl, k4⟩; rw [decide_eq_false HMG.out])
      refine rg_use hK (k4) (fun hF => ?_)
      clear hK K
      try simp only [Act.put, List.setIfInBounds_toArray, List.set_cons_zero, List.set_cons_succ]
      refine rg_take (i := 3) (v := ?vq3) (by simp only [List.getElem?_toArray, List.getElem?_cons_succ, List.getElem?_cons_zero]; rfl) (by kernel_rfl) (by exact fun _ _ _ h => h) (by rfl) ?rq3 hF ?sq3
      case rq3 => (intro W hW; clear hW; go_simp; try with_reducible rfl)
      try simp only [Act.put, List.setIfInBounds_toArray, List.set_cons_zero, List.set_cons_succ]
      refine rg_pass (i := 4) (by simp only [List.getElem?_toArray, List.getElem?_cons_succ, List.getElem?_cons_zero]; rfl) (by kernel_rfl) (by exact fun _ _ _ h => h) (by rfl) hF ?_
      try simp only [Act.put, List.setIfInBounds_toArray, List.set_cons_zero, List.set_cons_succ]
      refine rg_pass (i := 5) (by simp only [List.getElem?_toArray, List.getElem?_cons_succ, List.getElem?_cons_zero]; rfl) (by kernel_rfl) (by exact fun _ _ _ h => h) (by rfl) hF ?_
      try simp only [Act.put, List.setIfInBounds_toArray, List.set_cons_zero, List.set_cons_succ]
      refine rg_pass (i := 6) (by simp only [List.getElem?_toArray, List.getElem?_cons_succ, List.getElem?_cons_zero]; rfl) (by kernel_rfl) (by exact fun _ _ _ h => h) (by rfl) hF ?_
      try simp only [Act.put, List.setIfInBounds_toArray, List.set_cons_zero, List.set_cons_succ]
      refine rg_pass (i := 7) (by simp only [List.getElem?_toArray, List.getElem?_cons_succ, List.getElem?_cons_zero]; rfl) (by kernel_rfl) (by exact fun _ _ _ h => h) (by rfl) hF ?_
      try simp only [Act.put, List.setIfInBounds_toArray, List.set_cons_zero, List.set_cons_succ]
      refine rg_pass (i := 8) (by simp only [List.getElem?_toArray, List.getElem?_cons_succ, List.getElem?_cons_zero]; rfl) (by kernel_rfl) (by exact fun _ _ _ h => h) (by rfl) hF ?_
      try simp only [Act.put, List.setIfInBounds_toArray, List.set_cons_zero, List.set_cons_succ]
      refine rg_pass (i := 9) (by simp only [List.getElem?_toArray, List.getElem?_cons_succ, List.getElem?_cons_zero]; rfl) (by kernel_rfl) (by exact fun _ _ _ h => h) (by rfl) hF ?_
      try simp only [Act.put, List.setIfInBounds_toArray, List.set_cons_zero, List.set_cons_succ]
      refine rg_pass (i := 10) (by simp only [List.getElem?_toArray, List.getElem?_cons_succ, List.getElem?_cons_zero]; rfl) (by kernel_rfl) (by exact fun _ _ _ h => h) (by rfl) hF ?_
      try simp only [Act.put, List.setIfInBounds_toArray, List.set_cons_zero, List.set_cons_succ]
      refine rg_pass (i := 11) (by simp only [List.getElem?_toArray, List.getElem?_cons_succ, List.getElem?_cons_zero]; rfl) (by kernel_rfl) (by exact fun _ _ _ h => h) (by rfl) hF ?_
      try simp only [Act.put, List.setIfInBounds_toArray, List.set_cons_zero, List.set_cons_succ]
      refine rg_take (i := 12) (v := ?vq12) (by simp only [List.getElem?_toArray, List.getElem?_cons_succ, List.getElem?_cons_zero]; rfl) (by kernel_rfl) (by exact fun _ _ _ h => h) (by rfl) ?rq12 hF ?sq12
      case rq12 => (intro W hW; clear hW; go_simp; try with_reducible rfl)
      try simp only [Act.put, List.setIfInBounds_toArray, List.set_cons_zero, List.set_cons_succ]
      refine rg_take (i := 13) (v := ?vq13) (by simp only [List.getElem?_toArray, List.getElem?_cons_succ, List.getElem?_cons_zero]; rfl) (by kernel_rfl) (by exact fun _ _ _ h => h) (by rfl) ?rq13 hF ?sq13
      case rq13 => (intro W hW; clear hW; go_simp; try with_reducible rfl)
      try simp only [Act.put, List.setIfInBounds_toArray, List.set_cons_zero, List.set_cons_succ]
      refine rg_done (by kernel_rfl) ?_
      have HK4 := Lib.hid (HK3.out.trans k4)
      clear hF k4 pg pn
      go_wp2
      go_ret
      exact ⟨ret_bool rfl (by rw [HX.out]), HK4.out⟩
    have HMG := Lib.hid hmg
    clear hmg
    refine rg_begin (fun W2 => Kp No w3 W2) 14 (by kernel_rfl) ?_
    refine rg_take (i := 0) (v := ?vr0) (by simp only [List.getElem?_toArray, List.getElem?_cons_zero]; rfl) (by kernel_rfl) (by exact fun _ _ _ h => h) (by rfl) ?rr0 hF ?sr0
    case rr0 => (intro W hW; clear hW; go_simp; try with_reducible rfl)
    try simp only [Act.put, List.setIfInBounds_toArray, List.set_cons_zero, List.set_cons_succ]
    refine rg_take (i := 1) (v := ?vr1) (by simp only [List.getElem?_toArray, List.getElem?_cons_succ, List.getElem?_cons_zero]; rfl) (by kernel_rfl) (by exact fun _ _ _ h => h) (by rfl) ?rr1 hF ?sr1
    case rr1 => (intro W9 hW; refine exec_load_mid W9 30 (.tmp 42) ?_ W.heap.size 1 ?_ G _ (HRG.out W9 hW) HUG.out ?_ HIG.out; exact rfl; exact rfl; exact rfl)
    try simp only [Act.put, List.setIfInBounds_toArray, List.set_cons_zero, List.set_cons_succ]
    refine rg_one (i := 2) (oi := ?or2) ?ar2 ?br2 ?cr2 ?dr2
    case ar2 => (simp only [List.getElem?_toArray, List.getElem?_cons_succ, List.getElem?_cons_zero]; rfl)
    case br2 => kernel_rfl
    case cr2 => rfl
    intro K hK
    (go_simp; refine (pg _ (Kp.refl No w3).drew).mono ?_; rintro e w4 ⟨rfl, k4⟩; rw [decide_eq_true HMG.out])
    refine rg_use hK (k4) (fun hF => ?_)
    clear hK K
    try simp only [Act.put, List.setIfInBounds_toArray, List.set_cons_zero, List.set_cons_succ]
    refine rg_take (i := 3) (v := ?vr3) (by simp only [List.getElem?_toArray, List.getElem?_cons_succ, List.getElem?_cons_zero]; rfl) (by kernel_rfl) (by exact fun _ _ _ h => h) (by rfl) ?rr3 hF ?sr3
    case rr3 => (intro W hW; clear hW; go_simp; try with_reducible rfl)
    try simp only [Act.put, List.setIfInBounds_toArray, List.set_cons_zero, List.set_cons_succ]
    refine rg_take (i := 4) (v := ?vr4) (by simp only [List.getElem?_toArray, List.getElem?_cons_succ, List.getElem?_cons_zero]; rfl) (by kernel_rfl) (by exact fun _ _ _ h => h) (by rfl) ?rr4 hF ?sr4
    case rr4 => (intro W hW; clear hW; go_simp; try with_reducible rfl)
    try simp only [Act.put, List.setIfInBounds_toArray, List.set_cons_zero, List.set_cons_succ]
    refine rg_take (i := 5) (v := ?vr5) (by simp only [List.getElem?_toArray, List.getElem?_cons_succ, List.getElem?_cons_zero]; rfl) (by kernel_rfl) (by exact fun _ _ _ h => h) (by rfl) ?rr5 hF ?sr5
    case rr5 => (intro W hW; clear hW; go_simp; try with_reducible rfl)
    try simp only [Act.put, List.setIfInBounds_toArray, List.set_cons_zero, List.set_cons_succ]
    refine rg_take (i := 6) (v := ?vr6) (by simp only [List.getElem?_toArray, List.getElem?_cons_succ, List.getElem?_cons_zero]; rfl) (by kernel_rfl) (by exact fun _ _ _ h => h) (by rfl) ?rr6 hF ?sr6
    case rr6 => (intro W9 hW; have z : W9.cell? ⟨W.heap.size, 5, none⟩ = some (.slice A st.length c) := HB4.out W9 hW 5 _ rfl; clear hW; go_simp; try with_reducible rfl)
    try simp only [Act.put, List.setIfInBounds_toArray, List.set_cons_zero, List.set_cons_succ]
    refine rg_take (i := 8) (v := ?vr8) (by simp only [List.getElem?_toArray, List.getElem?_cons_succ, List.getElem?_cons_zero]; rfl) (by kernel_rfl) (by exact fun _ _ _ h => h) (by rfl) ?rr8 hF ?sr8
    case rr8 => (intro W hW; clear hW; go_simp; try with_reducible rfl)
    try simp only [Act.put, List.setIfInBounds_toArray, List.set_cons_zero, List.set_cons_succ]
    refine rg_take (i := 9) (v := ?vr9) (by simp only [List.getElem?_toArray, List.getElem?_cons_succ, List.getElem?_cons_zero]; rfl) (by kernel_rfl) (by exact fun _ _ _ h => h) (by rfl) ?rr9 hF ?sr9
    case rr9 => (intro W hW; clear hW; go_simp; try with_reducible rfl)
    try simp only [Act.put, List.setIfInBounds_toArray, List.set_cons_zero, List.set_cons_succ]
    refine rg_take (i := 10) (v := ?vr10) (by simp only [List.getElem?_toArray, List.getElem?_cons_succ, List.getElem?_cons_zero]; rfl) (by kernel_rfl) (by exact fun _ _ _ h => h) (by rfl) ?rr10 hF ?sr10
    case rr10 => (intro W9 hW; have z : W9.cell? ⟨W.heap.size, 1, none⟩ = some (.int .i64 gid) := HB4.out W9 hW 1 _ rfl; clear hW; go_simp; try with_reducible rfl)
    try simp only [Act.put, List.setIfInBounds_toArray, List.set_cons_zero, List.set_cons_succ]
    refine rg_one (i := 7) (oi := ?or7) ?ar7 ?br7 ?cr7 ?dr7
    case ar7 => (simp only [List.getElem?_toArray, List.getElem?_cons_succ, List.getElem?_cons_zero]; rfl)
    case br7 => kernel_rfl
    case cr7 => rfl
    intro K hK
    (go_simp; refine (pn w4 k4).mono ?_; rintro e w5 ⟨rfl, rfl⟩)
    refine rg_use hK (k4) (fun hF => ?_)
    clear hK K
    try simp only [Act.put, List.setIfInBounds_toArray, List.set_cons_zero, List.set_cons_succ]
    refine rg_take (i := 11) (v := ?vr11) (by simp only [List.getElem?_toArray, List.getElem?_cons_succ, List.getElem?_cons_zero]; rfl) (by kernel_rfl) (by exact fun _ _ _ h => h) (by rfl) ?rr11 hF ?sr11
    case rr11 => (intro W hW; clear hW; go_simp; try with_reducible rfl)
    try simp only [Act.put, List.setIfInBounds_toArray, List.set_cons_zero, List.set_cons_succ]
    refine rg_take (i := 12) (v := ?vr12) (by simp only [List.getElem?_toArray, List.getElem?_cons_succ, List.getElem?_cons_zero]; rfl) (by kernel_rfl) (by exact fun _ _ _ h => h) (by rfl) ?rr12 hF ?sr12
    case rr12 => (intro W hW; clear hW; go_simp; try with_reducible rfl)
    try simp only [Act.put, List.setIfInBounds_toArray, List.set_cons_zero, List.set_cons_succ]
    refine rg_take (i := 13) (v := ?vr13) (by simp only [List.getElem?_toArray, List.getElem?_cons_succ, List.getElem?_cons_zero]; rfl) (by kernel_rfl) (by exact fun _ _ _ h => h) (by rfl) ?rr13 hF ?sr13
    case rr13 => (intro W hW; clear hW; go_simp; try with_reducible rfl)
    try simp only [Act.put, List.setIfInBounds_toArray, List.set_cons_zero, List.set_cons_succ]
    refine rg_done (by kernel_rfl) ?_
    have HK4 := Lib.hid (HK3.out.trans k4)
    have HX := Lib.hid (show R = decide (newestS st = gid) by rw [HR.out]; exact decide_eq_decide.2 ⟨fun hm => ((M4.out HUR.out rfl).1 hm).2, fun h => (M4.out HUR.out rfl).2 ⟨HMG.out, h⟩⟩)
    clear hF k4 pg pn
    by_cases hng : newestS st = gid
    case neg =>
      have hx := HX.out
      rw [decide_eq_false hng] at hx
      have HX := Lib.hid hx
      have dd : (newestS st == gid) = false := by rw [beq_eq_false_iff_ne]; exact hng
      clear hng hx
      go_wp2
      go_ret
      exact ⟨ret_bool rfl (by rw [HX.out]), HK4.out⟩
    have hx := HX.out
    rw [decide_eq_true hng] at hx
    have HX := Lib.hid hx
    have dd : (newestS st == gid) = true := by rw [beq_iff_eq]; exact hng
    clear hng hx
    go_wp2
    go_ret
    exact ⟨ret_bool rfl (by rw [HX.out]), HK4.out⟩
  by_cases e5 : kind = 5
  case pos =>
    subst e5
    clear e1 e2 e3 e4
    have z0 : w3.cell? ⟨W.heap.size, 0, none⟩ = some (.int .i64 5) := HB4.out w3 (Kp.refl _ _) 0 _ rfl
    have z7 : w3.cell? ⟨W.heap.size, 7, none⟩ = some (.int .i64 id) := HB4.out w3 (Kp.refl _ _) 7 _ rfl
    have z8 : w3.cell? ⟨W.heap.size, 8, none⟩ = some (.slice A2 stamp.length c2) := HB4.out w3 (Kp.refl _ _) 8 _ rfl
    by_cases h0 : cntI id
    case neg =>
      have H0 := Lib.hid (decide_eq_false h0)
      have N0 := Lib.hid h0
      have HX := Lib.hid (show R = false by rw [HR.out, decide_eq_false_iff_not]; intro hm; exact N0.out ((M5.out HUR.out rfl).1 hm).1)
      clear h0
      go_wp2_with (first | (go_at_call 78; refine (rcounterB_any _ _).mono ?_; rintro e w4 ⟨rfl, rfl⟩; rw [H0.out]) | (go_at_call 77; refine (pv _ (Kp.refl _ _)).mono ?_; rintro e w4 ⟨rfl, rfl⟩) | fail)
      go_ret
      exact ⟨ret_bool rfl (by rw [HX.out]), HK3.out⟩
    have H0 := Lib.hid (decide_eq_true h0)
    have N0 := Lib.hid h0
    clear h0
    by_cases h1 : stamp.length = 0
    case neg =>
      have hp : (0 : Int) < (stamp.length : Int) := by omega
      have hn := HS0.out.1 h1
      have HX := Lib.hid (show R = validS stamp by rw [HR.out, Bool.eq_iff_iff, decide_eq_true_iff]; exact ⟨fun hm => ((M5.out HUR.out rfl).1 hm).2.2, fun h => (M5.out HUR.out rfl).2 ⟨N0.out, hn, h⟩⟩)
      rw [← HX.out] at pv
      clear hn h1
      go_wp2_with (first | (go_at_call 78; refine (rcounterB_any _ _).mono ?_; rintro e w4 ⟨rfl, rfl⟩; rw [H0.out]) | (go_at_call 77; refine (pv _ (Kp.refl _ _)).mono ?_; rintro e w4 ⟨rfl, rfl⟩) | fail)
      go_ret
      exact ⟨ret_bool rfl rfl, HK3.out⟩
    have hs := HS0.out.2 h1
    have HX := Lib.hid (show R = false by rw [HR.out, decide_eq_false_iff_not]; intro hm; exact ((M5.out HUR.out rfl).1 hm).2.1 hs)
    have hp : ¬ (0 : Int) < (stamp.length : Int) := by omega
    clear hs h1
    go_wp2_with (first | (go_at_call 78; refine (rcounterB_any _ _).mono ?_; rintro e w4 ⟨rfl, rfl⟩; rw [H0.out]) | (go_at_call 77; refine (pv _ (Kp.refl _ _)).mono ?_; rintro e w4 ⟨rfl, rfl⟩) | fail)
    go_ret
    exact ⟨ret_bool rfl (by rw [HX.out]), HK3.out⟩
  by_cases e6 : kind = 6
  case pos =>
    subst e6
    clear e1 e2 e3 e4 e5
    have z0 : w3.cell? ⟨W.heap.size, 0, none⟩ = some (.int .i64 6) := HB4.out w3 (Kp.refl _ _) 0 _ rfl
    have z7 : w3.cell? ⟨W.heap.size, 7, none⟩ = some (.int .i64 id) := HB4.out w3 (Kp.refl _ _) 7 _ rfl
    have HX := Lib.hid (show R = decide (cntI id) by rw [HR.out]; exact decide_eq_decide.2 (M6.out HUR.out rfl))
    go_wp2_with fail
    refine (rcounterB_any _ _).mono ?_
    rintro e w4 ⟨rfl, rfl⟩
    rw [← HX.out]
    go_wp2
    go_ret
    exact ⟨ret_bool rfl rfl, HK3.out⟩
  by_cases e7 : kind = 7
  case pos =>
    subst e7
    clear e1 e2 e3 e4 e5 e6
    have z0 : w3.cell? ⟨W.heap.size, 0, none⟩ = some (.int .i64 7) := HB4.out w3 (Kp.refl _ _) 0 _ rfl
    have HX := Lib.hid (show R = true by rw [HR.out, decide_eq_true_iff]; exact (M7.out HUR.out rfl))
    go_wp2
    go_ret
    exact ⟨ret_bool rfl (by rw [HX.out]), HK3.out⟩
  have d1 : (kind == 1) = false := by rw [beq_eq_false_iff_ne]; exact e1
  have d2 : (kind == 2) = false := by rw [beq_eq_false_iff_ne]; exact e2
  have d3 : (kind == 3) = false := by rw [beq_eq_false_iff_ne]; exact e3
  have d4 : (kind == 4) = false := by rw [beq_eq_false_iff_ne]; exact e4
  have d5 : (kind == 5) = false := by rw [beq_eq_false_iff_ne]; exact e5
  have d6 : (kind == 6) = false := by rw [beq_eq_false_iff_ne]; exact e6
  have d7 : (kind == 7) = false := by rw [beq_eq_false_iff_ne]; exact e7
  have HN := Lib.hid (show ¬ (kind = 1 ∨ kind = 2 ∨ kind = 3 ∨ kind = 4 ∨ kind = 5 ∨ kind = 6 ∨ kind = 7) by omega)
  have z0 : w3.cell? ⟨W.heap.size, 0, none⟩ = some (.int .i64 kind) := HB4.out w3 (Kp.refl _ _) 0 _ rfl
  clear e1 e2 e3 e4 e5 e6 e7
  have HX := Lib.hid (show R = false by rw [HR.out, decide_eq_false_iff_not]; intro hm; exact mayR_0 HN.out hm)
  go_wp2
  go_ret
  exact ⟨ret_bool rfl (by rw [HX.out]), HK3.out⟩
end Go.Proofs.Ytifdceofglocdaa
