/- A record more: the document's Apply by contract. No condition beyond what each theorem states. -/
import Derived.Test.YtifdceofglocdaaB29
import Derived.Test.YtifdceofglocdaaB17
namespace Go.Proofs.Ytifdceofglocdaa
open Go Go.RowKit Go.PlainAid

theorem insP_len : ∀ (l : List GP) (g : GP), (insP l g).length = l.length + 1
  | [], _ => rfl
  | a :: l, g => by
    show (if a.1.id < g.1.id then a :: insP l g else g :: a :: l).length = _
    split
    · rw [List.length_cons, insP_len l g, List.length_cons]
    · rfl
theorem mem_insP : ∀ (l : List GP) (g x : GP), x ∈ insP l g ↔ x = g ∨ x ∈ l
  | [], g, x => by simp [insP]
  | a :: l, g, x => by
    show x ∈ (if a.1.id < g.1.id then a :: insP l g else g :: a :: l) ↔ _
    split
    · rw [List.mem_cons, mem_insP l g x, List.mem_cons]
      constructor
      · rintro (h | h | h)
        · exact .inr (.inl h)
        · exact .inl h
        · exact .inr (.inr h)
      · rintro (h | h | h)
        · exact .inr (.inl h)
        · exact .inl h
        · exact .inr (.inr h)
    · rw [List.mem_cons]
theorem outP_gs (l : List GP) (id : Int) : gsL (outP l id) = delG (gsL l) id := by
  unfold gsL outP delG
  rw [List.filter_map]
  rfl
theorem apply_zero {b : Bok} {r : Rcd} (h : (applyB b r).2 = 0) : (validB b ∧ mayR r) ∧ limitB b r.kind = 0 ∧ ∃ c, changeB b r = some c ∧ applyB b r = (c, 0) := by
  by_cases h1 : validB b ∧ mayR r
  case neg => rw [apply_bad h1] at h; cases h
  by_cases h2 : limitB b r.kind = 0
  case neg => rw [apply_lim h1 h2] at h; exact absurd h h2
  cases h3 : changeB b r with
  | none => rw [apply_none h1 h2 h3] at h; cases h
  | some c => exact ⟨h1, h2, c, rfl, apply_some h1 h2 h3⟩
theorem mayR_sh {r : Rcd} (h : mayR r) : r.grant.stamp.length ≤ 4 ∧ r.stamp.length ≤ 4 := by
  rcases mayR_kind h with e | e | e | e | e | e | e
  · have := (mayR_1 e).1 h; rw [this.2.2.1, this.2.2.2.2]; exact ⟨by decide, by decide⟩
  · have := (mayR_2 e).1 h; rw [this.2.2.2.1, this.2.2.2.2.2]; exact ⟨by decide, by decide⟩
  · have := (mayR_3 e).1 h; rw [this.2.2.2]; exact ⟨(mayG_sh this.1).2.1, by decide⟩
  · have := (mayR_4 e).1 h; rw [this.2.2.2.2]; exact ⟨(mayG_sh this.2.1).2.1, by decide⟩
  · have := (mayR_5 e).1 h; rw [this.2.2.2]; exact ⟨by decide, (cnt_of_valid this.2.1.1).1⟩
  · have := (mayR_6 e).1 h; rw [this.2.2.2, this.2.1]; exact ⟨by decide, by decide⟩
  · have := (mayR_7 e).1 h; rw [this.2.1, this.2.2.2]; exact ⟨by decide, by decide⟩
set_option maxRecDepth 100000 in
set_option maxHeartbeats 16000000 in
theorem rapply_any (n k t : Int) (v : Value) (l : List GP) (r : Rcd) (gv rv : Value) (W : World) (hv : ArgG W v l) (hl : ShL maxLen l) (hp : ∀ p ∈ l, p.1.path.length < 9223372036854775807) (hgv : ArgInts W gv r.grant.stamp) (hrv : ArgInts W rv r.stamp) (lg : ShG maxLen r.grant) (ls : r.stamp.length ≤ maxLen) (hp63 : r.grant.path.length < 9223372036854775807) :
    Calls Try.prog 15 #[.agg #[.int .i64 n, .int .i64 k, .int .i64 t, v], .agg (rC r gv rv).toArray] W (ApplyR (bk n k t l) r W) := by
  obtain ⟨A0, c00, rfl, _⟩ := hv.len
  obtain ⟨Q, hQ⟩ : ∃ Q : Ending → World → Prop, Q = ApplyR (bk n k t l) r W := ⟨_, rfl⟩
  rw [← hQ]
  have HQ := Lib.hid hQ; clear hQ
  obtain ⟨R, hR⟩ : ∃ R, R = (applyB (bk n k t l) r).2 := ⟨_, rfl⟩
  have HR := Lib.hid hR
  obtain ⟨A, c, rfl, _⟩ := ints_of _ _ _ hgv
  obtain ⟨A2, c2, rfl, _⟩ := ints_of _ _ _ hrv
  obtain ⟨C, hC⟩ : ∃ C, C = rC r (.slice A r.grant.stamp.length c) (.slice A2 r.stamp.length c2) := ⟨_, rfl⟩
  obtain ⟨CB, hCB⟩ : ∃ CB : List Value, CB = [.int .i64 n, .int .i64 k, .int .i64 t, .slice A0 l.length c00] := ⟨_, rfl⟩
  obtain ⟨w1, hw1⟩ : ∃ w1, w1 = ((W.alloc (.cells CB.toArray 25)).alloc (.cells C.toArray 32)).alloc (.cells #[.int .i64 0, .int .i64 0, .int .i64 0, .slice none 0 0] 25) := ⟨_, rfl⟩
  have HB1 := Lib.hid (show Bk w1 W.heap.size 25 CB by rw [hw1]; exact ((Bk.new' rfl rfl).alloc _).alloc _)
  have HR1 := Lib.hid (show Bk w1 (W.heap.size + 1) 32 C by rw [hw1]; exact (Bk.new' (by simp) rfl).alloc _)
  have HZ1 := Lib.hid (show Bk w1 (W.heap.size + 1 + 1) 25 [.int .i64 0, .int .i64 0, .int .i64 0, .slice none 0 0] by rw [hw1]; exact Bk.new' (by simp) rfl)
  have HK1 := Lib.hid (show Kp No W w1 by rw [hw1]; exact (((Kp.refl No W).alloc _).alloc _).alloc _)
  have HS1 := Lib.hid (show w1.heap.size = W.heap.size + 1 + 1 + 1 by rw [hw1]; simp)
  have HW := Lib.hid hw1
  have hcl : C.length = 12 := by rw [hC]; rfl
  have hbl : CB.length = 4 := by rw [hCB]; rfl
  have HI := Lib.hid (show (Try.prog.info? 32).map (·.size) = some C.length by rw [hcl]; kernel_rfl)
  have HU := Lib.hid Try.underlying32
  have HIB := Lib.hid (show (Try.prog.info? 25).map (·.size) = some CB.length by rw [hbl]; kernel_rfl)
  have HUB := Lib.hid Try.underlying25
  have pf := (rfault_any n k t (.slice A0 l.length c00) l r (.slice A r.grant.stamp.length c) (.slice A2 r.stamp.length c2) w1 (hv.no HK1.out) hl hp (hgv.no HK1.out) (hrv.no HK1.out) lg ls hp63)
  rw [← hC, ← hCB, ← hR] at pf
  have HVA := Lib.hid hv; have HGV := Lib.hid hgv; have HRV := Lib.hid hrv
  have HC := Lib.hid hC; have HCB := Lib.hid hCB
  clear hv hgv hrv hl lg ls hp hp63 hw1 hcl hbl hR
  rw [← hC, ← hCB]
  clear hC hCB
  go_enter Try.func15, Try.ntmps15
  go_upto_region 1 with (fail)
  rw [← HW.out]
  clear HW
  go_wp2_with (first | (with_reducible refine wpList_load_mid rfl _ _ rfl W.heap.size 0 rfl CB _ (bk_range HB1.out) HUB.out rfl HIB.out ?_) | (with_reducible refine wpList_load_mid rfl _ _ rfl (W.heap.size + 1) 0 rfl C _ (bk_range HR1.out) HU.out rfl HI.out ?_) | fail)
  refine pf.mono ?_
  rintro e w2 ⟨rfl, k2⟩
  have HB2 := Lib.hid (HB1.out.no k2); have HR2 := Lib.hid (HR1.out.no k2); have HZ2 := Lib.hid (HZ1.out.no k2)
  have HK2 := Lib.hid (HK1.out.trans k2)
  have HS2 := Lib.hid k2.size
  clear k2 pf HB1 HR1 HZ1 HK1 HI HU
  by_cases h0 : R = 0
  case neg =>
    have HN := Lib.hid h0
    have d : (R != 0) = true := by rw [bne_iff_ne]; exact h0
    clear h0
    have u0 : w2.cell? ⟨W.heap.size + 1 + 1, 0, none⟩ = some (.int .i64 0) := HZ2.out.cell 0
    have u1 : w2.cell? ⟨W.heap.size + 1 + 1, 1, none⟩ = some (.int .i64 0) := HZ2.out.cell 1
    have u2 : w2.cell? ⟨W.heap.size + 1 + 1, 2, none⟩ = some (.int .i64 0) := HZ2.out.cell 2
    have u3 : w2.cell? ⟨W.heap.size + 1 + 1, 3, none⟩ = some (.slice none 0 0) := HZ2.out.cell 3
    have f0 := HZ2.out.frozen 0; have f1 := HZ2.out.frozen 1; have f2 := HZ2.out.frozen 2; have f3 := HZ2.out.frozen 3
    go_wp2
    have B9 := (((HZ2.out.set_ 0 (.int .i64 0)).set_ 1 (.int .i64 0)).set_ 2 (.int .i64 0)).set_ 3 (.slice none 0 0)
    have K9 : Kp (One (W.heap.size + 1 + 1)) w2 _ := ((((Kp.refl (One (W.heap.size + 1 + 1)) w2).set (.inl (One.self _)) 0 (.int .i64 0)).set (.inl (One.self _)) 1 (.int .i64 0)).set (.inl (One.self _)) 2 (.int .i64 0)).set (.inl (One.self _)) 3 (.slice none 0 0)
    generalize hw9 : World.setCell _ ⟨W.heap.size + 1 + 1, 3, none⟩ _ = w9 at B9 K9 ⊢
    have x0 := B9.cell 0; have x1 := B9.cell 1; have x2 := B9.cell 2; have x3 := B9.cell 3
    simp only [List.set_cons_zero, List.set_cons_succ, List.getElem?_cons_zero, List.getElem?_cons_succ] at x0 x1 x2 x3
    have HKF := Lib.hid (show Kp No W w9 from HK2.out.then_ K9 fun j hj e => by have : j = W.heap.size + 1 + 1 := e; omega)
    have HF := Lib.hid (show Q (.returned (.tuple #[.agg #[.int .i64 0, .int .i64 0, .int .i64 0, .slice none 0 0], .int .i64 R])) w9 by
      rw [HQ.out]
      have e := apply_err (b := bk n k t l) (r := r) (by rw [← HR.out]; exact HN.out)
      exact ⟨.slice none 0 0, [], by rw [e, ← HR.out], by rw [e]; rfl, OwnG.nil _ _, HKF.out⟩)
    refine bodyPost_ret (v := .tuple #[.agg #[.int .i64 0, .int .i64 0, .int .i64 0, .slice none 0 0], .int .i64 R]) (by simp [results, Try.results15, go_sem, x0, x1, x2, x3]) rfl ?_
    exact HF.out
  subst h0
  obtain ⟨⟨hval, hmay⟩, hlim, c0, hch, hap⟩ := apply_zero HR.out.symm
  have HV := Lib.hid hval; have HM := Lib.hid hmay; have HLIM := Lib.hid hlim; have HCH := Lib.hid hch; have HAP := Lib.hid hap
  have hlen : l.length ≤ 6 := ((valid_bk n k t l).1 hval).2.2.1
  have HN1 := Lib.hid (show (1 ≤ n ∧ n ≤ 1099511627777) ∧ 0 ≤ k ∧ k ≤ 1099511627776 from ⟨⟨hval.1.1, hval.1.2.1⟩, hval.1.2.2.1, hval.1.2.2.2⟩)
  have hst : ∀ p ∈ l, p.1.stamp.length ≤ 17592186043904 := fun p hp => by
    have := mayG_sh (((valid_bk n k t l).1 hval).2.2.2.1 p.1 (List.mem_map.2 ⟨p, hp, rfl⟩)).1
    omega
  have hsort : (gsL l).Pairwise (fun x y => x.id < y.id) := ((valid_bk n k t l).1 hval).2.2.2.2
  have pcp := rcopy_any n k t (.slice A0 l.length c00) l w2 (HVA.out.no HK2.out) (by omega) hst
  rw [← HCB.out] at pcp
  have HLL := Lib.hid hlen; have HSOR := Lib.hid hsort
  clear hval hmay hlim hch hap hlen hst hsort
  go_wp2_with (first | (with_reducible refine wpList_load_mid rfl _ _ rfl W.heap.size 0 rfl CB _ (bk_range HB2.out) HUB.out rfl HIB.out ?_) | fail)
  refine pcp.mono ?_
  rintro e w5 ⟨sv6, l6, rfl, hg6, ho6, k5⟩
  obtain ⟨A6, c6, rfl, _⟩ := own_len ho6.1
  obtain ⟨x7, hx7⟩ : ∃ x7, x7 = w5.heap.size := ⟨_, rfl⟩
  obtain ⟨w6, hw6⟩ : ∃ w6, w6 = w5.alloc (.cells #[.int .i64 n, .int .i64 k, .int .i64 t, .slice A6 l6.length c6] 25) := ⟨_, rfl⟩
  have kal : Kp No w5 w6 := by rw [hw6]; exact (Kp.refl No w5).alloc _
  have HB6 := Lib.hid (show Bk w6 x7 25 [.int .i64 n, .int .i64 k, .int .i64 t, .slice A6 l6.length c6] by rw [hw6, hx7]; exact Bk.new' rfl rfl)
  have HO6 := Lib.hid (show OwnG w6 W.heap.size (.slice A6 l6.length c6) l6 from (ho6.no kal).mono HK2.out.size)
  have HG6 := Lib.hid (show gsL l6 = gsL l from hg6)
  have HR6 := Lib.hid ((HR2.out.no k5).no kal); have HZ6 := Lib.hid ((HZ2.out.no k5).no kal)
  have HK6 := Lib.hid ((HK2.out.trans k5).trans kal)
  have HX7 := Lib.hid (show W.heap.size + 1 + 1 ≠ x7 by have h1 := HS1.out; have h2 := HS2.out; have h3 := k5.size; omega)
  have HXL := Lib.hid (show W.heap.size ≤ x7 by have h1 := HK2.out.size; have h3 := k5.size; omega)
  have HL6 := Lib.hid (show l6.length ≤ 6 by rw [← gsL_len, HG6.out, gsL_len]; exact HLL.out)
  have HSO := Lib.hid (show (gsL l6).Pairwise (fun x y => x.id < y.id) by rw [HG6.out]; exact HSOR.out)
  have HW6 := Lib.hid hw6; have HXX7 := Lib.hid hx7
  clear hg6 ho6 k5 kal hw6 pcp hx7
  go_upto_region 5 with (fail)
  rw [← HW6.out, ← HXX7.out]
  clear HW6 HXX7
  obtain ⟨kind, ⟨gid, hol, path, mode, st, term⟩, id, stamp, next, boots, longest⟩ := r
  replace HGV := Lib.hid (show ArgInts W (.slice A st.length c) st from HGV.out)
  replace HRV := Lib.hid (show ArgInts W (.slice A2 stamp.length c2) stamp from HRV.out)
  have HZ := Lib.hid (show ∀ W2, Kp No w6 W2 → ∀ (j : Nat) u, ([.int .i64 kind, .int .i64 gid, .int .i64 hol, .string ⟨path.toArray⟩, .int .i64 mode, .slice A st.length c, .int .i64 term, .int .i64 id, .slice A2 stamp.length c2, .int .i64 next, .int .i64 boots, .int .i64 longest] : List Value)[j]? = some u → W2.cell? ⟨W.heap.size + 1, j, none⟩ = some u from fun W2 kk j u hu => by
    rw [(HR6.out.no kk).cell, HC.out]; exact hu)
  have HST := Lib.hid (show st.length ≤ 17592186043904 from Nat.le_trans (mayR_sh HM.out).1 (by omega))
  have HST2 := Lib.hid (show stamp.length ≤ 17592186043904 from Nat.le_trans (mayR_sh HM.out).2 (by omega))
  have HNX := Lib.hid (show kind = 4 ∨ kind = 5 → n ≤ 1099511627776 from fun hk => by
    have h := HLIM.out
    rcases Int.lt_or_le 1099511627776 n with h1 | h1
    · have h : limitB (bk n k t l) kind = 0 := h
      unfold limitB at h
      rw [if_pos (.inl ⟨hk, h1⟩)] at h
      cases h
    · exact h1)
  have z0 : w6.cell? ⟨W.heap.size + 1, 0, none⟩ = some (.int .i64 kind) := HZ.out w6 (Kp.refl _ _) 0 _ rfl
  go_upto_block 0 with (fail)
  go_cut [7] (fun s wx => s = .pointer (some ⟨x7, 0, none⟩) ∧ ∃ sv l', Bk wx x7 25 [.int .i64 c0.next, .int .i64 c0.boots, .int .i64 c0.longest, sv] ∧ gsL l' = c0.grants ∧ OwnG wx W.heap.size sv l' ∧ Bk wx (W.heap.size + 1 + 1) 25 [.int .i64 0, .int .i64 0, .int .i64 0, .slice none 0 0] ∧ Kp No W wx)
  case rest =>
    obtain ⟨rfl, sv, l', hb, hg, ho, hz, hk⟩ := hcut
    obtain ⟨A9, c9, rfl, _⟩ := own_len ho.1
    have HB := Lib.hid hb; have HG := Lib.hid hg; have HO := Lib.hid ho; have HZZ := Lib.hid hz; have HKK := Lib.hid hk
    clear hb hg ho hz hk z0
    have y0 : wc.cell? ⟨x7, 0, none⟩ = some (.int .i64 c0.next) := HB.out.cell 0
    have y1 : wc.cell? ⟨x7, 1, none⟩ = some (.int .i64 c0.boots) := HB.out.cell 1
    have y2 : wc.cell? ⟨x7, 2, none⟩ = some (.int .i64 c0.longest) := HB.out.cell 2
    have y3 : wc.cell? ⟨x7, 3, none⟩ = some (.slice A9 l'.length c9) := HB.out.cell 3
    have u0 : wc.cell? ⟨W.heap.size + 1 + 1, 0, none⟩ = some (.int .i64 0) := HZZ.out.cell 0
    have u1 : wc.cell? ⟨W.heap.size + 1 + 1, 1, none⟩ = some (.int .i64 0) := HZZ.out.cell 1
    have u2 : wc.cell? ⟨W.heap.size + 1 + 1, 2, none⟩ = some (.int .i64 0) := HZZ.out.cell 2
    have u3 : wc.cell? ⟨W.heap.size + 1 + 1, 3, none⟩ = some (.slice none 0 0) := HZZ.out.cell 3
    have f0 := HZZ.out.frozen 0; have f1 := HZZ.out.frozen 1; have f2 := HZZ.out.frozen 2; have f3 := HZZ.out.frozen 3
    go_wp2
    have B9 := (((HZZ.out.set_ 0 (.int .i64 c0.next)).set_ 1 (.int .i64 c0.boots)).set_ 2 (.int .i64 c0.longest)).set_ 3 (.slice A9 l'.length c9)
    have K9 : Kp (One (W.heap.size + 1 + 1)) wc _ := ((((Kp.refl (One (W.heap.size + 1 + 1)) wc).set (.inl (One.self _)) 0 (.int .i64 c0.next)).set (.inl (One.self _)) 1 (.int .i64 c0.boots)).set (.inl (One.self _)) 2 (.int .i64 c0.longest)).set (.inl (One.self _)) 3 (.slice A9 l'.length c9)
    generalize hw9 : World.setCell _ ⟨W.heap.size + 1 + 1, 3, none⟩ _ = w9 at B9 K9 ⊢
    have x0 := B9.cell 0; have x1 := B9.cell 1; have x2 := B9.cell 2; have x3 := B9.cell 3
    simp only [List.set_cons_zero, List.set_cons_succ, List.getElem?_cons_zero, List.getElem?_cons_succ] at x0 x1 x2 x3
    have HKF := Lib.hid (show Kp No W w9 from HKK.out.then_ K9 fun j hj e => by have : j = W.heap.size + 1 + 1 := e; omega)
    have HOF := Lib.hid (HO.out.far K9 HZZ.out (by decide) (by decide))
    have HF := Lib.hid (show Q (.returned (.tuple #[.agg #[.int .i64 c0.next, .int .i64 c0.boots, .int .i64 c0.longest, .slice A9 l'.length c9], .int .i64 0])) w9 by
      rw [HQ.out]
      unfold ApplyR
      rw [HAP.out]
      exact ⟨_, l', rfl, HG.out, HOF.out, HKF.out⟩)
    refine bodyPost_ret (v := .tuple #[.agg #[.int .i64 c0.next, .int .i64 c0.boots, .int .i64 c0.longest, .slice A9 l'.length c9], .int .i64 0]) (by simp [results, Try.results15, go_sem, x0, x1, x2, x3]) rfl ?_
    exact HF.out
  case first =>
    clear z0 HB2 HR2 HZ2 HVA HCB HUB HIB
    by_cases e1 : kind = 1
    case pos =>
      subst e1
      have z0 : w6.cell? ⟨W.heap.size + 1, 0, none⟩ = some (.int .i64 1) := HZ.out w6 (Kp.refl _ _) 0 _ rfl
      have z9 : w6.cell? ⟨W.heap.size + 1, 9, none⟩ = some (.int .i64 next) := HZ.out w6 (Kp.refl _ _) 9 _ rfl
      have z10 : w6.cell? ⟨W.heap.size + 1, 10, none⟩ = some (.int .i64 boots) := HZ.out w6 (Kp.refl _ _) 10 _ rfl
      have y0 : w6.cell? ⟨x7, 0, none⟩ = some (.int .i64 n) := HB6.out.cell 0
      have f0 := HB6.out.frozen 0
      have y1 : w6.cell? ⟨x7, 1, none⟩ = some (.int .i64 k) := HB6.out.cell 1
      have f1 := HB6.out.frozen 1
      have HS := Lib.hid (((HB6.out).set_ 0 (.int .i64 next)).set_ 1 (.int .i64 boots))
      have HKS := Lib.hid (((Kp.refl (One x7) w6).set (.inl (One.self x7)) 0 (.int .i64 next)).set (.inl (One.self x7)) 1 (.int .i64 boots))
      have HE := Lib.hid (show c0 = { bk n k t l with next := next, boots := boots } by have h := HCH.out; rw [changeB_1 rfl] at h; split at h; (injection h with h; exact h.symm); (cases h))
      go_wp2
      go_meet
      refine ⟨rfl, .slice A6 l6.length c6, l6, ?_⟩
      rw [HE.out]
      exact ⟨HS.out, HG6.out, HO6.out.far HKS.out HB6.out (by decide) (by decide), HZ6.out.kp HKS.out HX7.out, HK6.out.then_ HKS.out fun j hj e => by have h1 : j = x7 := e; have h2 := HXL.out; omega⟩
    by_cases e2 : kind = 2
    case pos =>
      subst e2
      clear e1
      have z0 : w6.cell? ⟨W.heap.size + 1, 0, none⟩ = some (.int .i64 2) := HZ.out w6 (Kp.refl _ _) 0 _ rfl
      have z11 : w6.cell? ⟨W.heap.size + 1, 11, none⟩ = some (.int .i64 longest) := HZ.out w6 (Kp.refl _ _) 11 _ rfl
      have y2 : w6.cell? ⟨x7, 2, none⟩ = some (.int .i64 t) := HB6.out.cell 2
      have f2 := HB6.out.frozen 2
      have HS := Lib.hid ((HB6.out).set_ 2 (.int .i64 longest))
      have HKS := Lib.hid ((Kp.refl (One x7) w6).set (.inl (One.self x7)) 2 (.int .i64 longest))
      have HE := Lib.hid (show c0 = { bk n k t l with longest := longest } by have h := HCH.out; rw [changeB_2 rfl] at h; split at h; (injection h with h; exact h.symm); (cases h))
      go_wp2
      go_meet
      refine ⟨rfl, .slice A6 l6.length c6, l6, ?_⟩
      rw [HE.out]
      exact ⟨HS.out, HG6.out, HO6.out.far HKS.out HB6.out (by decide) (by decide), HZ6.out.kp HKS.out HX7.out, HK6.out.then_ HKS.out fun j hj e => by have h1 : j = x7 := e; have h2 := HXL.out; omega⟩
    by_cases e3 : kind = 3
    case pos =>
      subst e3
      clear e1 e2
      have z0 : w6.cell? ⟨W.heap.size + 1, 0, none⟩ = some (.int .i64 3) := HZ.out w6 (Kp.refl _ _) 0 _ rfl
      have z1 : w6.cell? ⟨W.heap.size + 1, 1, none⟩ = some (.int .i64 gid) := HZ.out w6 (Kp.refl _ _) 1 _ rfl
      have z2 : w6.cell? ⟨W.heap.size + 1, 2, none⟩ = some (.int .i64 hol) := HZ.out w6 (Kp.refl _ _) 2 _ rfl
      have z3 : w6.cell? ⟨W.heap.size + 1, 3, none⟩ = some (.string ⟨path.toArray⟩) := HZ.out w6 (Kp.refl _ _) 3 _ rfl
      have z4 : w6.cell? ⟨W.heap.size + 1, 4, none⟩ = some (.int .i64 mode) := HZ.out w6 (Kp.refl _ _) 4 _ rfl
      have z5 : w6.cell? ⟨W.heap.size + 1, 5, none⟩ = some (.slice A st.length c) := HZ.out w6 (Kp.refl _ _) 5 _ rfl
      have z6 : w6.cell? ⟨W.heap.size + 1, 6, none⟩ = some (.int .i64 term) := HZ.out w6 (Kp.refl _ _) 6 _ rfl
      have y3 : w6.cell? ⟨x7, 3, none⟩ = some (.slice A6 l6.length c6) := HB6.out.cell 3
      have f3 := HB6.out.frozen 3
      have pw := fun W2 (kk : Kp No w6 W2) => (rwith_any (.slice A6 l6.length c6) l6 (⟨gid, hol, path, mode, st, term⟩, .slice A st.length c) W2 ((HO6.out.no kk).arg) (by have := HL6.out; omega) (HGV.out.no (HK6.out.trans kk)) HST.out).mono fun e w' ⟨sv, pv, h1, h2, h3, h4⟩ => (⟨sv, pv, h1, own_mono h2 (Nat.le_trans HK6.out.size kk.size), own_mono h3 kk.size, kk.trans h4⟩ : ∃ sv pv, e = Ending.returned sv ∧ w'.ownsRow W.heap.size 30 6 sv (l6.length + 1) (pL (insP l6 (⟨gid, hol, path, mode, st, term⟩, pv))) ∧ w'.ownsRow w6.heap.size 3 1 pv st.length (ints st) ∧ Kp No w6 w')
      simp only [pC] at pw
      go_wp2_with fail
      refine (pw _ (Kp.refl _ _)).mono ?_
      rintro e w7 ⟨sv7, pv7, rfl, o7, p7, k7⟩
      obtain ⟨A7, c7, rfl, _⟩ := own_len o7
      have HO7 := Lib.hid (show OwnG w7 W.heap.size (.slice A7 (l6.length + 1) c7) (insP l6 (⟨gid, hol, path, mode, st, term⟩, pv7)) from ⟨by rw [insP_len]; exact o7, fun p hp => by rcases (mem_insP _ _ p).1 hp with rfl | hp; exact own_mono p7 HK6.out.size; exact own_kp (HO6.out.2 p hp) k7 fun _ _ m => m⟩)
      have HB7 := Lib.hid (HB6.out.no k7); have HZ7 := Lib.hid (HZ6.out.no k7); have HK7 := Lib.hid (HK6.out.trans k7)
      clear o7 p7 pw z1 z2 z3 z4 z5 z6 y3 f3
      have y3 : w7.cell? ⟨x7, 3, none⟩ = some (.slice A6 l6.length c6) := HB7.out.cell 3
      have f3 := HB7.out.frozen 3
      have HS := Lib.hid ((HB7.out).set_ 3 (.slice A7 (l6.length + 1) c7))
      have HKS := Lib.hid ((Kp.refl (One x7) w7).set (.inl (One.self x7)) 3 (.slice A7 (l6.length + 1) c7))
      have HE := Lib.hid (show c0 = { bk n k t l with grants := insG (bk n k t l).grants ⟨gid, hol, path, mode, st, term⟩ } by have h := HCH.out; rw [changeB_3 rfl] at h; split at h; (cases h); (injection h with h; exact h.symm))
      have HGS := Lib.hid (show gsL (insP l6 (⟨gid, hol, path, mode, st, term⟩, pv7)) = ({ bk n k t l with grants := insG (bk n k t l).grants ⟨gid, hol, path, mode, st, term⟩ }).grants from by rw [insP_gs, HG6.out]; rfl)
      go_wp2
      go_meet
      refine ⟨rfl, .slice A7 (l6.length + 1) c7, insP l6 (⟨gid, hol, path, mode, st, term⟩, pv7), ?_⟩
      rw [HE.out]
      exact ⟨HS.out, HGS.out, HO7.out.far HKS.out HB7.out (by decide) (by decide), HZ7.out.kp HKS.out HX7.out, HK7.out.then_ HKS.out fun j hj e => by have h1 : j = x7 := e; have h2 := HXL.out; omega⟩
    by_cases e4 : kind = 4
    case pos =>
      subst e4
      clear e1 e2 e3
      have z0 : w6.cell? ⟨W.heap.size + 1, 0, none⟩ = some (.int .i64 4) := HZ.out w6 (Kp.refl _ _) 0 _ rfl
      have z1 : w6.cell? ⟨W.heap.size + 1, 1, none⟩ = some (.int .i64 gid) := HZ.out w6 (Kp.refl _ _) 1 _ rfl
      have z2 : w6.cell? ⟨W.heap.size + 1, 2, none⟩ = some (.int .i64 hol) := HZ.out w6 (Kp.refl _ _) 2 _ rfl
      have z3 : w6.cell? ⟨W.heap.size + 1, 3, none⟩ = some (.string ⟨path.toArray⟩) := HZ.out w6 (Kp.refl _ _) 3 _ rfl
      have z4 : w6.cell? ⟨W.heap.size + 1, 4, none⟩ = some (.int .i64 mode) := HZ.out w6 (Kp.refl _ _) 4 _ rfl
      have z5 : w6.cell? ⟨W.heap.size + 1, 5, none⟩ = some (.slice A st.length c) := HZ.out w6 (Kp.refl _ _) 5 _ rfl
      have z6 : w6.cell? ⟨W.heap.size + 1, 6, none⟩ = some (.int .i64 term) := HZ.out w6 (Kp.refl _ _) 6 _ rfl
      have y3 : w6.cell? ⟨x7, 3, none⟩ = some (.slice A6 l6.length c6) := HB6.out.cell 3
      have f3 := HB6.out.frozen 3
      have pw := fun W2 (kk : Kp No w6 W2) => (rwith_any (.slice A6 l6.length c6) l6 (⟨gid, hol, path, mode, st, term⟩, .slice A st.length c) W2 ((HO6.out.no kk).arg) (by have := HL6.out; omega) (HGV.out.no (HK6.out.trans kk)) HST.out).mono fun e w' ⟨sv, pv, h1, h2, h3, h4⟩ => (⟨sv, pv, h1, own_mono h2 (Nat.le_trans HK6.out.size kk.size), own_mono h3 kk.size, kk.trans h4⟩ : ∃ sv pv, e = Ending.returned sv ∧ w'.ownsRow W.heap.size 30 6 sv (l6.length + 1) (pL (insP l6 (⟨gid, hol, path, mode, st, term⟩, pv))) ∧ w'.ownsRow w6.heap.size 3 1 pv st.length (ints st) ∧ Kp No w6 w')
      simp only [pC] at pw
      go_wp2_with fail
      refine (pw _ (Kp.refl _ _)).mono ?_
      rintro e w7 ⟨sv7, pv7, rfl, o7, p7, k7⟩
      obtain ⟨A7, c7, rfl, _⟩ := own_len o7
      have HO7 := Lib.hid (show OwnG w7 W.heap.size (.slice A7 (l6.length + 1) c7) (insP l6 (⟨gid, hol, path, mode, st, term⟩, pv7)) from ⟨by rw [insP_len]; exact o7, fun p hp => by rcases (mem_insP _ _ p).1 hp with rfl | hp; exact own_mono p7 HK6.out.size; exact own_kp (HO6.out.2 p hp) k7 fun _ _ m => m⟩)
      have HB7 := Lib.hid (HB6.out.no k7); have HZ7 := Lib.hid (HZ6.out.no k7); have HK7 := Lib.hid (HK6.out.trans k7)
      clear o7 p7 pw z1 z2 z3 z4 z5 z6 y3 f3
      have y3 : w7.cell? ⟨x7, 3, none⟩ = some (.slice A6 l6.length c6) := HB7.out.cell 3
      have f3 := HB7.out.frozen 3
      have y0 : w7.cell? ⟨x7, 0, none⟩ = some (.int .i64 n) := HB7.out.cell 0
      have f0 := HB7.out.frozen 0
      have hnx := HNX.out (by simp)
      have hwr : IntKind.i64.wrap (n + 1) = n + 1 := by have h1 := HN1.out; rw [IntKind.wrap_i64]; omega
      clear hnx
      have HS := Lib.hid (((HB7.out).set_ 3 (.slice A7 (l6.length + 1) c7)).set_ 0 (.int .i64 (n + 1)))
      have HKS := Lib.hid (((Kp.refl (One x7) w7).set (.inl (One.self x7)) 3 (.slice A7 (l6.length + 1) c7)).set (.inl (One.self x7)) 0 (.int .i64 (n + 1)))
      have HE := Lib.hid (show c0 = { bk n k t l with next := n + 1, grants := insG (bk n k t l).grants ⟨gid, hol, path, mode, st, term⟩ } by have h := HCH.out; rw [changeB_4 rfl] at h; split at h; (injection h with h; exact h.symm); (cases h))
      have HGS := Lib.hid (show gsL (insP l6 (⟨gid, hol, path, mode, st, term⟩, pv7)) = ({ bk n k t l with next := n + 1, grants := insG (bk n k t l).grants ⟨gid, hol, path, mode, st, term⟩ }).grants from by rw [insP_gs, HG6.out]; rfl)
      go_wp2
      go_meet
      refine ⟨rfl, .slice A7 (l6.length + 1) c7, insP l6 (⟨gid, hol, path, mode, st, term⟩, pv7), ?_⟩
      rw [HE.out]
      exact ⟨HS.out, HGS.out, HO7.out.far HKS.out HB7.out (by decide) (by decide), HZ7.out.kp HKS.out HX7.out, HK7.out.then_ HKS.out fun j hj e => by have h1 : j = x7 := e; have h2 := HXL.out; omega⟩
    by_cases e5 : kind = 5
    case pos =>
      subst e5
      clear e1 e2 e3 e4
      have z0 : w6.cell? ⟨W.heap.size + 1, 0, none⟩ = some (.int .i64 5) := HZ.out w6 (Kp.refl _ _) 0 _ rfl
      have z7 : w6.cell? ⟨W.heap.size + 1, 7, none⟩ = some (.int .i64 id) := HZ.out w6 (Kp.refl _ _) 7 _ rfl
      have y3 : w6.cell? ⟨x7, 3, none⟩ = some (.slice A6 l6.length c6) := HB6.out.cell 3
      have f3 := HB6.out.frozen 3
      have hch := HCH.out
      rw [changeB_5 rfl] at hch
      split at hch
      case isFalse => cases hch
      rename_i hcc
      injection hch with hch
      have hhas : hasG (gsL l6) id = true := by rw [HG6.out]; exact hcc.1
      obtain ⟨x, hxm, hxe⟩ := (hasG_iff _ _).1 hhas
      obtain ⟨i, hig, hix⟩ := List.mem_iff_getElem.1 hxm
      have hx : (gsL l6)[i]? = some x := by rw [List.getElem?_eq_getElem hig, hix]
      have hfz : findG (gsL l6) id = (i : Int) := findG_at _ _ i x HSO.out hx hxe
      have hil : i < l6.length := by rwa [gsL_len] at hig
      obtain ⟨q, o, qid, qhol, qpath, qmode, qst, qterm, qB, qd, hA3, el, _, hml, _, _, _, _, q4, _⟩ := HO6.out.arg.cells hil
      subst hA3
      obtain ⟨q', cap', eq1, _, hBq, _⟩ := own_form HO6.out.1 (by omega)
      injection eq1 with eq1 _ eq2
      injection eq1 with eq1
      injection eq1 with e1 e2 _
      subst e1 e2 eq2
      have HXX := Lib.hid hx; have HXE := Lib.hid hxe; have HIL := Lib.hid hil; have HEL := Lib.hid (show l6[i]? = some (⟨qid, qhol, qpath, qmode, qst, qterm⟩, .slice qB qst.length qd) by rw [List.getElem?_eq_getElem hil, el])
      have q4 : w6.cell? ⟨q, i * 6 + 4, none⟩ = some (.slice qB qst.length qd) := by rw [← q4, Nat.zero_add]
      have HQ4 := Lib.hid q4
      obtain ⟨qcs, hqcs⟩ : ∃ cs, Bk w6 q 30 cs := own_bk HO6.out.1 q rfl
      have HQB := Lib.hid hqcs; have HHB := Lib.hid hBq; have HCC := Lib.hid hch.symm
      have pf := (rfind_any (.slice (some ⟨q, 0, none⟩) l6.length c6) l6 id w6 HO6.out.arg (by have := HL6.out; unfold maxLen; omega)).mono fun e w' ⟨z, h1, h2, h3⟩ => (⟨by rw [h1, h2.eq HSO.out, hfz], h3⟩ : e = Ending.returned (.int .i64 (i : Int)) ∧ w6 = w')
      have hk0 : (0 : Int) ≤ (i : Int) := by omega
      have hk1 : (i : Int) < (l6.length : Int) := by omega
      have hqx : q ≠ x7 := fun e => hqcs.ne_ HB6.out (by decide) e
      have hqr : q ≠ W.heap.size + 1 := fun e => by have h1 : W.heap.size + 1 ≠ q := fun e2 => hqcs.ne_ HR6.out (by decide) e2.symm; exact h1 e.symm
      have HQX := Lib.hid hqx
      clear hch hcc hhas hxm hxe hig hix hx hfz hil el hml q4 hqcs hBq hqx hqr
      go_wp2_with fail
      refine pf.mono ?_
      rintro e w7 ⟨rfl, rfl⟩
      clear pf z7
      have pcl := fun W2 (kk : Kp No w6 W2) => (copyS_any (.slice A2 stamp.length c2) stamp W2 (HRV.out.no (HK6.out.trans kk)) HST2.out).mono fun e w' ⟨r, h1, h2, h3⟩ => (⟨r, h1, own_mono h2 kk.size, kk.trans h3⟩ : ∃ r, e = Ending.returned r ∧ w'.ownsRow w6.heap.size 3 1 r stamp.length (ints stamp) ∧ Kp No w6 w')
      have sk : ∀ W2, Kp No w6 W2 → W2.cell? ⟨x7, 3, none⟩ = some (.slice (some ⟨q, 0, none⟩) l6.length c6) ∧ W2.cell? ⟨W.heap.size + 1, 8, none⟩ = some (.slice A2 stamp.length c2) := fun W2 kk => ⟨(HB6.out.no kk).cell 3, HZ.out W2 kk 8 _ rfl⟩
      go_upto_region 18 with (fail)
      have hF := sk _ (Kp.refl No w6).drew
      refine rg_begin (fun W2 => W2.cell? ⟨x7, 3, none⟩ = some (.slice (some ⟨q, 0, none⟩) l6.length c6) ∧ W2.cell? ⟨W.heap.size + 1, 8, none⟩ = some (.slice A2 stamp.length c2)) 8 (by kernel_rfl) ?_
      refine rg_take (i := 0) (v := ?vp0) (by simp only [List.getElem?_toArray, List.getElem?_cons_zero]; rfl) (by kernel_rfl) (by exact fun _ _ _ h => h) (by rfl) ?rp0 hF ?sp0
      case rp0 => (intro W hW; clear hW; go_simp; try with_reducible rfl)
      try simp only [Act.put, List.setIfInBounds_toArray, List.set_cons_zero, List.set_cons_succ]
      refine rg_take (i := 1) (v := ?vp1) (by simp only [List.getElem?_toArray, List.getElem?_cons_succ, List.getElem?_cons_zero]; rfl) (by kernel_rfl) (by exact fun _ _ _ h => h) (by rfl) ?rp1 hF ?sp1
      case rp1 => (intro W hW; obtain ⟨f1, f2⟩ := hW; go_simp; try with_reducible rfl)
      try simp only [Act.put, List.setIfInBounds_toArray, List.set_cons_zero, List.set_cons_succ]
      refine rg_take (i := 2) (v := ?vp2) (by simp only [List.getElem?_toArray, List.getElem?_cons_succ, List.getElem?_cons_zero]; rfl) (by kernel_rfl) (by exact fun _ _ _ h => h) (by rfl) ?rp2 hF ?sp2
      case rp2 => (intro W hW; clear hW; go_simp; try with_reducible rfl)
      try simp only [Act.put, List.setIfInBounds_toArray, List.set_cons_zero, List.set_cons_succ]
      refine rg_take (i := 3) (v := ?vp3) (by simp only [List.getElem?_toArray, List.getElem?_cons_succ, List.getElem?_cons_zero]; rfl) (by kernel_rfl) (by exact fun _ _ _ h => h) (by rfl) ?rp3 hF ?sp3
      case rp3 => (intro W hW; clear hW; go_simp; try with_reducible rfl)
      try simp only [Act.put, List.setIfInBounds_toArray, List.set_cons_zero, List.set_cons_succ]
      refine rg_take (i := 4) (v := ?vp4) (by simp only [List.getElem?_toArray, List.getElem?_cons_succ, List.getElem?_cons_zero]; rfl) (by kernel_rfl) (by exact fun _ _ _ h => h) (by rfl) ?rp4 hF ?sp4
      case rp4 => (intro W hW; obtain ⟨f1, f2⟩ := hW; go_simp; try with_reducible rfl)
      try simp only [Act.put, List.setIfInBounds_toArray, List.set_cons_zero, List.set_cons_succ]
      refine rg_one (i := 5) (oi := ?op5) ?ap5 ?bp5 ?cp5 ?dp5
      case ap5 => (simp only [List.getElem?_toArray, List.getElem?_cons_succ, List.getElem?_cons_zero]; rfl)
      case bp5 => kernel_rfl
      case cp5 => rfl
      intro K hK
      (go_simp; refine (pcl _ (Kp.refl No w6).drew).mono ?_; rintro e w8 ⟨r8, rfl, o8, k8⟩; obtain ⟨A8, c8, rfl, _⟩ := own_len o8)
      refine rg_use hK (sk _ k8) (fun hF => ?_)
      clear hK K
      try simp only [Act.put, List.setIfInBounds_toArray, List.set_cons_zero, List.set_cons_succ]
      refine rg_one (i := 6) (oi := ?op6) ?ap6 ?bp6 ?cp6 ?dp6
      case ap6 => (simp only [List.getElem?_toArray, List.getElem?_cons_succ, List.getElem?_cons_zero]; rfl)
      case bp6 => kernel_rfl
      case cp6 => rfl
      intro K hK
      go_simp
      refine rg_use hK hF (fun hF => ?_)
      clear hK K
      try simp only [Act.put, List.setIfInBounds_toArray, List.set_cons_zero, List.set_cons_succ]
      refine rg_take (i := 7) (v := ?vp7) (by simp only [List.getElem?_toArray, List.getElem?_cons_succ, List.getElem?_cons_zero]; rfl) (by kernel_rfl) (by exact fun _ _ _ h => h) (by rfl) ?rp7 hF ?sp7
      case rp7 => (intro W hW; clear hW; go_simp; try with_reducible rfl)
      try simp only [Act.put, List.setIfInBounds_toArray, List.set_cons_zero, List.set_cons_succ]
      refine rg_one (i := 8) (oi := ?op8) ?ap8 ?bp8 ?cp8 ?dp8
      case ap8 => (simp only [List.getElem?_toArray, List.getElem?_cons_succ, List.getElem?_cons_zero]; rfl)
      case bp8 => kernel_rfl
      case cp8 => rfl
      intro K hK
      (have q8 : w8.cell? ⟨q, i * 6 + 4, none⟩ = some (.slice qB qst.length qd) := (hqcsh HQB.out (HQB.out.no k8) (i * 6 + 4)).trans HQ4.out; have qf8 : w8.frozen? ⟨q, i * 6 + 4, none⟩ = false := (HQB.out.no k8).frozen _; go_simp)
      refine hK _ _ (fun h => absurd rfl h) ?_
      clear hK K
      try simp only [Act.put, List.setIfInBounds_toArray, List.set_cons_zero, List.set_cons_succ]
      refine rg_done (by kernel_rfl) ?_
      have kq := (Kp.refl (One q) w8).set (.inl (One.self q)) (i * 6 + 4) (.slice A8 stamp.length c8)
      have HB9 := Lib.hid ((HB6.out.no k8).kp kq (fun e => HQX.out e.symm))
      have HZ9 := Lib.hid ((HZ6.out.no k8).kp kq (fun e => (HQB.out.ne_ HZ6.out (by decide)) e.symm))
      have HK9 := Lib.hid ((HK6.out.trans k8).then_ kq fun j hj e => by have h1 : j = q := e; have h2 := HHB.out; omega)
      have hil := HIL.out
      have ew : l6[i] = ((⟨qid, qhol, qpath, qmode, qst, qterm⟩, .slice qB qst.length qd) : GP) := by have := HEL.out; rw [List.getElem?_eq_getElem hil] at this; injection this
      have hx : x = ⟨qid, qhol, qpath, qmode, qst, qterm⟩ := by have := HXX.out; rw [List.getElem?_eq_getElem (by rw [gsL_len]; exact hil), gsL_get hil, ew] at this; injection this with this; exact this.symm
      have HO9 := Lib.hid (show OwnG (w8.setCell ⟨q, i * 6 + 4, none⟩ (.slice A8 stamp.length c8)) W.heap.size (.slice (some ⟨q, 0, none⟩) l6.length c6) (l6.set i ({ l6[i].1 with stamp := stamp }, .slice A8 stamp.length c8)) by
        have ho8 := HO6.out.no k8
        have hq8 := HQB.out.no k8
        refine ⟨?_, fun p hp => ?_⟩
        · rw [List.length_set, pL_set l6 i hil]
          exact own_set ho8.1 (by omega)
        · rcases List.mem_or_eq_of_mem_set hp with hp | rfl
          · exact own_kp (ho8.2 p hp) kq fun j e m => own_ne (ho8.2 p hp) hq8 (by decide) (by rw [e, show j = q from m])
          · have o8' := own_mono o8 (show W.heap.size ≤ w6.heap.size from HK6.out.size)
            exact own_kp o8' kq fun j e m => own_ne o8' hq8 (by decide) (by rw [e, show j = q from m]))
      have HGS := Lib.hid (show gsL (l6.set i ({ l6[i].1 with stamp := stamp }, .slice A8 stamp.length c8)) = setG (gsL l) id stamp by
        rw [← HG6.out, setG_at HSO.out HXX.out HXE.out, hx]
        unfold gsL
        rw [List.map_set, ew])
      have hll : (l6.set i ({ l6[i].1 with stamp := stamp }, .slice A8 stamp.length c8)).length = l6.length := List.length_set
      generalize (l6.set i ({ l6[i].1 with stamp := stamp }, .slice A8 stamp.length c8) : List GP) = l9 at HO9 HGS hll
      have HN1' := HN1.out
      have hnx := HNX.out (by simp)
      have hwr : IntKind.i64.wrap (n + 1) = n + 1 := by rw [IntKind.wrap_i64]; omega
      clear pcl sk k8 o8 ew hx hil hF kq hnx HN1' hll
      generalize w8.setCell ⟨q, i * 6 + 4, none⟩ (.slice A8 stamp.length c8) = w9 at *
      have y0 : w9.cell? ⟨x7, 0, none⟩ = some (.int .i64 n) := HB9.out.cell 0
      have f0 := HB9.out.frozen 0
      have HS := Lib.hid (HB9.out.set_ 0 (.int .i64 (n + 1))); have HKS := Lib.hid ((Kp.refl (One x7) w9).set (.inl (One.self x7)) 0 (.int .i64 (n + 1)))
      go_wp2
      go_meet
      refine ⟨rfl, .slice (some ⟨q, 0, none⟩) l6.length c6, l9, ?_⟩
      rw [HCC.out]
      exact ⟨HS.out, HGS.out, HO9.out.far HKS.out HB9.out (by decide) (by decide), HZ9.out.kp HKS.out HX7.out, HK9.out.then_ HKS.out fun j hj e => by have h1 : j = x7 := e; have h2 := HXL.out; omega⟩
    by_cases e6 : kind = 6
    case pos =>
      subst e6
      clear e1 e2 e3 e4 e5
      have z0 : w6.cell? ⟨W.heap.size + 1, 0, none⟩ = some (.int .i64 6) := HZ.out w6 (Kp.refl _ _) 0 _ rfl
      have z7 : w6.cell? ⟨W.heap.size + 1, 7, none⟩ = some (.int .i64 id) := HZ.out w6 (Kp.refl _ _) 7 _ rfl
      have y3 : w6.cell? ⟨x7, 3, none⟩ = some (.slice A6 l6.length c6) := HB6.out.cell 3
      have f3 := HB6.out.frozen 3
      have pw := (rwithout_any (.slice A6 l6.length c6) l6 id w6 HO6.out.arg (by have := HL6.out; omega)).mono fun e w' ⟨sv, h1, h2, h3⟩ => (⟨sv, h1, own_mono h2 HK6.out.size, h3⟩ : ∃ sv, e = Ending.returned sv ∧ w'.ownsRow W.heap.size 30 6 sv (outP l6 id).length (pL (outP l6 id)) ∧ Kp No w6 w')
      go_wp2_with fail
      refine pw.mono ?_
      rintro e w7 ⟨sv7, rfl, o7, k7⟩
      obtain ⟨A7, c7, rfl, _⟩ := own_len o7
      have HO7 := Lib.hid (show OwnG w7 W.heap.size (.slice A7 (outP l6 id).length c7) (outP l6 id) from ⟨o7, fun p hp => own_kp (HO6.out.2 p (List.mem_filter.1 hp).1) k7 fun _ _ m => m⟩)
      have HB7 := Lib.hid (HB6.out.no k7); have HZ7 := Lib.hid (HZ6.out.no k7); have HK7 := Lib.hid (HK6.out.trans k7)
      clear o7 pw z7 y3 f3 k7
      have y3 : w7.cell? ⟨x7, 3, none⟩ = some (.slice A6 l6.length c6) := HB7.out.cell 3
      have f3 := HB7.out.frozen 3
      have HS := Lib.hid ((HB7.out).set_ 3 (.slice A7 (outP l6 id).length c7))
      have HKS := Lib.hid ((Kp.refl (One x7) w7).set (.inl (One.self x7)) 3 (.slice A7 (outP l6 id).length c7))
      have HE := Lib.hid (show c0 = { bk n k t l with grants := delG (bk n k t l).grants id } by have h := HCH.out; rw [changeB_6 rfl] at h; split at h; (injection h with h; exact h.symm); (cases h))
      have HGS := Lib.hid (show gsL (outP l6 id) = ({ bk n k t l with grants := delG (bk n k t l).grants id }).grants from by rw [outP_gs, HG6.out]; rfl)
      go_wp2
      go_meet
      refine ⟨rfl, .slice A7 (outP l6 id).length c7, outP l6 id, ?_⟩
      rw [HE.out]
      exact ⟨HS.out, HGS.out, HO7.out.far HKS.out HB7.out (by decide) (by decide), HZ7.out.kp HKS.out HX7.out, HK7.out.then_ HKS.out fun j hj e => by have h1 : j = x7 := e; have h2 := HXL.out; omega⟩
    by_cases e7 : kind = 7
    case pos =>
      subst e7
      clear e1 e2 e3 e4 e5 e6
      have z0 : w6.cell? ⟨W.heap.size + 1, 0, none⟩ = some (.int .i64 7) := HZ.out w6 (Kp.refl _ _) 0 _ rfl
      have y1 : w6.cell? ⟨x7, 1, none⟩ = some (.int .i64 k) := HB6.out.cell 1
      have f1 := HB6.out.frozen 1
      have hwr : IntKind.i64.wrap (k + 1) = k + 1 := by have h1 := HN1.out; rw [IntKind.wrap_i64]; omega
      have HS := Lib.hid ((HB6.out).set_ 1 (.int .i64 (k + 1)))
      have HKS := Lib.hid ((Kp.refl (One x7) w6).set (.inl (One.self x7)) 1 (.int .i64 (k + 1)))
      have HE := Lib.hid (show c0 = { bk n k t l with boots := k + 1 } by have h := HCH.out; rw [changeB_7 rfl] at h; injection h with h; exact h.symm)
      go_wp2
      go_meet
      refine ⟨rfl, .slice A6 l6.length c6, l6, ?_⟩
      rw [HE.out]
      exact ⟨HS.out, HG6.out, HO6.out.far HKS.out HB6.out (by decide) (by decide), HZ6.out.kp HKS.out HX7.out, HK6.out.then_ HKS.out fun j hj e => by have h1 : j = x7 := e; have h2 := HXL.out; omega⟩
    exact absurd (mayR_kind HM.out) (by simp [e1, e2, e3, e4, e5, e6, e7])
end Go.Proofs.Ytifdceofglocdaa
