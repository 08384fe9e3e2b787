/- What stands against a record: the document's fault by contract. No condition beyond what each theorem states. -/
import Derived.Test.YtifdceofglocdaaB27
import Derived.Test.YtifdceofglocdaaB28
import Derived.Test.YtifdceofglocdaaB18
namespace Go.Proofs.Ytifdceofglocdaa
open Go Go.RowKit Go.PlainAid

/-- where the first grant with an Id stands -/
def findG : List Grt → Int → Int
  | [], _ => -1
  | a :: l, id => if a.id = id then 0 else if findG l id < 0 then -1 else findG l id + 1
theorem findG_has : ∀ (l : List Grt) (id : Int), -1 ≤ findG l id ∧ (0 ≤ findG l id ↔ hasG l id = true)
  | [], id => ⟨by simp [findG], by simp [findG, hasG]⟩
  | a :: l, id => by
    obtain ⟨h1, h2⟩ := findG_has l id
    have e : hasG (a :: l) id = (decide (a.id = id) || hasG l id) := rfl
    rw [e, Bool.or_eq_true, decide_eq_true_iff, ← h2]
    show -1 ≤ (if a.id = id then 0 else if findG l id < 0 then -1 else findG l id + 1) ∧ (0 ≤ (if a.id = id then 0 else if findG l id < 0 then -1 else findG l id + 1) ↔ a.id = id ∨ 0 ≤ findG l id)
    split
    · rename_i h; simp [h]
    · rename_i h
      split
      · rename_i h3; exact ⟨by omega, by omega⟩
      · rename_i h3; exact ⟨by omega, by omega⟩
theorem findG_at : ∀ (l : List Grt) (id : Int) (i : Nat) (g : Grt), l.Pairwise (fun x y => x.id < y.id) → l[i]? = some g → g.id = id → findG l id = i
  | [], _, _, _, _, h, _ => by cases h
  | a :: l, id, 0, g, _, h, e => by
    rw [List.getElem?_cons_zero] at h
    injection h with h
    subst h
    show (if a.id = id then 0 else _) = _
    rw [if_pos e]; rfl
  | a :: l, id, i + 1, g, hs, h, e => by
    rw [List.getElem?_cons_succ] at h
    rw [List.pairwise_cons] at hs
    have h1 := hs.1 g (List.mem_of_getElem? h)
    show (if a.id = id then 0 else if findG l id < 0 then -1 else findG l id + 1) = _
    rw [if_neg (by omega), findG_at l id i g hs.2 h e, if_neg (by omega)]
    omega
theorem FindR.eq {l : List Grt} {id z : Int} (h : FindR l id z) (hs : l.Pairwise (fun x y => x.id < y.id)) : z = findG l id := by
  rcases h with ⟨rfl, h⟩ | ⟨i, g, rfl, h1, h2⟩
  · obtain ⟨h3, h4⟩ := findG_has l id
    have h5 : ¬ 0 ≤ findG l id := fun h6 => by
      obtain ⟨g, hg, e⟩ := (hasG_iff l id).1 (h4.1 h6)
      exact h g hg e
    omega
  · exact (findG_at l id i g hs h1 h2).symm
theorem bad_1 {b : Bok} {r : Rcd} (h : r.kind = 1) : changeB b r = none ↔ ¬ b = newB := by rw [changeB_1 h]; split <;> simp [*]
theorem bad_2 {b : Bok} {r : Rcd} (h : r.kind = 2) : changeB b r = none ↔ ¬ b.longest < r.longest := by
  rw [changeB_2 h]
  split
  · rename_i hc; exact ⟨fun e => (by cases e), fun e => absurd hc e⟩
  · rename_i hc; exact ⟨fun _ => hc, fun _ => rfl⟩
theorem bad_3 {b : Bok} {r : Rcd} (h : r.kind = 3) : changeB b r = none ↔ hasG b.grants r.grant.id = true ∨ b.next ≤ newestS r.grant.stamp := by
  rw [changeB_3 h]
  split
  · rename_i hc; exact ⟨fun _ => hc, fun _ => rfl⟩
  · rename_i hc; exact ⟨fun e => (by cases e), fun e => absurd e hc⟩
theorem bad_4 {b : Bok} {r : Rcd} (h : r.kind = 4) : changeB b r = none ↔ ¬ r.grant.id = b.next := by
  rw [changeB_4 h]
  split
  · rename_i hc; exact ⟨fun e => (by cases e), fun e => absurd hc e⟩
  · rename_i hc; exact ⟨fun _ => hc, fun _ => rfl⟩
theorem bad_5 {b : Bok} {r : Rcd} (h : r.kind = 5) : changeB b r = none ↔ ¬ (hasG b.grants r.id = true ∧ newestS r.stamp = b.next) := by
  rw [changeB_5 h]
  split
  · rename_i hc; exact ⟨fun e => (by cases e), fun e => absurd hc e⟩
  · rename_i hc; exact ⟨fun _ => hc, fun _ => rfl⟩
theorem bad_6 {b : Bok} {r : Rcd} (h : r.kind = 6) : changeB b r = none ↔ ¬ hasG b.grants r.id = true := by
  rw [changeB_6 h]
  split
  · rename_i hc; exact ⟨fun e => (by cases e), fun e => absurd hc e⟩
  · rename_i hc; exact ⟨fun _ => hc, fun _ => rfl⟩
theorem bad_7 {b : Bok} {r : Rcd} (h : r.kind = 7) : changeB b r ≠ none := by rw [changeB_7 h]; intro e; cases e
theorem fault_0 {b : Bok} {r : Rcd} (h : validB b ∧ mayR r) (h2 : limitB b r.kind = 0) (hc : changeB b r ≠ none) : (applyB b r).2 = 0 := by
  cases e : changeB b r with
  | none => exact absurd e hc
  | some c => rw [apply_some h h2 e]
theorem fault_43 {b : Bok} {r : Rcd} (h : validB b ∧ mayR r) (h2 : limitB b r.kind = 0) (hc : changeB b r = none) : (applyB b r).2 = 43 := by rw [apply_none h h2 hc]
theorem fault_lim {b : Bok} {r : Rcd} {e : Int} (h : validB b ∧ mayR r) (h2 : limitB b r.kind = e) (h0 : e ≠ 0) : (applyB b r).2 = e := by rw [apply_lim h (by rw [h2]; exact h0)]; exact h2
theorem shL_nil' : ShL maxLen ([] : List GP) := ⟨Nat.zero_le _, fun p hp => by cases hp⟩
set_option maxRecDepth 100000 in
set_option maxHeartbeats 16000000 in
theorem rfault_any (n k t : Int) (v : Value) (l : List GP) (r : Rcd) (gv rv : Value) (W : World) (hv : ArgG W v l) (hl : ShL maxLen l) (hp : ∀ p ∈ l, p.1.path.length < 9223372036854775807) (hgv : ArgInts W gv r.grant.stamp) (hrv : ArgInts W rv r.stamp) (lg : ShG maxLen r.grant) (ls : r.stamp.length ≤ maxLen) (hp63 : r.grant.path.length < 9223372036854775807) :
    Calls Try.prog 38 #[.agg #[.int .i64 n, .int .i64 k, .int .i64 t, v], .agg (rC r gv rv).toArray] W fun e w' => e = .returned (.int .i64 (applyB (bk n k t l) r).2) ∧ Kp No W w' := by
  obtain ⟨A0, c0, rfl, _⟩ := hv.len
  obtain ⟨R, hR⟩ : ∃ R, R = (applyB (bk n k t l) r).2 := ⟨_, rfl⟩
  rw [← hR]
  have FB := Lib.hid (show ¬ (validB (bk n k t l) ∧ mayR r) → R = 43 from fun h => by rw [hR, apply_bad h])
  have FL := Lib.hid (show ∀ e : Int, validB (bk n k t l) ∧ mayR r → limitB (bk n k t l) r.kind = e → e ≠ 0 → R = e from fun e h1 h2 h3 => by rw [hR]; exact fault_lim h1 h2 h3)
  have F0 := Lib.hid (show validB (bk n k t l) ∧ mayR r → limitB (bk n k t l) r.kind = 0 → changeB (bk n k t l) r ≠ none → R = 0 from fun h1 h2 h3 => by rw [hR]; exact fault_0 h1 h2 h3)
  have F43 := Lib.hid (show validB (bk n k t l) ∧ mayR r → limitB (bk n k t l) r.kind = 0 → changeB (bk n k t l) r = none → R = 43 from fun h1 h2 h3 => by rw [hR]; exact fault_43 h1 h2 h3)
  obtain ⟨A, c, rfl, _⟩ := ints_of _ _ _ hgv
  obtain ⟨A2, c2, rfl, _⟩ := ints_of _ _ _ hrv
  obtain ⟨C, hC⟩ : ∃ C, C = rC r (.slice A r.grant.stamp.length c) (.slice A2 r.stamp.length c2) := ⟨_, rfl⟩
  obtain ⟨CB, hCB⟩ : ∃ CB : List Value, CB = [.int .i64 n, .int .i64 k, .int .i64 t, .slice A0 l.length c0] := ⟨_, rfl⟩
  obtain ⟨w1, hw1⟩ : ∃ w1, w1 = (W.alloc (.cells CB.toArray 25)).alloc (.cells C.toArray 32) := ⟨_, rfl⟩
  have HB1 := Lib.hid (show Bk w1 W.heap.size 25 CB by rw [hw1]; exact (Bk.new' rfl rfl).alloc _)
  have HR1 := Lib.hid (show Bk w1 (W.heap.size + 1) 32 C by rw [hw1]; exact Bk.new' (by simp) rfl)
  have HK1 := Lib.hid (show Kp No W w1 by rw [hw1]; exact ((Kp.refl No W).alloc _).alloc _)
  have HW := Lib.hid hw1
  have hcl : C.length = 12 := by rw [hC]; rfl
  have hbl : CB.length = 4 := by rw [hCB]; rfl
  have HI := Lib.hid (show (Try.prog.info? 32).map (·.size) = some C.length by rw [hcl]; kernel_rfl)
  have HU := Lib.hid Try.underlying32
  have HIB := Lib.hid (show (Try.prog.info? 25).map (·.size) = some CB.length by rw [hbl]; kernel_rfl)
  have HUB := Lib.hid Try.underlying25
  have pv := fun W2 (kk : Kp No w1 W2) => (rbvalid_any n k t (.slice A0 l.length c0) l W2 (hv.no (HK1.out.trans kk)) hl hp).mono fun e w' ⟨h1, h3⟩ => (⟨h1, kk.trans h3⟩ : e = Ending.returned (.bool (decide (validB (bk n k t l)))) ∧ Kp No w1 w')
  have pr := fun W2 (kk : Kp No w1 W2) => (rrec_any r (.slice A r.grant.stamp.length c) (.slice A2 r.stamp.length c2) W2 (hgv.no (HK1.out.trans kk)) (hrv.no (HK1.out.trans kk)) lg ls hp63).mono fun e w' ⟨h1, h3⟩ => (⟨h1, kk.trans h3⟩ : e = Ending.returned (.bool (decide (mayR r))) ∧ Kp No w1 w')
  rw [← hC] at pr
  rw [← hCB] at pv
  have HVA := Lib.hid hv; have HGV := Lib.hid hgv; have HRV := Lib.hid hrv; have HSH := Lib.hid hl; have HLG := Lib.hid lg; have HLS := Lib.hid ls
  have HC := Lib.hid hC; have HCB := Lib.hid hCB
  clear hv hgv hrv hl lg ls hp hp63 hw1 hcl hbl hR
  rw [← hC, ← hCB]
  clear hC hCB
  go_enter Try.func38, Try.ntmps38
  go_upto_region 1 with (fail)
  rw [← HW.out]
  clear HW
  go_wp2_with (with_reducible refine wpList_load_mid rfl _ _ rfl W.heap.size 0 rfl CB _ (bk_range HB1.out) HUB.out rfl HIB.out ?_)
  refine (pv _ (Kp.refl _ _)).mono ?_
  rintro e w2 ⟨rfl, k2⟩
  have HK2 := Lib.hid k2; have HR2 := Lib.hid (HR1.out.no k2)
  clear k2 pv
  by_cases hval : validB (bk n k t l)
  case neg =>
    have HX := Lib.hid (FB.out fun h => hval h.1)
    rw [decide_eq_false hval]
    clear hval pr
    go_wp2
    go_ret
    exact ⟨ret_int rfl HX.out.symm, HK1.out.trans HK2.out⟩
  have HV := Lib.hid hval
  rw [decide_eq_true hval]
  clear hval
  go_wp2_with (refine wpList_load_mid_g (by rfl) _ _ rfl (W.heap.size + 1) 0 rfl C _ (bk_range HR2.out) HU.out rfl HI.out ?_)
  refine (pr _ HK2.out).mono ?_
  rintro e w3 ⟨rfl, k3⟩
  have HB3 := Lib.hid (HB1.out.no k3); have HR3 := Lib.hid (HR1.out.no k3)
  have HK3 := Lib.hid (HK1.out.trans k3)
  clear k3 pr HR2 HI HU HB1 HR1 HK2
  by_cases hmay : mayR r
  case neg =>
    have HX := Lib.hid (FB.out fun h => hmay h.2)
    rw [decide_eq_false hmay]
    clear hmay
    go_wp2
    go_ret
    exact ⟨ret_int rfl HX.out.symm, HK3.out⟩
  have HM := Lib.hid hmay
  rw [decide_eq_true hmay]
  clear hmay FB
  have hsort : (gsL l).Pairwise (fun x y => x.id < y.id) := ((valid_bk n k t l).1 HV.out).2.2.2.2
  have hfind := fun (i : Int) W2 (kk : Kp No w3 W2) => (rfind_any (.slice A0 l.length c0) l i W2 (HVA.out.no (HK3.out.trans kk)) HSH.out.1).mono fun e w' ⟨z, h1, h2, h3⟩ => (⟨by rw [h1, h2.eq hsort], h3⟩ : e = Ending.returned (.int .i64 (findG (gsL l) i)) ∧ W2 = w')
  have psm := fun W2 (kk : Kp No w3 W2) => (rsameB_any n k t 1 0 0 (.slice A0 l.length c0) (.slice none 0 0) l [] W2 (HVA.out.no (HK3.out.trans kk)) (ArgG.nil _ _ _) HSH.out shL_nil').mono fun e w' ⟨h1, h3⟩ => (⟨h1, kk.trans h3⟩ : e = Ending.returned (.bool (decide (bk n k t l = bk 1 0 0 []))) ∧ Kp No w3 w')
  rw [← HCB.out] at psm
  have hz1 := findG_has (gsL l) r.id; have hz2 := findG_has (gsL l) r.grant.id
  have pf := hfind r.id; have pf2 := hfind r.grant.id
  obtain ⟨kind, ⟨gid, hol, path, mode, st, term⟩, id, stamp, next, boots, longest⟩ := r
  replace hz1 : -1 ≤ findG (gsL l) id ∧ (0 ≤ findG (gsL l) id ↔ hasG (gsL l) id = true) := hz1
  replace hz2 : -1 ≤ findG (gsL l) gid ∧ (0 ≤ findG (gsL l) gid ↔ hasG (gsL l) gid = true) := hz2
  replace HGV := Lib.hid (show ArgInts W (.slice A st.length c) st from HGV.out)
  replace HRV := Lib.hid (show ArgInts W (.slice A2 stamp.length c2) stamp from HRV.out)
  have pn := fun W2 (kk : Kp No w3 W2) => rlast_any (.slice A st.length c) st W2 (HGV.out.no (HK3.out.trans kk)) HLG.out.2
  have pn2 := fun W2 (kk : Kp No w3 W2) => rlast_any (.slice A2 stamp.length c2) stamp W2 (HRV.out.no (HK3.out.trans kk)) HLS.out
  obtain ⟨q1, hzz1⟩ : ∃ z, z = findG (gsL l) id := ⟨_, rfl⟩
  obtain ⟨q2, hzz2⟩ : ∃ z, z = findG (gsL l) gid := ⟨_, rfl⟩
  obtain ⟨nw, hnw⟩ : ∃ z, z = newestS st := ⟨_, rfl⟩
  obtain ⟨nw2, hnw2⟩ : ∃ z, z = newestS stamp := ⟨_, rfl⟩
  replace pf : ∀ W2, Kp No w3 W2 → Calls Try.prog 40 #[.slice A0 l.length c0, .int .i64 id] W2 fun e w' => e = Ending.returned (.int .i64 q1) ∧ W2 = w' := by rw [hzz1]; exact pf
  replace pf2 : ∀ W2, Kp No w3 W2 → Calls Try.prog 40 #[.slice A0 l.length c0, .int .i64 gid] W2 fun e w' => e = Ending.returned (.int .i64 q2) ∧ W2 = w' := by rw [hzz2]; exact pf2
  rw [← hnw] at pn
  rw [← hnw2] at pn2
  rw [← hzz1] at hz1
  rw [← hzz2] at hz2
  have HZ1 := Lib.hid hz1.2; have HZ2 := Lib.hid hz2.2; have HNW := Lib.hid hnw; have HNW2 := Lib.hid hnw2
  clear hz1 hz2 hzz1 hzz2 hnw hnw2 hsort hfind
  have HY := Lib.hid (show ∀ W2, Kp No w3 W2 → ∀ (j : Nat) u, ([.int .i64 n, .int .i64 k, .int .i64 t, .slice A0 l.length c0] : List Value)[j]? = some u → W2.cell? ⟨W.heap.size, j, none⟩ = some u from fun W2 kk j u hu => by
    rw [(HB3.out.no kk).cell, HCB.out]; exact hu)
  have HZ := Lib.hid (show ∀ W2, Kp No w3 W2 → ∀ (j : Nat) u, ([.int .i64 kind, .int .i64 gid, .int .i64 hol, .string ⟨path.toArray⟩, .int .i64 mode, .slice A st.length c, .int .i64 term, .int .i64 id, .slice A2 stamp.length c2, .int .i64 next, .int .i64 boots, .int .i64 longest] : List Value)[j]? = some u → W2.cell? ⟨W.heap.size + 1, j, none⟩ = some u from fun W2 kk j u hu => by
    rw [(HR3.out.no kk).cell, HC.out]; exact hu)
  clear HC HCB HR3 HVA HSH HLG HLS
  by_cases e1 : kind = 1
  case pos =>
    subst e1
    have HL := Lib.hid (show limitB (bk n k t l) 1 = 0 by simp [limitB, bk])
    have y0 : w3.cell? ⟨W.heap.size, 0, none⟩ = some (.int .i64 n) := HY.out w3 (Kp.refl _ _) 0 _ rfl
    have y1 : w3.cell? ⟨W.heap.size, 1, none⟩ = some (.int .i64 k) := HY.out w3 (Kp.refl _ _) 1 _ rfl
    have y2 : w3.cell? ⟨W.heap.size, 2, none⟩ = some (.int .i64 t) := HY.out w3 (Kp.refl _ _) 2 _ rfl
    have y3 : w3.cell? ⟨W.heap.size, 3, none⟩ = some (.slice A0 l.length c0) := HY.out w3 (Kp.refl _ _) 3 _ rfl
    have z0 : w3.cell? ⟨W.heap.size + 1, 0, none⟩ = some (.int .i64 1) := HZ.out w3 (Kp.refl _ _) 0 _ rfl
    have z1 : w3.cell? ⟨W.heap.size + 1, 1, none⟩ = some (.int .i64 gid) := HZ.out w3 (Kp.refl _ _) 1 _ rfl
    have z5 : w3.cell? ⟨W.heap.size + 1, 5, none⟩ = some (.slice A st.length c) := HZ.out w3 (Kp.refl _ _) 5 _ rfl
    have z7 : w3.cell? ⟨W.heap.size + 1, 7, none⟩ = some (.int .i64 id) := HZ.out w3 (Kp.refl _ _) 7 _ rfl
    have z8 : w3.cell? ⟨W.heap.size + 1, 8, none⟩ = some (.slice A2 stamp.length c2) := HZ.out w3 (Kp.refl _ _) 8 _ rfl
    have z11 : w3.cell? ⟨W.heap.size + 1, 11, none⟩ = some (.int .i64 longest) := HZ.out w3 (Kp.refl _ _) 11 _ rfl
    go_upto_region 12 with (first | (go_at_call 40; refine (pf _ (Kp.refl _ _)).mono ?_; rintro e w4 ⟨rfl, rfl⟩) | fail)
    have hF := (Kp.refl No w3).drew
    refine rg_begin (fun W2 => Kp No w3 W2) 5 (by kernel_rfl) ?_
    refine rg_take (i := 0) (v := ?vp0) (by simp only [List.getElem?_toArray, List.getElem?_cons_zero]; rfl) (by kernel_rfl) (by exact fun _ _ _ h => h) (by rfl) ?rp0 hF ?sp0
    case rp0 => (intro W9 hW; refine exec_load_mid W9 25 (.tmp 2) ?_ W.heap.size 0 ?_ CB _ (bk_range (HB3.out.no hW)) HUB.out ?_ HIB.out; exact rfl; exact rfl; exact rfl)
    try simp only [Act.put, List.setIfInBounds_toArray, List.set_cons_zero, List.set_cons_succ]
    refine rg_one (i := 1) (oi := ?op1) ?ap1 ?bp1 ?cp1 ?dp1
    case ap1 => (simp only [List.getElem?_toArray, List.getElem?_cons_succ, List.getElem?_cons_zero]; rfl)
    case bp1 => kernel_rfl
    case cp1 => rfl
    intro K hK
    (go_simp; refine (rnew_any _).mono ?_; rintro e w5 ⟨rfl, k5⟩; have k5' := (Kp.refl No w3).drew.trans k5)
    refine rg_use hK (k5') (fun hF => ?_)
    clear hK K
    try simp only [Act.put, List.setIfInBounds_toArray, List.set_cons_zero, List.set_cons_succ]
    refine rg_one (i := 2) (oi := ?op2) ?ap2 ?bp2 ?cp2 ?dp2
    case ap2 => (simp only [List.getElem?_toArray, List.getElem?_cons_succ, List.getElem?_cons_zero]; rfl)
    case bp2 => kernel_rfl
    case cp2 => rfl
    intro K hK
    (go_simp; refine (psm w5 k5').mono ?_; rintro e w6 ⟨rfl, k6⟩)
    refine rg_use hK (k6) (fun hF => ?_)
    clear hK K
    try simp only [Act.put, List.setIfInBounds_toArray, List.set_cons_zero, List.set_cons_succ]
    refine rg_take (i := 3) (v := ?vp3) (by simp only [List.getElem?_toArray, List.getElem?_cons_succ, List.getElem?_cons_zero]; rfl) (by kernel_rfl) (by exact fun _ _ _ h => h) (by rfl) ?rp3 hF ?sp3
    case rp3 => (intro W hW; clear hW; go_simp; try with_reducible rfl)
    try simp only [Act.put, List.setIfInBounds_toArray, List.set_cons_zero, List.set_cons_succ]
    refine rg_take (i := 4) (v := ?vp4) (by simp only [List.getElem?_toArray, List.getElem?_cons_succ, List.getElem?_cons_zero]; rfl) (by kernel_rfl) (by exact fun _ _ _ h => h) (by rfl) ?rp4 hF ?sp4
    case rp4 => (intro W hW; clear hW; go_simp; try with_reducible rfl)
    try simp only [Act.put, List.setIfInBounds_toArray, List.set_cons_zero, List.set_cons_succ]
    refine rg_done (by kernel_rfl) ?_
    have HK6 := Lib.hid (HK3.out.trans k6)
    clear hF k5 k5' k6 psm
    by_cases hb : bk n k t l = bk 1 0 0 []
    case neg =>
      have HX := Lib.hid (show R = 43 from F43.out ⟨HV.out, HM.out⟩ HL.out ((bad_1 rfl).2 hb))
      rw [decide_eq_false hb]
      clear hb
      go_wp2_with (first | (go_at_call 40; refine (pf _ (Kp.refl _ _)).mono ?_; rintro e w4 ⟨rfl, rfl⟩) | fail)
      go_ret
      exact ⟨ret_int rfl HX.out.symm, HK6.out⟩
    have HX := Lib.hid (show R = 0 from F0.out ⟨HV.out, HM.out⟩ HL.out (fun e => (bad_1 rfl).1 e hb))
    rw [decide_eq_true hb]
    clear hb
    go_wp2_with (first | (go_at_call 40; refine (pf _ (Kp.refl _ _)).mono ?_; rintro e w4 ⟨rfl, rfl⟩) | fail)
    go_ret
    exact ⟨ret_int rfl HX.out.symm, HK6.out⟩
  by_cases e2 : kind = 2
  case pos =>
    subst e2
    clear e1
    have HL := Lib.hid (show limitB (bk n k t l) 2 = 0 by simp [limitB, bk])
    have y0 : w3.cell? ⟨W.heap.size, 0, none⟩ = some (.int .i64 n) := HY.out w3 (Kp.refl _ _) 0 _ rfl
    have y1 : w3.cell? ⟨W.heap.size, 1, none⟩ = some (.int .i64 k) := HY.out w3 (Kp.refl _ _) 1 _ rfl
    have y2 : w3.cell? ⟨W.heap.size, 2, none⟩ = some (.int .i64 t) := HY.out w3 (Kp.refl _ _) 2 _ rfl
    have y3 : w3.cell? ⟨W.heap.size, 3, none⟩ = some (.slice A0 l.length c0) := HY.out w3 (Kp.refl _ _) 3 _ rfl
    have z0 : w3.cell? ⟨W.heap.size + 1, 0, none⟩ = some (.int .i64 2) := HZ.out w3 (Kp.refl _ _) 0 _ rfl
    have z1 : w3.cell? ⟨W.heap.size + 1, 1, none⟩ = some (.int .i64 gid) := HZ.out w3 (Kp.refl _ _) 1 _ rfl
    have z5 : w3.cell? ⟨W.heap.size + 1, 5, none⟩ = some (.slice A st.length c) := HZ.out w3 (Kp.refl _ _) 5 _ rfl
    have z7 : w3.cell? ⟨W.heap.size + 1, 7, none⟩ = some (.int .i64 id) := HZ.out w3 (Kp.refl _ _) 7 _ rfl
    have z8 : w3.cell? ⟨W.heap.size + 1, 8, none⟩ = some (.slice A2 stamp.length c2) := HZ.out w3 (Kp.refl _ _) 8 _ rfl
    have z11 : w3.cell? ⟨W.heap.size + 1, 11, none⟩ = some (.int .i64 longest) := HZ.out w3 (Kp.refl _ _) 11 _ rfl
    by_cases hb : t < longest
    case neg =>
      have HX := Lib.hid (show R = 43 from F43.out ⟨HV.out, HM.out⟩ HL.out ((bad_2 rfl).2 hb))
      have dd : longest ≤ t := by omega
      go_wp2_with (first | (go_at_call 40; refine (pf _ (Kp.refl _ _)).mono ?_; rintro e w4 ⟨rfl, rfl⟩) | fail)
      go_ret
      exact ⟨ret_int rfl HX.out.symm, HK3.out⟩
    have HX := Lib.hid (show R = 0 from F0.out ⟨HV.out, HM.out⟩ HL.out (fun e => (bad_2 rfl).1 e hb))
    have dd : ¬ longest ≤ t := by omega
    go_wp2_with (first | (go_at_call 40; refine (pf _ (Kp.refl _ _)).mono ?_; rintro e w4 ⟨rfl, rfl⟩) | fail)
    go_ret
    exact ⟨ret_int rfl HX.out.symm, HK3.out⟩
  by_cases e3 : kind = 3
  case pos =>
    subst e3
    clear e1 e2
    by_cases hln : l.length = 6
    case pos =>
      have HX := Lib.hid (show R = 51 from FL.out _ ⟨HV.out, HM.out⟩ (by simp [limitB, bk, gsL_len, hln]) (by decide))
      have d6 : ((l.length : Int) == 6) = true := by rw [beq_iff_eq]; omega
      clear hln
      have y0 : w3.cell? ⟨W.heap.size, 0, none⟩ = some (.int .i64 n) := HY.out w3 (Kp.refl _ _) 0 _ rfl
      have y1 : w3.cell? ⟨W.heap.size, 1, none⟩ = some (.int .i64 k) := HY.out w3 (Kp.refl _ _) 1 _ rfl
      have y2 : w3.cell? ⟨W.heap.size, 2, none⟩ = some (.int .i64 t) := HY.out w3 (Kp.refl _ _) 2 _ rfl
      have y3 : w3.cell? ⟨W.heap.size, 3, none⟩ = some (.slice A0 l.length c0) := HY.out w3 (Kp.refl _ _) 3 _ rfl
      have z0 : w3.cell? ⟨W.heap.size + 1, 0, none⟩ = some (.int .i64 3) := HZ.out w3 (Kp.refl _ _) 0 _ rfl
      have z1 : w3.cell? ⟨W.heap.size + 1, 1, none⟩ = some (.int .i64 gid) := HZ.out w3 (Kp.refl _ _) 1 _ rfl
      have z5 : w3.cell? ⟨W.heap.size + 1, 5, none⟩ = some (.slice A st.length c) := HZ.out w3 (Kp.refl _ _) 5 _ rfl
      have z7 : w3.cell? ⟨W.heap.size + 1, 7, none⟩ = some (.int .i64 id) := HZ.out w3 (Kp.refl _ _) 7 _ rfl
      have z8 : w3.cell? ⟨W.heap.size + 1, 8, none⟩ = some (.slice A2 stamp.length c2) := HZ.out w3 (Kp.refl _ _) 8 _ rfl
      have z11 : w3.cell? ⟨W.heap.size + 1, 11, none⟩ = some (.int .i64 longest) := HZ.out w3 (Kp.refl _ _) 11 _ rfl
      go_wp2_with (first | (go_at_call 40; refine (pf _ (Kp.refl _ _)).mono ?_; rintro e w4 ⟨rfl, rfl⟩) | fail)
      go_ret
      exact ⟨ret_int rfl HX.out.symm, HK3.out⟩
    have d6 : ((l.length : Int) == 6) = false := by rw [beq_eq_false_iff_ne]; omega
    have HL := Lib.hid (show limitB (bk n k t l) 3 = 0 by simp [limitB, bk, hln, gsL_len])
    clear hln
    have y0 : w3.cell? ⟨W.heap.size, 0, none⟩ = some (.int .i64 n) := HY.out w3 (Kp.refl _ _) 0 _ rfl
    have y1 : w3.cell? ⟨W.heap.size, 1, none⟩ = some (.int .i64 k) := HY.out w3 (Kp.refl _ _) 1 _ rfl
    have y2 : w3.cell? ⟨W.heap.size, 2, none⟩ = some (.int .i64 t) := HY.out w3 (Kp.refl _ _) 2 _ rfl
    have y3 : w3.cell? ⟨W.heap.size, 3, none⟩ = some (.slice A0 l.length c0) := HY.out w3 (Kp.refl _ _) 3 _ rfl
    have z0 : w3.cell? ⟨W.heap.size + 1, 0, none⟩ = some (.int .i64 3) := HZ.out w3 (Kp.refl _ _) 0 _ rfl
    have z1 : w3.cell? ⟨W.heap.size + 1, 1, none⟩ = some (.int .i64 gid) := HZ.out w3 (Kp.refl _ _) 1 _ rfl
    have z5 : w3.cell? ⟨W.heap.size + 1, 5, none⟩ = some (.slice A st.length c) := HZ.out w3 (Kp.refl _ _) 5 _ rfl
    have z7 : w3.cell? ⟨W.heap.size + 1, 7, none⟩ = some (.int .i64 id) := HZ.out w3 (Kp.refl _ _) 7 _ rfl
    have z8 : w3.cell? ⟨W.heap.size + 1, 8, none⟩ = some (.slice A2 stamp.length c2) := HZ.out w3 (Kp.refl _ _) 8 _ rfl
    have z11 : w3.cell? ⟨W.heap.size + 1, 11, none⟩ = some (.int .i64 longest) := HZ.out w3 (Kp.refl _ _) 11 _ rfl
    by_cases hg : 0 ≤ q2
    case pos =>
      have HX := Lib.hid (show R = 43 from F43.out ⟨HV.out, HM.out⟩ HL.out ((bad_3 rfl).2 (.inl (HZ2.out.1 hg))))
      have dd : decide (0 ≤ q2) = true := decide_eq_true hg
      clear hg
      go_wp2_with (first | (go_at_call 40; refine (pf _ (Kp.refl _ _)).mono ?_; rintro e w4 ⟨rfl, rfl⟩) | fail)
      go_quiet (first | (go_at_call 40; exact Calls.quiet_of_same ((pf2 _ (by with_reducible repeat (first | assumption | exact Kp.refl _ _ | refine Kp.drew ?_ | refine Kp.drewN ?_ _))).mono fun _ _ ⟨h1, h2⟩ => ⟨h1, h2.symm⟩)) | (go_at_call 50; exact Calls.quiet_of_same ((pn _ (by with_reducible repeat (first | assumption | exact Kp.refl _ _ | refine Kp.drew ?_ | refine Kp.drewN ?_ _))).mono fun _ _ ⟨h1, h2⟩ => ⟨h1, h2.symm⟩)) | fail)
      go_wp2_with (first | (go_at_call 40; refine (pf _ (Kp.refl _ _)).mono ?_; rintro e w4 ⟨rfl, rfl⟩) | fail)
      go_ret
      exact ⟨ret_int rfl HX.out.symm, HK3.out.drewN _⟩
    have dd : decide (0 ≤ q2) = false := decide_eq_false hg
    have HG := Lib.hid hg
    clear hg
    by_cases hn : n ≤ nw
    case pos =>
      have HX := Lib.hid (show R = 43 from F43.out ⟨HV.out, HM.out⟩ HL.out ((bad_3 rfl).2 (.inr (by rw [← HNW.out]; exact hn))))
      have de : decide (n ≤ nw) = true := decide_eq_true hn
      clear hn
      go_wp2_with (first | (go_at_call 40; refine (pf _ (Kp.refl _ _)).mono ?_; rintro e w4 ⟨rfl, rfl⟩) | fail)
      go_quiet (first | (go_at_call 40; exact Calls.quiet_of_same ((pf2 _ (by with_reducible repeat (first | assumption | exact Kp.refl _ _ | refine Kp.drew ?_ | refine Kp.drewN ?_ _))).mono fun _ _ ⟨h1, h2⟩ => ⟨h1, h2.symm⟩)) | (go_at_call 50; exact Calls.quiet_of_same ((pn _ (by with_reducible repeat (first | assumption | exact Kp.refl _ _ | refine Kp.drew ?_ | refine Kp.drewN ?_ _))).mono fun _ _ ⟨h1, h2⟩ => ⟨h1, h2.symm⟩)) | fail)
      go_wp2_with (first | (go_at_call 40; refine (pf _ (Kp.refl _ _)).mono ?_; rintro e w4 ⟨rfl, rfl⟩) | fail)
      go_ret
      exact ⟨ret_int rfl HX.out.symm, HK3.out.drewN _⟩
    have HX := Lib.hid (show R = 0 from F0.out ⟨HV.out, HM.out⟩ HL.out (fun e => by rcases (bad_3 rfl).1 e with h | h; exact HG.out (HZ2.out.2 h); exact hn (by rw [HNW.out]; exact h)))
    have de : decide (n ≤ nw) = false := decide_eq_false hn
    clear hn
    go_wp2_with (first | (go_at_call 40; refine (pf _ (Kp.refl _ _)).mono ?_; rintro e w4 ⟨rfl, rfl⟩) | fail)
    go_quiet (first | (go_at_call 40; exact Calls.quiet_of_same ((pf2 _ (by with_reducible repeat (first | assumption | exact Kp.refl _ _ | refine Kp.drew ?_ | refine Kp.drewN ?_ _))).mono fun _ _ ⟨h1, h2⟩ => ⟨h1, h2.symm⟩)) | (go_at_call 50; exact Calls.quiet_of_same ((pn _ (by with_reducible repeat (first | assumption | exact Kp.refl _ _ | refine Kp.drew ?_ | refine Kp.drewN ?_ _))).mono fun _ _ ⟨h1, h2⟩ => ⟨h1, h2.symm⟩)) | fail)
    go_wp2_with (first | (go_at_call 40; refine (pf _ (Kp.refl _ _)).mono ?_; rintro e w4 ⟨rfl, rfl⟩) | fail)
    go_ret
    exact ⟨ret_int rfl HX.out.symm, HK3.out.drewN _⟩
  by_cases e4 : kind = 4
  case pos =>
    subst e4
    clear e1 e2 e3
    by_cases hnx : 1099511627776 < n
    case pos =>
      have HX := Lib.hid (show R = 66 from FL.out _ ⟨HV.out, HM.out⟩ (by simp [limitB, bk, hnx]) (by decide))
      have y0 : w3.cell? ⟨W.heap.size, 0, none⟩ = some (.int .i64 n) := HY.out w3 (Kp.refl _ _) 0 _ rfl
      have y1 : w3.cell? ⟨W.heap.size, 1, none⟩ = some (.int .i64 k) := HY.out w3 (Kp.refl _ _) 1 _ rfl
      have y2 : w3.cell? ⟨W.heap.size, 2, none⟩ = some (.int .i64 t) := HY.out w3 (Kp.refl _ _) 2 _ rfl
      have y3 : w3.cell? ⟨W.heap.size, 3, none⟩ = some (.slice A0 l.length c0) := HY.out w3 (Kp.refl _ _) 3 _ rfl
      have z0 : w3.cell? ⟨W.heap.size + 1, 0, none⟩ = some (.int .i64 4) := HZ.out w3 (Kp.refl _ _) 0 _ rfl
      have z1 : w3.cell? ⟨W.heap.size + 1, 1, none⟩ = some (.int .i64 gid) := HZ.out w3 (Kp.refl _ _) 1 _ rfl
      have z5 : w3.cell? ⟨W.heap.size + 1, 5, none⟩ = some (.slice A st.length c) := HZ.out w3 (Kp.refl _ _) 5 _ rfl
      have z7 : w3.cell? ⟨W.heap.size + 1, 7, none⟩ = some (.int .i64 id) := HZ.out w3 (Kp.refl _ _) 7 _ rfl
      have z8 : w3.cell? ⟨W.heap.size + 1, 8, none⟩ = some (.slice A2 stamp.length c2) := HZ.out w3 (Kp.refl _ _) 8 _ rfl
      have z11 : w3.cell? ⟨W.heap.size + 1, 11, none⟩ = some (.int .i64 longest) := HZ.out w3 (Kp.refl _ _) 11 _ rfl
      go_wp2_with (first | (go_at_call 40; refine (pf _ (Kp.refl _ _)).mono ?_; rintro e w4 ⟨rfl, rfl⟩) | fail)
      go_ret
      exact ⟨ret_int rfl HX.out.symm, HK3.out⟩
    by_cases hln : l.length = 6
    case pos =>
      have HX := Lib.hid (show R = 51 from FL.out _ ⟨HV.out, HM.out⟩ (by simp [limitB, bk, gsL_len, hln, hnx]) (by decide))
      have d6 : ((l.length : Int) == 6) = true := by rw [beq_iff_eq]; omega
      clear hln
      have y0 : w3.cell? ⟨W.heap.size, 0, none⟩ = some (.int .i64 n) := HY.out w3 (Kp.refl _ _) 0 _ rfl
      have y1 : w3.cell? ⟨W.heap.size, 1, none⟩ = some (.int .i64 k) := HY.out w3 (Kp.refl _ _) 1 _ rfl
      have y2 : w3.cell? ⟨W.heap.size, 2, none⟩ = some (.int .i64 t) := HY.out w3 (Kp.refl _ _) 2 _ rfl
      have y3 : w3.cell? ⟨W.heap.size, 3, none⟩ = some (.slice A0 l.length c0) := HY.out w3 (Kp.refl _ _) 3 _ rfl
      have z0 : w3.cell? ⟨W.heap.size + 1, 0, none⟩ = some (.int .i64 4) := HZ.out w3 (Kp.refl _ _) 0 _ rfl
      have z1 : w3.cell? ⟨W.heap.size + 1, 1, none⟩ = some (.int .i64 gid) := HZ.out w3 (Kp.refl _ _) 1 _ rfl
      have z5 : w3.cell? ⟨W.heap.size + 1, 5, none⟩ = some (.slice A st.length c) := HZ.out w3 (Kp.refl _ _) 5 _ rfl
      have z7 : w3.cell? ⟨W.heap.size + 1, 7, none⟩ = some (.int .i64 id) := HZ.out w3 (Kp.refl _ _) 7 _ rfl
      have z8 : w3.cell? ⟨W.heap.size + 1, 8, none⟩ = some (.slice A2 stamp.length c2) := HZ.out w3 (Kp.refl _ _) 8 _ rfl
      have z11 : w3.cell? ⟨W.heap.size + 1, 11, none⟩ = some (.int .i64 longest) := HZ.out w3 (Kp.refl _ _) 11 _ rfl
      go_wp2_with (first | (go_at_call 40; refine (pf _ (Kp.refl _ _)).mono ?_; rintro e w4 ⟨rfl, rfl⟩) | fail)
      go_ret
      exact ⟨ret_int rfl HX.out.symm, HK3.out⟩
    have d6 : ((l.length : Int) == 6) = false := by rw [beq_eq_false_iff_ne]; omega
    have HL := Lib.hid (show limitB (bk n k t l) 4 = 0 by simp [limitB, bk, hln, hnx, gsL_len])
    clear hln
    have y0 : w3.cell? ⟨W.heap.size, 0, none⟩ = some (.int .i64 n) := HY.out w3 (Kp.refl _ _) 0 _ rfl
    have y1 : w3.cell? ⟨W.heap.size, 1, none⟩ = some (.int .i64 k) := HY.out w3 (Kp.refl _ _) 1 _ rfl
    have y2 : w3.cell? ⟨W.heap.size, 2, none⟩ = some (.int .i64 t) := HY.out w3 (Kp.refl _ _) 2 _ rfl
    have y3 : w3.cell? ⟨W.heap.size, 3, none⟩ = some (.slice A0 l.length c0) := HY.out w3 (Kp.refl _ _) 3 _ rfl
    have z0 : w3.cell? ⟨W.heap.size + 1, 0, none⟩ = some (.int .i64 4) := HZ.out w3 (Kp.refl _ _) 0 _ rfl
    have z1 : w3.cell? ⟨W.heap.size + 1, 1, none⟩ = some (.int .i64 gid) := HZ.out w3 (Kp.refl _ _) 1 _ rfl
    have z5 : w3.cell? ⟨W.heap.size + 1, 5, none⟩ = some (.slice A st.length c) := HZ.out w3 (Kp.refl _ _) 5 _ rfl
    have z7 : w3.cell? ⟨W.heap.size + 1, 7, none⟩ = some (.int .i64 id) := HZ.out w3 (Kp.refl _ _) 7 _ rfl
    have z8 : w3.cell? ⟨W.heap.size + 1, 8, none⟩ = some (.slice A2 stamp.length c2) := HZ.out w3 (Kp.refl _ _) 8 _ rfl
    have z11 : w3.cell? ⟨W.heap.size + 1, 11, none⟩ = some (.int .i64 longest) := HZ.out w3 (Kp.refl _ _) 11 _ rfl
    by_cases hb : gid = n
    case neg =>
      have HX := Lib.hid (show R = 43 from F43.out ⟨HV.out, HM.out⟩ HL.out ((bad_4 rfl).2 hb))
      have dd : (gid != n) = true := by rw [bne_iff_ne]; exact hb
      clear hb
      go_wp2_with (first | (go_at_call 40; refine (pf _ (Kp.refl _ _)).mono ?_; rintro e w4 ⟨rfl, rfl⟩) | fail)
      go_ret
      exact ⟨ret_int rfl HX.out.symm, HK3.out⟩
    have HX := Lib.hid (show R = 0 from F0.out ⟨HV.out, HM.out⟩ HL.out (fun e => (bad_4 rfl).1 e hb))
    have dd : (gid != n) = false := by rw [bne_eq_false_iff_eq]; exact hb
    clear hb
    go_wp2_with (first | (go_at_call 40; refine (pf _ (Kp.refl _ _)).mono ?_; rintro e w4 ⟨rfl, rfl⟩) | fail)
    go_ret
    exact ⟨ret_int rfl HX.out.symm, HK3.out⟩
  by_cases e5 : kind = 5
  case pos =>
    subst e5
    clear e1 e2 e3 e4
    by_cases hnx : 1099511627776 < n
    case pos =>
      have HX := Lib.hid (show R = 66 from FL.out _ ⟨HV.out, HM.out⟩ (by simp [limitB, bk, hnx]) (by decide))
      have y0 : w3.cell? ⟨W.heap.size, 0, none⟩ = some (.int .i64 n) := HY.out w3 (Kp.refl _ _) 0 _ rfl
      have y1 : w3.cell? ⟨W.heap.size, 1, none⟩ = some (.int .i64 k) := HY.out w3 (Kp.refl _ _) 1 _ rfl
      have y2 : w3.cell? ⟨W.heap.size, 2, none⟩ = some (.int .i64 t) := HY.out w3 (Kp.refl _ _) 2 _ rfl
      have y3 : w3.cell? ⟨W.heap.size, 3, none⟩ = some (.slice A0 l.length c0) := HY.out w3 (Kp.refl _ _) 3 _ rfl
      have z0 : w3.cell? ⟨W.heap.size + 1, 0, none⟩ = some (.int .i64 5) := HZ.out w3 (Kp.refl _ _) 0 _ rfl
      have z1 : w3.cell? ⟨W.heap.size + 1, 1, none⟩ = some (.int .i64 gid) := HZ.out w3 (Kp.refl _ _) 1 _ rfl
      have z5 : w3.cell? ⟨W.heap.size + 1, 5, none⟩ = some (.slice A st.length c) := HZ.out w3 (Kp.refl _ _) 5 _ rfl
      have z7 : w3.cell? ⟨W.heap.size + 1, 7, none⟩ = some (.int .i64 id) := HZ.out w3 (Kp.refl _ _) 7 _ rfl
      have z8 : w3.cell? ⟨W.heap.size + 1, 8, none⟩ = some (.slice A2 stamp.length c2) := HZ.out w3 (Kp.refl _ _) 8 _ rfl
      have z11 : w3.cell? ⟨W.heap.size + 1, 11, none⟩ = some (.int .i64 longest) := HZ.out w3 (Kp.refl _ _) 11 _ rfl
      go_wp2_with (first | (go_at_call 40; refine (pf _ (Kp.refl _ _)).mono ?_; rintro e w4 ⟨rfl, rfl⟩) | fail)
      go_ret
      exact ⟨ret_int rfl HX.out.symm, HK3.out⟩
    have HL := Lib.hid (show limitB (bk n k t l) 5 = 0 by simp [limitB, bk, hnx])
    have y0 : w3.cell? ⟨W.heap.size, 0, none⟩ = some (.int .i64 n) := HY.out w3 (Kp.refl _ _) 0 _ rfl
    have y1 : w3.cell? ⟨W.heap.size, 1, none⟩ = some (.int .i64 k) := HY.out w3 (Kp.refl _ _) 1 _ rfl
    have y2 : w3.cell? ⟨W.heap.size, 2, none⟩ = some (.int .i64 t) := HY.out w3 (Kp.refl _ _) 2 _ rfl
    have y3 : w3.cell? ⟨W.heap.size, 3, none⟩ = some (.slice A0 l.length c0) := HY.out w3 (Kp.refl _ _) 3 _ rfl
    have z0 : w3.cell? ⟨W.heap.size + 1, 0, none⟩ = some (.int .i64 5) := HZ.out w3 (Kp.refl _ _) 0 _ rfl
    have z1 : w3.cell? ⟨W.heap.size + 1, 1, none⟩ = some (.int .i64 gid) := HZ.out w3 (Kp.refl _ _) 1 _ rfl
    have z5 : w3.cell? ⟨W.heap.size + 1, 5, none⟩ = some (.slice A st.length c) := HZ.out w3 (Kp.refl _ _) 5 _ rfl
    have z7 : w3.cell? ⟨W.heap.size + 1, 7, none⟩ = some (.int .i64 id) := HZ.out w3 (Kp.refl _ _) 7 _ rfl
    have z8 : w3.cell? ⟨W.heap.size + 1, 8, none⟩ = some (.slice A2 stamp.length c2) := HZ.out w3 (Kp.refl _ _) 8 _ rfl
    have z11 : w3.cell? ⟨W.heap.size + 1, 11, none⟩ = some (.int .i64 longest) := HZ.out w3 (Kp.refl _ _) 11 _ rfl
    by_cases hg : 0 ≤ q1
    case neg =>
      have HX := Lib.hid (show R = 43 from F43.out ⟨HV.out, HM.out⟩ HL.out ((bad_5 rfl).2 (fun h => hg (HZ1.out.2 h.1))))
      have dd : decide (0 ≤ q1) = false := decide_eq_false hg
      clear hg
      go_wp2_with (first | (go_at_call 40; refine (pf _ (Kp.refl _ _)).mono ?_; rintro e w4 ⟨rfl, rfl⟩) | fail)
      go_quiet (first | (go_at_call 50; exact Calls.quiet_of_same ((pn2 _ (by with_reducible repeat (first | assumption | exact Kp.refl _ _ | refine Kp.drew ?_ | refine Kp.drewN ?_ _))).mono fun _ _ ⟨h1, h2⟩ => ⟨h1, h2.symm⟩)) | fail)
      go_wp2_with (first | (go_at_call 40; refine (pf _ (Kp.refl _ _)).mono ?_; rintro e w4 ⟨rfl, rfl⟩) | fail)
      go_ret
      exact ⟨ret_int rfl HX.out.symm, HK3.out.drewN _⟩
    have dd : decide (0 ≤ q1) = true := decide_eq_true hg
    have HG := Lib.hid hg
    clear hg
    by_cases hn : nw2 = n
    case neg =>
      have HX := Lib.hid (show R = 43 from F43.out ⟨HV.out, HM.out⟩ HL.out ((bad_5 rfl).2 (fun h => hn (by rw [HNW2.out]; exact h.2))))
      have de : (nw2 != n) = true := by rw [bne_iff_ne]; exact hn
      clear hn
      go_wp2_with (first | (go_at_call 40; refine (pf _ (Kp.refl _ _)).mono ?_; rintro e w4 ⟨rfl, rfl⟩) | fail)
      go_quiet (first | (go_at_call 50; exact Calls.quiet_of_same ((pn2 _ (by with_reducible repeat (first | assumption | exact Kp.refl _ _ | refine Kp.drew ?_ | refine Kp.drewN ?_ _))).mono fun _ _ ⟨h1, h2⟩ => ⟨h1, h2.symm⟩)) | fail)
      go_wp2_with (first | (go_at_call 40; refine (pf _ (Kp.refl _ _)).mono ?_; rintro e w4 ⟨rfl, rfl⟩) | fail)
      go_ret
      exact ⟨ret_int rfl HX.out.symm, HK3.out.drewN _⟩
    have HX := Lib.hid (show R = 0 from F0.out ⟨HV.out, HM.out⟩ HL.out (fun e => (bad_5 rfl).1 e ⟨HZ1.out.1 HG.out, by rw [← HNW2.out]; exact hn⟩))
    have de : (nw2 != n) = false := by rw [bne_eq_false_iff_eq]; exact hn
    clear hn
    go_wp2_with (first | (go_at_call 40; refine (pf _ (Kp.refl _ _)).mono ?_; rintro e w4 ⟨rfl, rfl⟩) | fail)
    go_quiet (first | (go_at_call 50; exact Calls.quiet_of_same ((pn2 _ (by with_reducible repeat (first | assumption | exact Kp.refl _ _ | refine Kp.drew ?_ | refine Kp.drewN ?_ _))).mono fun _ _ ⟨h1, h2⟩ => ⟨h1, h2.symm⟩)) | fail)
    go_wp2_with (first | (go_at_call 40; refine (pf _ (Kp.refl _ _)).mono ?_; rintro e w4 ⟨rfl, rfl⟩) | fail)
    go_ret
    exact ⟨ret_int rfl HX.out.symm, HK3.out.drewN _⟩
  by_cases e6 : kind = 6
  case pos =>
    subst e6
    clear e1 e2 e3 e4 e5
    have HL := Lib.hid (show limitB (bk n k t l) 6 = 0 by simp [limitB, bk])
    have y0 : w3.cell? ⟨W.heap.size, 0, none⟩ = some (.int .i64 n) := HY.out w3 (Kp.refl _ _) 0 _ rfl
    have y1 : w3.cell? ⟨W.heap.size, 1, none⟩ = some (.int .i64 k) := HY.out w3 (Kp.refl _ _) 1 _ rfl
    have y2 : w3.cell? ⟨W.heap.size, 2, none⟩ = some (.int .i64 t) := HY.out w3 (Kp.refl _ _) 2 _ rfl
    have y3 : w3.cell? ⟨W.heap.size, 3, none⟩ = some (.slice A0 l.length c0) := HY.out w3 (Kp.refl _ _) 3 _ rfl
    have z0 : w3.cell? ⟨W.heap.size + 1, 0, none⟩ = some (.int .i64 6) := HZ.out w3 (Kp.refl _ _) 0 _ rfl
    have z1 : w3.cell? ⟨W.heap.size + 1, 1, none⟩ = some (.int .i64 gid) := HZ.out w3 (Kp.refl _ _) 1 _ rfl
    have z5 : w3.cell? ⟨W.heap.size + 1, 5, none⟩ = some (.slice A st.length c) := HZ.out w3 (Kp.refl _ _) 5 _ rfl
    have z7 : w3.cell? ⟨W.heap.size + 1, 7, none⟩ = some (.int .i64 id) := HZ.out w3 (Kp.refl _ _) 7 _ rfl
    have z8 : w3.cell? ⟨W.heap.size + 1, 8, none⟩ = some (.slice A2 stamp.length c2) := HZ.out w3 (Kp.refl _ _) 8 _ rfl
    have z11 : w3.cell? ⟨W.heap.size + 1, 11, none⟩ = some (.int .i64 longest) := HZ.out w3 (Kp.refl _ _) 11 _ rfl
    by_cases hg : 0 ≤ q1
    case neg =>
      have HX := Lib.hid (show R = 43 from F43.out ⟨HV.out, HM.out⟩ HL.out ((bad_6 rfl).2 (fun h => hg (HZ1.out.2 h))))
      have dd : decide (0 ≤ q1) = false := decide_eq_false hg
      go_wp2_with (first | (go_at_call 40; refine (pf _ (Kp.refl _ _)).mono ?_; rintro e w4 ⟨rfl, rfl⟩) | fail)
      go_ret
      exact ⟨ret_int rfl HX.out.symm, HK3.out⟩
    have HX := Lib.hid (show R = 0 from F0.out ⟨HV.out, HM.out⟩ HL.out (fun e => (bad_6 rfl).1 e (HZ1.out.1 hg)))
    have dd : decide (0 ≤ q1) = true := decide_eq_true hg
    go_wp2_with (first | (go_at_call 40; refine (pf _ (Kp.refl _ _)).mono ?_; rintro e w4 ⟨rfl, rfl⟩) | fail)
    go_ret
    exact ⟨ret_int rfl HX.out.symm, HK3.out⟩
  by_cases e7 : kind = 7
  case pos =>
    subst e7
    clear e1 e2 e3 e4 e5 e6
    by_cases hbo : k = 1099511627776
    case pos =>
      have HX := Lib.hid (show R = 66 from FL.out _ ⟨HV.out, HM.out⟩ (by simp [limitB, bk, hbo]) (by decide))
      have y0 : w3.cell? ⟨W.heap.size, 0, none⟩ = some (.int .i64 n) := HY.out w3 (Kp.refl _ _) 0 _ rfl
      have y1 : w3.cell? ⟨W.heap.size, 1, none⟩ = some (.int .i64 k) := HY.out w3 (Kp.refl _ _) 1 _ rfl
      have y2 : w3.cell? ⟨W.heap.size, 2, none⟩ = some (.int .i64 t) := HY.out w3 (Kp.refl _ _) 2 _ rfl
      have y3 : w3.cell? ⟨W.heap.size, 3, none⟩ = some (.slice A0 l.length c0) := HY.out w3 (Kp.refl _ _) 3 _ rfl
      have z0 : w3.cell? ⟨W.heap.size + 1, 0, none⟩ = some (.int .i64 7) := HZ.out w3 (Kp.refl _ _) 0 _ rfl
      have z1 : w3.cell? ⟨W.heap.size + 1, 1, none⟩ = some (.int .i64 gid) := HZ.out w3 (Kp.refl _ _) 1 _ rfl
      have z5 : w3.cell? ⟨W.heap.size + 1, 5, none⟩ = some (.slice A st.length c) := HZ.out w3 (Kp.refl _ _) 5 _ rfl
      have z7 : w3.cell? ⟨W.heap.size + 1, 7, none⟩ = some (.int .i64 id) := HZ.out w3 (Kp.refl _ _) 7 _ rfl
      have z8 : w3.cell? ⟨W.heap.size + 1, 8, none⟩ = some (.slice A2 stamp.length c2) := HZ.out w3 (Kp.refl _ _) 8 _ rfl
      have z11 : w3.cell? ⟨W.heap.size + 1, 11, none⟩ = some (.int .i64 longest) := HZ.out w3 (Kp.refl _ _) 11 _ rfl
      go_wp2_with (first | (go_at_call 40; refine (pf _ (Kp.refl _ _)).mono ?_; rintro e w4 ⟨rfl, rfl⟩) | fail)
      go_ret
      exact ⟨ret_int rfl HX.out.symm, HK3.out⟩
    have dbo : (k == 1099511627776) = false := by rw [beq_eq_false_iff_ne]; exact hbo
    have HL := Lib.hid (show limitB (bk n k t l) 7 = 0 by simp [limitB, bk, hbo])
    have y0 : w3.cell? ⟨W.heap.size, 0, none⟩ = some (.int .i64 n) := HY.out w3 (Kp.refl _ _) 0 _ rfl
    have y1 : w3.cell? ⟨W.heap.size, 1, none⟩ = some (.int .i64 k) := HY.out w3 (Kp.refl _ _) 1 _ rfl
    have y2 : w3.cell? ⟨W.heap.size, 2, none⟩ = some (.int .i64 t) := HY.out w3 (Kp.refl _ _) 2 _ rfl
    have y3 : w3.cell? ⟨W.heap.size, 3, none⟩ = some (.slice A0 l.length c0) := HY.out w3 (Kp.refl _ _) 3 _ rfl
    have z0 : w3.cell? ⟨W.heap.size + 1, 0, none⟩ = some (.int .i64 7) := HZ.out w3 (Kp.refl _ _) 0 _ rfl
    have z1 : w3.cell? ⟨W.heap.size + 1, 1, none⟩ = some (.int .i64 gid) := HZ.out w3 (Kp.refl _ _) 1 _ rfl
    have z5 : w3.cell? ⟨W.heap.size + 1, 5, none⟩ = some (.slice A st.length c) := HZ.out w3 (Kp.refl _ _) 5 _ rfl
    have z7 : w3.cell? ⟨W.heap.size + 1, 7, none⟩ = some (.int .i64 id) := HZ.out w3 (Kp.refl _ _) 7 _ rfl
    have z8 : w3.cell? ⟨W.heap.size + 1, 8, none⟩ = some (.slice A2 stamp.length c2) := HZ.out w3 (Kp.refl _ _) 8 _ rfl
    have z11 : w3.cell? ⟨W.heap.size + 1, 11, none⟩ = some (.int .i64 longest) := HZ.out w3 (Kp.refl _ _) 11 _ rfl
    have HX := Lib.hid (show R = 0 from F0.out ⟨HV.out, HM.out⟩ HL.out (fun e => bad_7 rfl e))
    go_wp2_with (first | (go_at_call 40; refine (pf _ (Kp.refl _ _)).mono ?_; rintro e w4 ⟨rfl, rfl⟩) | fail)
    go_ret
    exact ⟨ret_int rfl HX.out.symm, HK3.out⟩
  exact absurd (mayR_kind HM.out) (by simp [e1, e2, e3, e4, e5, e6, e7])
end Go.Proofs.Ytifdceofglocdaa
