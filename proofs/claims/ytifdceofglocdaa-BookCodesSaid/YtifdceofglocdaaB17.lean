/- Several texts of this claim in one. No condition beyond what each theorem states. -/
import Derived.Test.YtifdceofglocdaaB13
import Derived.StillTailTactics
import Derived.Deep.RegionHeld3
import Derived.BigQuiet
import Derived.Test.YtifdceofglocdaaB16
/- What a record does to a book of its own: book.change by contract (kind 4). No condition beyond what each theorem states. -/
namespace Go.Proofs.Ytifdceofglocdaa
open Go Go.RowKit Go.PlainAid

set_option maxRecDepth 100000 in
set_option maxHeartbeats 8000000 in
theorem change_4 (B g : Nat) (n k t : Int) (sv : Value) (l : List GP) (r : Rcd) (gv rv : Value) (W : World) (h : ChgH B g n k t sv l W) (hgv : ∀ W2, Kp (From B) W W2 → ArgInts W2 gv r.grant.stamp) (hrv : ∀ W2, Kp (From B) W W2 → ArgInts W2 rv r.stamp) (hr : mayR r) (hlim : limitB (bk n k t l) r.kind = 0) (hk : r.kind = 4) :
    Calls Try.prog 35 #[.pointer (some ⟨g, 0, none⟩), .agg (rC r gv rv).toArray] W (ChgR B g (bk n k t l) r W) := by
  obtain ⟨kind, ⟨gid, hol, path, mode, st, term⟩, id, stamp, next, boots, longest⟩ := r
  obtain rfl : kind = 4 := hk
  obtain ⟨A, c, rfl, _⟩ : ∃ A c, gv = .slice A st.length c ∧ st.length ≤ c := by obtain ⟨A, c, e, hc, _⟩ := hgv W (Kp.refl _ _); exact ⟨A, c, e, hc⟩
  obtain ⟨A2, c2, rfl, _⟩ : ∃ A c, rv = .slice A stamp.length c ∧ stamp.length ≤ c := by obtain ⟨A, c, e, hc, _⟩ := hrv W (Kp.refl _ _); exact ⟨A, c, e, hc⟩
  obtain ⟨A3, c3, rfl, _⟩ := own_len h.own.1
  replace hgv : ∀ W2, Kp (From B) W W2 → ArgInts W2 (.slice A st.length c) st := hgv
  replace hrv : ∀ W2, Kp (From B) W W2 → ArgInts W2 (.slice A2 stamp.length c2) stamp := hrv
  have HGV := Lib.hid hgv; have HRV := Lib.hid hrv; have HRR := Lib.hid hr; have HLIM := Lib.hid (show limitB (bk n k t l) 4 = 0 from hlim); have HH := Lib.hid h; have HSH := Lib.hid (show ∀ p ∈ l, ShG maxLen p.1 from h.sh)
  obtain ⟨Q, hQ⟩ : ∃ Q : Ending → World → Prop, Q = ChgR B g (bk n k t l) ⟨4, ⟨gid, hol, path, mode, st, term⟩, id, stamp, next, boots, longest⟩ W := ⟨_, rfl⟩
  rw [← hQ]
  have HQ := Lib.hid hQ
  obtain ⟨w1, hw1⟩ : ∃ w1, w1 = W.alloc (.cells #[.int .i64 4, .int .i64 gid, .int .i64 hol, .string ⟨path.toArray⟩, .int .i64 mode, .slice A st.length c, .int .i64 term, .int .i64 id, .slice A2 stamp.length c2, .int .i64 next, .int .i64 boots, .int .i64 longest] 32) := ⟨_, rfl⟩
  have HR1 := Lib.hid (show Bk w1 W.heap.size 32 [.int .i64 4, .int .i64 gid, .int .i64 hol, .string ⟨path.toArray⟩, .int .i64 mode, .slice A st.length c, .int .i64 term, .int .i64 id, .slice A2 stamp.length c2, .int .i64 next, .int .i64 boots, .int .i64 longest] by rw [hw1]; exact Bk.new' rfl rfl)
  have HK1 := Lib.hid (show Kp No W w1 by rw [hw1]; exact (Kp.refl No W).alloc _)
  have HB1 := Lib.hid (h.bk.no HK1.out)
  have pa := fun W2 (kk : Kp No w1 W2) => (at_any (.slice A3 l.length c3) l id W2 ((h.own.no (HK1.out.trans kk)).arg) (Nat.le_trans h.len (by omega)) h.sorted).mono fun e w' ⟨i, h1, h2, h3⟩ => (⟨i, h1, h2, kk.trans h3⟩ : ∃ i : Nat, e = Ending.returned (.tuple #[.int .i64 i, .bool (hasG (gsL l) id)]) ∧ AtG (gsL l) id i ∧ Kp No w1 w')
  have sk : ∀ W2, Kp No w1 W2 → W2.cell? ⟨g, 3, none⟩ = some (.slice A3 l.length c3) ∧ W2.cell? ⟨W.heap.size, 7, none⟩ = some (.int .i64 id) := fun W2 kk => ⟨(HB1.out.no kk).cell 3, (HR1.out.no kk).cell 7⟩
  have HW := Lib.hid hw1
  obtain ⟨th, hth⟩ : ∃ th, th = hasG (gsL l) id := ⟨_, rfl⟩
  rw [← hth] at pa
  have HTH := Lib.hid hth
  clear hth hgv hrv hr hlim h hQ hw1
  simp only [rC]
  go_enter Try.func35, Try.ntmps35
  go_upto_region 1 with (fail)
  rw [← HW.out]
  clear HW
  first | (go_region_held3 (fun W2 => W2.cell? ⟨g, 3, none⟩ = some (.slice A3 l.length c3) ∧ W2.cell? ⟨W.heap.size, 7, none⟩ = some (.int .i64 id)) (first | (go_keep; done) | exact sk _ (by with_reducible repeat (first | assumption | exact Kp.refl _ _ | refine Kp.drew ?_ | refine Kp.drewN ?_ _)))
    (first | (go_at_call 71; (with_reducible refine (pa _ (by with_reducible repeat (first | assumption | exact Kp.refl _ _ | refine Kp.drew ?_ | refine Kp.drewN ?_ _))).mono ?_); rintro e w6 ⟨i, rfl, hat, k6⟩))) | fail
  all_goals
    have HAT := Lib.hid hat; have HK6 := Lib.hid k6
    have HB6 := Lib.hid (HB1.out.no k6); have HR6 := Lib.hid (HR1.out.no k6)
    clear hat k6 pa sk HB1 HR1
    have z0 : w6.cell? ⟨W.heap.size, 0, none⟩ = some (.int .i64 4) := HR6.out.cell 0
    have ho := Lib.hid (HH.out.own.no (HK1.out.trans HK6.out))
    have h4 := (mayR_4 (r := ⟨4, ⟨gid, hol, path, mode, st, term⟩, id, stamp, next, boots, longest⟩) rfl).1 HRR.out
    have hmg := mayG_sh h4.2.1
    have hsl : st.length ≤ 4 := hmg.2.1
    have hs1 : st ≠ [] := hmg.2.2
    have HNW := Lib.hid (show newestS st = gid from h4.1); have HMG := Lib.hid (show mayG ⟨gid, hol, path, mode, st, term⟩ from h4.2.1)
    clear h4 hmg
    have y0 : w6.cell? ⟨g, 0, none⟩ = some (.int .i64 n) := HB6.out.cell 0
    have z1 : w6.cell? ⟨W.heap.size, 1, none⟩ = some (.int .i64 gid) := HR6.out.cell 1
    by_cases hn : gid = n
    case neg =>
      have HN := Lib.hid hn
      have d : (gid != n) = true := by rw [bne_iff_ne]; exact hn
      clear hn
      go_upto_region 16 with (fail)
      go_quiet (fail)
      go_wp2
      rw [HQ.out]
      refine ⟨((HK1.out.trans HK6.out).from_).drewN _, .inl ⟨?_, rfl⟩⟩
      rw [changeB_4 rfl]
      exact if_neg HN.out
    have HN := Lib.hid hn
    have d : (gid != n) = false := by rw [bne_eq_false_iff_eq]; exact hn
    clear hn
    go_upto_region 16 with (fail)
    go_quiet (fail)
    generalize hw7 : World.drewN w6 _ = w7
    have k7 : Kp No w6 w7 := by rw [← hw7]; exact (Kp.refl No w6).drewN _
    have HB7 := Lib.hid (HB6.out.no k7); have HR7 := Lib.hid (HR6.out.no k7); have HK7 := Lib.hid ((HK1.out.trans HK6.out).trans k7); have HO7 := Lib.hid (ho.out.no k7)
    have y0' : w7.cell? ⟨g, 0, none⟩ = some (.int .i64 n) := HB7.out.cell 0
    have f0 := HB7.out.frozen 0
    have hwn : IntKind.i64.wrap (n + 1) = n + 1 := by
      obtain ⟨h1, h2, _, _⟩ := HH.out.heads
      rw [IntKind.wrap_i64]; omega
    have hrg : W.heap.size ≠ g := HR7.out.ne_ HB7.out (by decide)
    have HB8 := Lib.hid (HB7.out.set_ 0 (.int .i64 (n + 1))); have HR8 := Lib.hid (HR7.out.far (p := ⟨g, 0, none⟩) hrg (.int .i64 (n + 1)))
    have HO8 := Lib.hid (HO7.out.far ((Kp.refl (One g) w7).set (.inl (One.self g)) 0 (.int .i64 (n + 1))) HB7.out (by decide) (by decide))
    have HK8 := Lib.hid (HK7.out.from_.set (g := g) (.inl HH.out.ge) 0 (.int .i64 (n + 1)))
    clear k7 hw7 y0 z0 z1 d
    go_upto_region 19 with (fail)
    clear y0' f0
    generalize w7.setCell ⟨g, 0, none⟩ (.int .i64 (n + 1)) = w8 at *
    have HB8 : Hid (Bk w8 g 25 [.int .i64 (n + 1), .int .i64 k, .int .i64 t, .slice A3 l.length c3]) := HB8
    
    have pa := fun W2 (kk : Kp No w8 W2) => (at_any (.slice A3 l.length c3) l gid W2 ((HO8.out.no kk).arg) (Nat.le_trans HH.out.len (by omega)) HH.out.sorted).mono fun e w' ⟨i, h1, h2, h3⟩ => (⟨i, h1, h2, kk.trans h3⟩ : ∃ i : Nat, e = Ending.returned (.tuple #[.int .i64 i, .bool (hasG (gsL l) gid)]) ∧ AtG (gsL l) gid i ∧ Kp No w8 w')
    obtain ⟨is, his⟩ : ∃ is, is = hasG (gsL l) gid := ⟨_, rfl⟩
    rw [← his] at pa
    have HIS := Lib.hid his
    clear his
    have sk : ∀ W2, Kp No w8 W2 → W2.cell? ⟨g, 3, none⟩ = some (.slice A3 l.length c3) ∧ W2.cell? ⟨W.heap.size, 1, none⟩ = some (.int .i64 gid) := fun W2 kk => ⟨(HB8.out.no kk).cell 3, (HR8.out.no kk).cell 1⟩
    go_upto_region 19 with (fail)
    first | (go_region_held3 (fun W2 => W2.cell? ⟨g, 3, none⟩ = some (.slice A3 l.length c3) ∧ W2.cell? ⟨W.heap.size, 1, none⟩ = some (.int .i64 gid)) (first | (go_keep; done) | exact sk _ (by with_reducible repeat (first | assumption | exact Kp.refl _ _ | refine Kp.drew ?_ | refine Kp.drewN ?_ _)))
        (first | (go_at_call 71; (with_reducible refine (pa _ (by with_reducible repeat (first | assumption | exact Kp.refl _ _ | refine Kp.drew ?_ | refine Kp.drewN ?_ _))).mono ?_); rintro e w9 ⟨j, rfl, hat9, k9⟩))) | fail
    all_goals
      have HAT9 := Lib.hid hat9; have HK9 := Lib.hid (HK8.out.trans k9.from_)
      have HB9 := Lib.hid (HB8.out.no k9); have HR9 := Lib.hid (HR8.out.no k9); have HO9 := Lib.hid (HO8.out.no k9)
      have hBs : B ≤ w9.heap.size := Nat.le_trans HH.out.le HK9.out.size
      clear hat9 k9 pa sk
      obtain ⟨g2, o2, c4', eB, _⟩ := (HGV.out _ HK9.out).at_ (List.length_pos_iff.2 hs1)
      injection eB with eB _ ec
      subst eB ec
      have pt := fun W2 (kk : Kp No w9 W2) => (twin_any (⟨gid, hol, path, mode, st, term⟩, .slice (some ⟨g2, o2, none⟩) st.length c) W2 g2 o2 c rfl (HGV.out _ (HK9.out.trans kk.from_)) (by show st.length ≤ _; omega)).mono fun e w' ⟨sv, h1, h2, h3⟩ => (⟨sv, h1, own_mono h2 kk.size, kk.trans h3⟩ : ∃ sv, e = Ending.returned (.agg #[.int .i64 gid, .int .i64 hol, .string ⟨path.toArray⟩, .int .i64 mode, sv, .int .i64 term]) ∧ w'.ownsRow w9.heap.size 3 1 sv st.length (ints st) ∧ Kp No w9 w')
      simp only [pC] at pt
      have hng : ¬ (Value.slice A3 l.length c3).ownBlock = some g := own_ne HO9.out.1 HB9.out (by decide)
      have hnr : ¬ (Value.slice A3 l.length c3).ownBlock = some W.heap.size := own_ne HO9.out.1 HR9.out (by decide)
      have y9 : w9.cell? ⟨g, 3, none⟩ = some (.slice A3 l.length c3) := HB9.out.cell 3
      have sk : ∀ W2, Kp (fun k => (Value.slice A3 l.length c3).ownBlock = some k) w9 W2 → W2.cell? ⟨g, 3, none⟩ = some (.slice A3 l.length c3) ∧ W2.cell? ⟨W.heap.size, 1, none⟩ = some (.int .i64 gid) ∧ W2.cell? ⟨W.heap.size, 2, none⟩ = some (.int .i64 hol) ∧ W2.cell? ⟨W.heap.size, 3, none⟩ = some (.string ⟨path.toArray⟩) ∧ W2.cell? ⟨W.heap.size, 4, none⟩ = some (.int .i64 mode) ∧ W2.cell? ⟨W.heap.size, 5, none⟩ = some (.slice (some ⟨g2, o2, none⟩) st.length c) ∧ W2.cell? ⟨W.heap.size, 6, none⟩ = some (.int .i64 term) := fun W2 kk => ⟨(HB9.out.kp kk hng).cell 3, (HR9.out.kp kk hnr).cell 1, (HR9.out.kp kk hnr).cell 2, (HR9.out.kp kk hnr).cell 3, (HR9.out.kp kk hnr).cell 4, (HR9.out.kp kk hnr).cell 5, (HR9.out.kp kk hnr).cell 6⟩
      clear y9
      have pin : ∀ (W2 : World) (A10 : Option Addr) (c10 : Nat) (w10 : World), Kp No w9 w10 → W2 = w10.alloc (.cells #[.int .i64 gid, .int .i64 hol, .string ⟨path.toArray⟩, .int .i64 mode, .slice A10 st.length c10, .int .i64 term] 30) → Calls Try.prog 72 #[.slice A3 l.length c3, .int .i64 j, .slice (some ⟨w10.heap.size, 0, none⟩) 1 1] W2 (InsR B (.slice A3 l.length c3) l.length j (pL l) [.int .i64 gid, .int .i64 hol, .string ⟨path.toArray⟩, .int .i64 mode, .slice A10 st.length c10, .int .i64 term] W2) := fun W2 A10 c10 w10 kk e => by
        rw [e]
        have ho10 := HO9.out.no kk
        exact insert_any B (.slice A3 l.length c3) l.length j (pL l) [.int .i64 gid, .int .i64 hol, .string ⟨path.toArray⟩, .int .i64 mode, .slice A10 st.length c10, .int .i64 term] w10.heap.size _ (own_kp ho10.1 ((Kp.refl No w10).alloc _) fun _ _ q => q) (by have := HAT9.out.le; rwa [gsL_len] at this) (by have := HH.out.len; omega) (by have := kk.size; simp; omega) (Bk.new' rfl rfl) rfl (by simp [Value.oneCell']) (pL_one HO9.out) (fun e => by have := (ho10.1.lt _ e).2; omega)
      go_upto_region 20 with (fail)
      have hF := sk _ ((Kp.refl No w9).drew.of_no)
      refine rg_begin (fun W2 => W2.cell? ⟨g, 3, none⟩ = some (.slice A3 l.length c3) ∧ W2.cell? ⟨W.heap.size, 1, none⟩ = some (.int .i64 gid) ∧ W2.cell? ⟨W.heap.size, 2, none⟩ = some (.int .i64 hol) ∧ W2.cell? ⟨W.heap.size, 3, none⟩ = some (.string ⟨path.toArray⟩) ∧ W2.cell? ⟨W.heap.size, 4, none⟩ = some (.int .i64 mode) ∧ W2.cell? ⟨W.heap.size, 5, none⟩ = some (.slice (some ⟨g2, o2, none⟩) st.length c) ∧ W2.cell? ⟨W.heap.size, 6, none⟩ = some (.int .i64 term)) 13 (by kernel_rfl) ?_
      refine rg_take (i := 0) (v := ?vp0) (by simp only [List.getElem?_toArray, List.getElem?_cons_zero]; rfl) (by kernel_rfl) (by exact fun _ _ _ h => h) (by rfl) ?rp0 hF ?sp0
      case rp0 => (intro W hW; clear hW; go_simp; try with_reducible rfl)
      try simp only [Act.put, List.setIfInBounds_toArray, List.set_cons_zero, List.set_cons_succ]
      refine rg_take (i := 1) (v := ?vp1) (by simp only [List.getElem?_toArray, List.getElem?_cons_succ, List.getElem?_cons_zero]; rfl) (by kernel_rfl) (by exact fun _ _ _ h => h) (by rfl) ?rp1 hF ?sp1
      case rp1 => (intro W hW; clear hW; go_simp; try with_reducible rfl)
      try simp only [Act.put, List.setIfInBounds_toArray, List.set_cons_zero, List.set_cons_succ]
      refine rg_take (i := 2) (v := ?vp2) (by simp only [List.getElem?_toArray, List.getElem?_cons_succ, List.getElem?_cons_zero]; rfl) (by kernel_rfl) (by exact fun _ _ _ h => h) (by rfl) ?rp2 hF ?sp2
      case rp2 => (intro W hW; clear hW; go_simp; try with_reducible rfl)
      try simp only [Act.put, List.setIfInBounds_toArray, List.set_cons_zero, List.set_cons_succ]
      refine rg_take (i := 3) (v := ?vp3) (by simp only [List.getElem?_toArray, List.getElem?_cons_succ, List.getElem?_cons_zero]; rfl) (by kernel_rfl) (by exact fun _ _ _ h => h) (by rfl) ?rp3 hF ?sp3
      case rp3 => (intro W hW; clear hW; go_simp; try with_reducible rfl)
      try simp only [Act.put, List.setIfInBounds_toArray, List.set_cons_zero, List.set_cons_succ]
      refine rg_take (i := 4) (v := ?vp4) (by simp only [List.getElem?_toArray, List.getElem?_cons_succ, List.getElem?_cons_zero]; rfl) (by kernel_rfl) (by exact fun _ _ _ h => h) (by rfl) ?rp4 hF ?sp4
      case rp4 => (intro W hW; obtain ⟨f1, f2, f3, f4, f5, f6, f7⟩ := hW; go_simp; try with_reducible rfl)
      try simp only [Act.put, List.setIfInBounds_toArray, List.set_cons_zero, List.set_cons_succ]
      refine rg_take (i := 5) (v := ?vp5) (by simp only [List.getElem?_toArray, List.getElem?_cons_succ, List.getElem?_cons_zero]; rfl) (by kernel_rfl) (by exact fun _ _ _ h => h) (by rfl) ?rp5 hF ?sp5
      case rp5 => (intro W hW; clear hW; go_simp; try with_reducible rfl)
      try simp only [Act.put, List.setIfInBounds_toArray, List.set_cons_zero, List.set_cons_succ]
      refine rg_take (i := 6) (v := ?vp6) (by simp only [List.getElem?_toArray, List.getElem?_cons_succ, List.getElem?_cons_zero]; rfl) (by kernel_rfl) (by exact fun _ _ _ h => h) (by rfl) ?rp6 hF ?sp6
      case rp6 => (intro W hW; clear hW; go_simp; try with_reducible rfl)
      try simp only [Act.put, List.setIfInBounds_toArray, List.set_cons_zero, List.set_cons_succ]
      refine rg_take (i := 7) (v := ?vp7) (by simp only [List.getElem?_toArray, List.getElem?_cons_succ, List.getElem?_cons_zero]; rfl) (by kernel_rfl) (by exact fun _ _ _ h => h) (by rfl) ?rp7 hF ?sp7
      case rp7 => (intro W hW; obtain ⟨f1, f2, f3, f4, f5, f6, f7⟩ := hW; go_simp; try with_reducible rfl)
      try simp only [Act.put, List.setIfInBounds_toArray, List.set_cons_zero, List.set_cons_succ]
      refine rg_one (i := 8) (oi := ?op8) ?ap8 ?bp8 ?cp8 ?dp8
      case ap8 => (simp only [List.getElem?_toArray, List.getElem?_cons_succ, List.getElem?_cons_zero]; rfl)
      case bp8 => kernel_rfl
      case cp8 => rfl
      intro K hK
      (go_simp; (with_reducible refine (pt _ ((Kp.refl No w9).drew)).mono ?_); rintro e w10 ⟨sv, rfl, o10, k10⟩; obtain ⟨A10, c10, rfl, _⟩ := own_len o10)
      refine rg_use hK (sk _ k10.of_no) (fun hF => ?_)
      clear hK K
      try simp only [Act.put, List.setIfInBounds_toArray, List.set_cons_zero, List.set_cons_succ]
      refine rg_one (i := 9) (oi := ?op9) ?ap9 ?bp9 ?cp9 ?dp9
      case ap9 => (simp only [List.getElem?_toArray, List.getElem?_cons_succ, List.getElem?_cons_zero]; rfl)
      case bp9 => kernel_rfl
      case cp9 => rfl
      intro K hK
      go_simp
      refine rg_use hK (sk _ ((k10.alloc _).of_no)) (fun hF => ?_)
      clear hK K
      try simp only [Act.put, List.setIfInBounds_toArray, List.set_cons_zero, List.set_cons_succ]
      refine rg_one (i := 10) (oi := ?op10) ?ap10 ?bp10 ?cp10 ?dp10
      case ap10 => (simp only [List.getElem?_toArray, List.getElem?_cons_succ, List.getElem?_cons_zero]; rfl)
      case bp10 => kernel_rfl
      case cp10 => rfl
      intro K hK
      (go_simp; refine (pin _ _ _ w10 k10 rfl).mono ?_; rintro e w11 ⟨v11, rfl, o11, k11⟩; obtain ⟨A11, c11, rfl, _⟩ := own_len o11; have k11a : Kp (fun k => (Value.slice A3 l.length c3).ownBlock = some k) w9 w11 := ((k10.alloc _).of_no).trans k11; have b11 := ((HB9.out.no (k10.alloc (.cells #[.int .i64 gid, .int .i64 hol, .string ⟨path.toArray⟩, .int .i64 mode, .slice A10 st.length c10, .int .i64 term] 30))).kp k11 hng))
      refine rg_use hK (sk _ k11a) (fun hF => ?_)
      clear hK K
      try simp only [Act.put, List.setIfInBounds_toArray, List.set_cons_zero, List.set_cons_succ]
      refine rg_one (i := 11) (oi := ?op11) ?ap11 ?bp11 ?cp11 ?dp11
      case ap11 => (simp only [List.getElem?_toArray, List.getElem?_cons_succ, List.getElem?_cons_zero]; rfl)
      case bp11 => kernel_rfl
      case cp11 => rfl
      intro K hK
      go_simp
      refine rg_use hK hF (fun hF => ?_)
      clear hK K
      try simp only [Act.put, List.setIfInBounds_toArray, List.set_cons_zero, List.set_cons_succ]
      refine rg_take (i := 12) (v := ?vp12) (by simp only [List.getElem?_toArray, List.getElem?_cons_succ, List.getElem?_cons_zero]; rfl) (by kernel_rfl) (by exact fun _ _ _ h => h) (by rfl) ?rp12 hF ?sp12
      case rp12 => (intro W hW; clear hW; go_simp; try with_reducible rfl)
      try simp only [Act.put, List.setIfInBounds_toArray, List.set_cons_zero, List.set_cons_succ]
      refine rg_one (i := 13) (oi := ?op13) ?ap13 ?bp13 ?cp13 ?dp13
      case ap13 => (simp only [List.getElem?_toArray, List.getElem?_cons_succ, List.getElem?_cons_zero]; rfl)
      case bp13 => kernel_rfl
      case cp13 => rfl
      intro K hK
      (have y0 := hF.1; have yf := b11.frozen 3; go_simp)
      refine hK _ _ (fun h => absurd rfl h) ?_
      clear hK K
      try simp only [Act.put, List.setIfInBounds_toArray, List.set_cons_zero, List.set_cons_succ]
      refine rg_done (by kernel_rfl) ?_
      have HK11 := Lib.hid k11a; have HB11 := Lib.hid b11; have HO11 := Lib.hid o11; have HO10 := Lib.hid o10; have HK10 := Lib.hid k10; have HKI := Lib.hid k11
      have K12 := Lib.hid (((HK9.out.trans (k11a.mono fun i _ e => (HO9.out.1.lt i e).1)).set (g := g) (.inl HH.out.ge) 3 (.slice A11 (l.length + 1) c11)))
      have B12 := Lib.hid (b11.set_ 3 (.slice A11 (l.length + 1) c11))
      have O12 := Lib.hid (show OwnG (w11.setCell ⟨g, 3, none⟩ (.slice A11 (l.length + 1) c11)) B (.slice A11 (l.length + 1) c11) (l.take j ++ (⟨gid, hol, path, mode, st, term⟩, .slice A10 st.length c10) :: l.drop j) by
        have kg := (Kp.refl (One g) w11).set (.inl (One.self g)) 3 (.slice A11 (l.length + 1) c11)
        have hjl : j ≤ l.length := by have := HAT9.out.le; rwa [gsL_len] at this
        have ho10 := HO9.out.no (k10.alloc (.cells #[.int .i64 gid, .int .i64 hol, .string ⟨path.toArray⟩, .int .i64 mode, .slice A10 st.length c10, .int .i64 term] 30))
        refine OwnG.far ⟨?_, fun p hp => ?_⟩ kg b11 (by decide) (by decide)
        · have e : (l.take j ++ ((⟨gid, hol, path, mode, st, term⟩, .slice A10 st.length c10) : GP) :: l.drop j).length = l.length + 1 := by
            rw [List.length_append, List.length_cons, List.length_take, List.length_drop]; omega
          rw [e, pL_ins l j hjl]
          exact o11
        · rw [List.mem_append, List.mem_cons] at hp
          have hs : p = (⟨gid, hol, path, mode, st, term⟩, .slice A10 st.length c10) ∨ p ∈ l := by
            rcases hp with hp | hp | hp
            · exact .inr (List.mem_of_mem_take hp)
            · exact .inl hp
            · exact .inr (List.mem_of_mem_drop hp)
          rcases hs with rfl | hp
          · have h1 : w10.ownsRow B 3 1 (.slice A10 st.length c10) st.length (ints st) := own_mono o10 hBs
            have h2 := own_kp h1 ((Kp.refl No w10).alloc (.cells #[.int .i64 gid, .int .i64 hol, .string ⟨path.toArray⟩, .int .i64 mode, .slice A10 st.length c10, .int .i64 term] 30)) fun _ _ q => q
            exact own_kp h2 k11 (own_apart h2 ho10.1 (by decide))
          · have h2 := ho10.2 p hp
            exact own_kp h2 k11 (own_apart h2 ho10.1 (by decide)))
      have R12 := Lib.hid (((HR9.out.no (k10.alloc (.cells #[.int .i64 gid, .int .i64 hol, .string ⟨path.toArray⟩, .int .i64 mode, .slice A10 st.length c10, .int .i64 term] 30))).kp k11 hnr).far (p := ⟨g, 3, none⟩) (HR9.out.ne_ HB9.out (by decide)) (.slice A11 (l.length + 1) c11))
      have HG12 := Lib.hid (show gsL (l.take j ++ ((⟨gid, hol, path, mode, st, term⟩, .slice A10 st.length c10) : GP) :: l.drop j) = insG (gsL l) ⟨gid, hol, path, mode, st, term⟩ by
        rw [insG_at HAT9.out rfl]
        simp [gsL, List.map_take, List.map_drop])
      generalize (l.take j ++ ((⟨gid, hol, path, mode, st, term⟩, .slice A10 st.length c10) : GP) :: l.drop j) = l12 at O12 HG12
      clear k10 k11 k11a o10 o11 b11 pt pin hng hnr sk HK11 HB11 HO11 HO10 HK10 HKI
      go_upto_region 21 with (fail)
      generalize w11.setCell ⟨g, 3, none⟩ (.slice A11 (l.length + 1) c11) = w12 at *
      have B12 : Hid (Bk w12 g 25 [.int .i64 (n + 1), .int .i64 k, .int .i64 t, .slice A11 (l.length + 1) c11]) := B12
      have hfalse : is = false := by
        cases h : is with
        | false => rfl
        | true =>
          exfalso
          rw [HIS.out, hasG_iff] at h
          obtain ⟨x, hx, he⟩ := h
          unfold gsL at hx
          rw [List.mem_map] at hx
          obtain ⟨p, hp, rfl⟩ := hx
          obtain ⟨⟨_, _, _, _, _, _, h6, _⟩, h7⟩ := HH.out.may p hp
          have := HN.out
          omega
      subst hfalse
      have pn := fun W2 (kk : Kp No w12 W2) => newest_any (.slice (some ⟨g2, o2, none⟩) st.length c) st W2 (HGV.out _ (K12.out.trans kk.from_)) (Nat.le_trans hsl (by unfold maxLen; omega))
      have y0 : w12.cell? ⟨g, 0, none⟩ = some (.int .i64 (n + 1)) := B12.out.cell 0
      have z5 : w12.cell? ⟨W.heap.size, 5, none⟩ = some (.slice (some ⟨g2, o2, none⟩) st.length c) := R12.out.cell 5
      have d : decide (newestS st < n + 1) = true := by rw [decide_eq_true_iff, HNW.out, HN.out]; omega
      generalize newestS st = nw at d pn
      go_quiet (first | (go_at_call 47; exact Calls.quiet_of_same ((pn _ (by with_reducible repeat (first | assumption | exact Kp.refl _ _ | refine Kp.drew ?_ | refine Kp.drewN ?_ _))).mono fun _ _ ⟨h1, h2⟩ => ⟨h1, h2.symm⟩)) | fail)
      go_wp2
      rw [HQ.out]
      refine ⟨K12.out.drewN _, .inr ⟨{ bk n k t l with next := n + 1, grants := insG (gsL l) ⟨gid, hol, path, mode, st, term⟩ }, _, l12, ?_, rfl, HG12.out, B12.out.drewN _, O12.out.no ((Kp.refl No _).drewN _)⟩⟩
      rw [changeB_4 rfl]
      exact if_pos HN.out
end Go.Proofs.Ytifdceofglocdaa

/- What a record does to a book of its own: book.change by contract (kind 5). No condition beyond what each theorem states. -/
namespace Go.Proofs.Ytifdceofglocdaa
open Go Go.RowKit Go.PlainAid

set_option maxRecDepth 100000 in
set_option maxHeartbeats 8000000 in
theorem change_5 (B g : Nat) (n k t : Int) (sv : Value) (l : List GP) (r : Rcd) (gv rv : Value) (W : World) (h : ChgH B g n k t sv l W) (hgv : ∀ W2, Kp (From B) W W2 → ArgInts W2 gv r.grant.stamp) (hrv : ∀ W2, Kp (From B) W W2 → ArgInts W2 rv r.stamp) (hr : mayR r) (hlim : limitB (bk n k t l) r.kind = 0) (hk : r.kind = 5) :
    Calls Try.prog 35 #[.pointer (some ⟨g, 0, none⟩), .agg (rC r gv rv).toArray] W (ChgR B g (bk n k t l) r W) := by
  obtain ⟨kind, ⟨gid, hol, path, mode, st, term⟩, id, stamp, next, boots, longest⟩ := r
  obtain rfl : kind = 5 := hk
  obtain ⟨A, c, rfl, _⟩ : ∃ A c, gv = .slice A st.length c ∧ st.length ≤ c := by obtain ⟨A, c, e, hc, _⟩ := hgv W (Kp.refl _ _); exact ⟨A, c, e, hc⟩
  obtain ⟨A2, c2, rfl, _⟩ : ∃ A c, rv = .slice A stamp.length c ∧ stamp.length ≤ c := by obtain ⟨A, c, e, hc, _⟩ := hrv W (Kp.refl _ _); exact ⟨A, c, e, hc⟩
  obtain ⟨A3, c3, rfl, _⟩ := own_len h.own.1
  replace hgv : ∀ W2, Kp (From B) W W2 → ArgInts W2 (.slice A st.length c) st := hgv
  replace hrv : ∀ W2, Kp (From B) W W2 → ArgInts W2 (.slice A2 stamp.length c2) stamp := hrv
  have HGV := Lib.hid hgv; have HRV := Lib.hid hrv; have HRR := Lib.hid hr; have HLIM := Lib.hid (show limitB (bk n k t l) 5 = 0 from hlim); have HH := Lib.hid h; have HSH := Lib.hid (show ∀ p ∈ l, ShG maxLen p.1 from h.sh)
  obtain ⟨Q, hQ⟩ : ∃ Q : Ending → World → Prop, Q = ChgR B g (bk n k t l) ⟨5, ⟨gid, hol, path, mode, st, term⟩, id, stamp, next, boots, longest⟩ W := ⟨_, rfl⟩
  rw [← hQ]
  have HQ := Lib.hid hQ
  obtain ⟨w1, hw1⟩ : ∃ w1, w1 = W.alloc (.cells #[.int .i64 5, .int .i64 gid, .int .i64 hol, .string ⟨path.toArray⟩, .int .i64 mode, .slice A st.length c, .int .i64 term, .int .i64 id, .slice A2 stamp.length c2, .int .i64 next, .int .i64 boots, .int .i64 longest] 32) := ⟨_, rfl⟩
  have HR1 := Lib.hid (show Bk w1 W.heap.size 32 [.int .i64 5, .int .i64 gid, .int .i64 hol, .string ⟨path.toArray⟩, .int .i64 mode, .slice A st.length c, .int .i64 term, .int .i64 id, .slice A2 stamp.length c2, .int .i64 next, .int .i64 boots, .int .i64 longest] by rw [hw1]; exact Bk.new' rfl rfl)
  have HK1 := Lib.hid (show Kp No W w1 by rw [hw1]; exact (Kp.refl No W).alloc _)
  have HB1 := Lib.hid (h.bk.no HK1.out)
  have pa := fun W2 (kk : Kp No w1 W2) => (at_any (.slice A3 l.length c3) l id W2 ((h.own.no (HK1.out.trans kk)).arg) (Nat.le_trans h.len (by omega)) h.sorted).mono fun e w' ⟨i, h1, h2, h3⟩ => (⟨i, h1, h2, kk.trans h3⟩ : ∃ i : Nat, e = Ending.returned (.tuple #[.int .i64 i, .bool (hasG (gsL l) id)]) ∧ AtG (gsL l) id i ∧ Kp No w1 w')
  have sk : ∀ W2, Kp No w1 W2 → W2.cell? ⟨g, 3, none⟩ = some (.slice A3 l.length c3) ∧ W2.cell? ⟨W.heap.size, 7, none⟩ = some (.int .i64 id) := fun W2 kk => ⟨(HB1.out.no kk).cell 3, (HR1.out.no kk).cell 7⟩
  have HW := Lib.hid hw1
  obtain ⟨th, hth⟩ : ∃ th, th = hasG (gsL l) id := ⟨_, rfl⟩
  rw [← hth] at pa
  have HTH := Lib.hid hth
  clear hth hgv hrv hr hlim h hQ hw1
  simp only [rC]
  go_enter Try.func35, Try.ntmps35
  go_upto_region 1 with (fail)
  rw [← HW.out]
  clear HW
  first | (go_region_held3 (fun W2 => W2.cell? ⟨g, 3, none⟩ = some (.slice A3 l.length c3) ∧ W2.cell? ⟨W.heap.size, 7, none⟩ = some (.int .i64 id)) (first | (go_keep; done) | exact sk _ (by with_reducible repeat (first | assumption | exact Kp.refl _ _ | refine Kp.drew ?_ | refine Kp.drewN ?_ _)))
    (first | (go_at_call 71; (with_reducible refine (pa _ (by with_reducible repeat (first | assumption | exact Kp.refl _ _ | refine Kp.drew ?_ | refine Kp.drewN ?_ _))).mono ?_); rintro e w6 ⟨i, rfl, hat, k6⟩))) | fail
  all_goals
    have HAT := Lib.hid hat; have HK6 := Lib.hid k6
    have HB6 := Lib.hid (HB1.out.no k6); have HR6 := Lib.hid (HR1.out.no k6)
    clear hat k6 pa sk HB1 HR1
    have z0 : w6.cell? ⟨W.heap.size, 0, none⟩ = some (.int .i64 5) := HR6.out.cell 0
    have ho := Lib.hid (HH.out.own.no (HK1.out.trans HK6.out))
    have h5 := (mayR_5 (r := ⟨5, ⟨gid, hol, path, mode, st, term⟩, id, stamp, next, boots, longest⟩) rfl).1 HRR.out
    have hsl : stamp.length ≤ 4 := (cnt_of_valid h5.2.1.1).1
    have hs1 : stamp ≠ [] := h5.2.1.2
    clear h5
    have pn := fun W2 (kk : Kp No w6 W2) => newest_any (.slice A2 stamp.length c2) stamp W2 (HRV.out _ (((HK1.out.trans HK6.out).trans kk).from_)) (Nat.le_trans hsl (by unfold maxLen; omega))
    have y0 : w6.cell? ⟨g, 0, none⟩ = some (.int .i64 n) := HB6.out.cell 0
    have z8 : w6.cell? ⟨W.heap.size, 8, none⟩ = some (.slice A2 stamp.length c2) := HR6.out.cell 8
    cases th with
    | false =>
      go_upto_region 22 with (fail)
      go_quiet (fail)
      go_wp2
      rw [HQ.out]
      refine ⟨((HK1.out.trans HK6.out).from_).drewN _, .inl ⟨?_, rfl⟩⟩
      rw [changeB_5 rfl]
      exact if_neg (fun e => by have e : hasG (gsL l) id = true := e.1; rw [← HTH.out] at e; cases e)
    | true =>
      by_cases hn : newestS stamp = n
      case neg =>
        have HN := Lib.hid hn
        have d : (newestS stamp != n) = true := by rw [bne_iff_ne]; exact hn
        generalize hnw : newestS stamp = nw at d pn
        clear hn hnw
        go_upto_region 22 with (fail)
        go_quiet (first | (go_at_call 47; exact Calls.quiet_of_same ((pn _ (by with_reducible repeat (first | assumption | exact Kp.refl _ _ | refine Kp.drew ?_ | refine Kp.drewN ?_ _))).mono fun _ _ ⟨h1, h2⟩ => ⟨h1, h2.symm⟩)) | fail)
        go_wp2
        rw [HQ.out]
        refine ⟨((HK1.out.trans HK6.out).from_).drewN _, .inl ⟨?_, rfl⟩⟩
        rw [changeB_5 rfl]
        exact if_neg (fun e => HN.out e.2)
      case pos =>
        have HN := Lib.hid hn
        have d : (newestS stamp != n) = false := by rw [bne_eq_false_iff_eq]; exact hn
        obtain ⟨x, hx, hxe⟩ := (HAT.out.has HH.out.sorted).1 HTH.out.symm
        have hil : i < l.length := by have := (List.getElem?_eq_some_iff.1 hx).1; rwa [gsL_len] at this
        obtain ⟨q, o, qid, qhol, qpath, qmode, qst, qterm, qB, qd, hA3, el, _, hml, _, _, _, _, q4, _⟩ := ho.out.arg.cells hil
        subst hA3
        obtain ⟨q', cap', eq1, _, hBq, _⟩ := own_form ho.out.1 (by omega)
        injection eq1 with eq1 _ eq2
        injection eq1 with eq1
        injection eq1 with e1 e2 _
        subst e1 e2 eq2
        have HX := Lib.hid hx; have HXE := Lib.hid hxe; have HIL := Lib.hid hil; have HEL := Lib.hid (show l[i]? = some (⟨qid, qhol, qpath, qmode, qst, qterm⟩, .slice qB qst.length qd) by rw [List.getElem?_eq_getElem hil, el])
        have q4 : w6.cell? ⟨q, i * 6 + 4, none⟩ = some (.slice qB qst.length qd) := by rw [← q4, Nat.zero_add]
        have HQ4 := Lib.hid q4
        have hqb : ∃ cs, Bk w6 q 30 cs := own_bk ho.out.1 q rfl
        obtain ⟨qcs, hqcs⟩ := hqb
        have HQB := Lib.hid hqcs
        have hqg : q ≠ g := fun e => hqcs.ne_ HB6.out (by decide) e
        have hk0 : (0 : Int) ≤ (i : Int) := by omega
        have hk1 : (i : Int) < (l.length : Int) := by omega
        generalize hnw : newestS stamp = nw at d pn
        have hwn : IntKind.i64.wrap (n + 1) = n + 1 := by
          obtain ⟨h1, h2, _, _⟩ := HH.out.heads
          rw [IntKind.wrap_i64]; omega
        obtain ⟨g2, o2, c2', eB, _⟩ := (HRV.out _ ((HK1.out.trans HK6.out).from_)).at_ (List.length_pos_iff.2 hs1)
        injection eB with eB _ ec
        subst eB ec
        clear q4 hx hxe hil el hqcs hml hnw hn
        go_upto_region 22 with (fail)
        go_quiet (first | (go_at_call 47; exact Calls.quiet_of_same ((pn _ (by with_reducible repeat (first | assumption | exact Kp.refl _ _ | refine Kp.drew ?_ | refine Kp.drewN ?_ _))).mono fun _ _ ⟨h1, h2⟩ => ⟨h1, h2.symm⟩)) | fail)
        generalize hw7 : World.drewN w6 _ = w7
        have k7 : Kp No w6 w7 := by rw [← hw7]; exact (Kp.refl No w6).drewN _
        clear hw7 pn y0 z8 z0
        have HB7 := Lib.hid (HB6.out.no k7); have HR7 := Lib.hid (HR6.out.no k7); have HK7 := Lib.hid ((HK1.out.trans HK6.out).trans k7); have HO7 := Lib.hid (ho.out.no k7); have HQB7 := Lib.hid (HQB.out.no k7)
        have HQ7 := Lib.hid (show w7.cell? ⟨q, i * 6 + 4, none⟩ = some (.slice qB qst.length qd) by
          have := hqcsh HQB.out HQB7.out (i * 6 + 4); rw [this]; exact HQ4.out)
        have pcl := fun W2 (kk : Kp No w7 W2) => (cloneI_any g2 o2 c2 stamp W2 (HRV.out _ ((HK7.out.trans kk).from_)) (by omega)).mono fun e w' ⟨r, h1, h2, h3⟩ => (⟨r, h1, own_mono h2 kk.size, kk.trans h3⟩ : ∃ r, e = Ending.returned r ∧ w'.ownsRow w7.heap.size 3 1 r stamp.length (ints stamp) ∧ Kp No w7 w')
        have hqr : q ≠ W.heap.size := fun e => HQB7.out.ne_ HR7.out (by decide) e
        have sk : ∀ W2, Kp (One q) w7 W2 → W2.cell? ⟨g, 3, none⟩ = some (.slice (some ⟨q, 0, none⟩) l.length c3) ∧ W2.cell? ⟨W.heap.size, 8, none⟩ = some (.slice (some ⟨g2, o2, none⟩) stamp.length c2) := fun W2 kk => ⟨(HB7.out.kp kk (fun e => hqg e.symm)).cell 3, (HR7.out.kp kk (fun e => hqr e.symm)).cell 8⟩
        clear k7
        go_upto_region 24 with (fail)
        first | (go_region_held3 (fun W2 => W2.cell? ⟨g, 3, none⟩ = some (.slice (some ⟨q, 0, none⟩) l.length c3) ∧ W2.cell? ⟨W.heap.size, 8, none⟩ = some (.slice (some ⟨g2, o2, none⟩) stamp.length c2)) (first | (go_keep; done) | exact sk _ (by with_reducible repeat (first | assumption | exact Kp.refl _ _ | exact Kp.of_no (by assumption) | refine Kp.drew ?_ | refine Kp.drewN ?_ _ | refine Kp.setCell ?_ (.inl rfl) _)))
          (first | (go_at_call 73; (with_reducible refine (pcl _ (by with_reducible repeat (first | assumption | exact Kp.refl _ _ | refine Kp.drew ?_ | refine Kp.drewN ?_ _))).mono ?_); rintro e w8 ⟨r8, rfl, o8, k8⟩; have q8 : w8.cell? ⟨q, i * 6 + 4, none⟩ = some (.slice qB qst.length qd) := (hqcsh HQB7.out (HQB7.out.no k8) (i * 6 + 4)).trans HQ7.out; have qf8 : w8.frozen? ⟨q, i * 6 + 4, none⟩ = false := (HQB7.out.no k8).frozen _; obtain ⟨A8, c8, rfl, _⟩ := own_len o8))) | fail
        all_goals
          have K9 := Lib.hid ((HK7.out.trans k8).from_.set (g := q) (.inl hBq) (i * 6 + 4) (.slice A8 stamp.length c8))
          have B9 := Lib.hid ((HB7.out.no k8).far (p := ⟨q, i * 6 + 4, none⟩) (fun e => hqg e.symm) (.slice A8 stamp.length c8))
          have hil := HIL.out
          have ew : l[i] = ((⟨qid, qhol, qpath, qmode, qst, qterm⟩, .slice qB qst.length qd) : GP) := by
            have := HEL.out; rw [List.getElem?_eq_getElem hil] at this; injection this
          have hx : x = ⟨qid, qhol, qpath, qmode, qst, qterm⟩ := by
            have := HX.out; rw [List.getElem?_eq_getElem (by rw [gsL_len]; exact hil), gsL_get hil, ew] at this; injection this with this; exact this.symm
          have O9 := Lib.hid (show OwnG (w8.setCell ⟨q, i * 6 + 4, none⟩ (.slice A8 stamp.length c8)) B (.slice (some ⟨q, 0, none⟩) l.length c3) (l.set i ({ l[i].1 with stamp := stamp }, .slice A8 stamp.length c8)) by
            have ho8 := HO7.out.no k8
            have kq := (Kp.refl (One q) w8).set (.inl (One.self q)) (i * 6 + 4) (.slice A8 stamp.length c8)
            have hq8 := HQB7.out.no k8
            refine ⟨?_, fun p hp => ?_⟩
            · rw [List.length_set, pL_set l i hil]
              exact own_set ho8.1 (by omega)
            · rcases List.mem_or_eq_of_mem_set hp with hp | rfl
              · exact own_kp (ho8.2 p hp) kq fun j e m => own_ne (ho8.2 p hp) hq8 (by decide) (by rw [e, show j = q from m])
              · have o8' := own_mono o8 (show B ≤ w7.heap.size from Nat.le_trans HH.out.le HK7.out.size)
                exact own_kp o8' kq fun j e m => own_ne o8' hq8 (by decide) (by rw [e, show j = q from m]))
          have HGS := Lib.hid (show gsL (l.set i ({ l[i].1 with stamp := stamp }, .slice A8 stamp.length c8)) = setG (gsL l) id stamp by
            rw [setG_at HH.out.sorted HX.out HXE.out, hx]
            unfold gsL
            rw [List.map_set, ew])
          generalize (l.set i ({ l[i].1 with stamp := stamp }, .slice A8 stamp.length c8) : List GP) = l9 at O9 HGS
          clear pcl sk k8 q8 qf8 o8 ew hx hil
          generalize w8.setCell ⟨q, i * 6 + 4, none⟩ (.slice A8 stamp.length c8) = w9 at *
          have y0 : w9.cell? ⟨g, 0, none⟩ = some (.int .i64 n) := B9.out.cell 0
          have f0 := B9.out.frozen 0
          go_wp2
          rw [HQ.out]
          have kg := (Kp.refl (One g) w9).set (.inl (One.self g)) 0 (.int .i64 (n + 1))
          refine ⟨K9.out.set (g := g) (.inl HH.out.ge) 0 _, .inr ⟨{ bk n k t l with next := n + 1, grants := setG (gsL l) id stamp }, _, _, ?_, rfl, HGS.out, B9.out.set_ 0 _, O9.out.far kg B9.out (by decide) (by decide)⟩⟩
          rw [changeB_5 rfl]
          exact if_pos ⟨HTH.out.symm, HN.out⟩
end Go.Proofs.Ytifdceofglocdaa
