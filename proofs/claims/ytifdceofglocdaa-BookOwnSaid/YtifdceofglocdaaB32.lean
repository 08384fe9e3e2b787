/- Several texts of this claim in one. No condition beyond what each theorem states. -/
import Derived.Test.YtifdceofglocdaaB20
import Derived.Test.YtifdceofglocdaaB30
import Derived.Deep.DeepMust
import Derived.Deep.Cut
import Derived.Deep.DeepCutAuto
import Derived.Test.YtifdceofglocdaaB31
/- The fewest records that make a book: the document's Dump by contract. No condition beyond what each theorem states. -/
namespace Go.Proofs.Ytifdceofglocdaa
open Go Go.RowKit Go.PlainAid

set_option maxRecDepth 100000 in
set_option maxHeartbeats 8000000 in
theorem rdump_any (n k t : Int) (v : Value) (l : List GP) (W : World) (hv : ArgG W v l) (hl : ShL maxLen l) (hp : ∀ p ∈ l, p.1.path.length < 9223372036854775807) :
    Calls Try.prog 29 #[.agg #[.int .i64 n, .int .i64 k, .int .i64 t, v]] W (DumpR (bk n k t l) W) := by
  obtain ⟨A0, c0, rfl, _⟩ := hv.len
  obtain ⟨Q, hQ⟩ : ∃ Q : Ending → World → Prop, Q = DumpR (bk n k t l) W := ⟨_, rfl⟩
  rw [← hQ]
  have HQ := Lib.hid hQ; clear hQ
  obtain ⟨w1, hw1⟩ : ∃ w1, w1 = W.alloc (.cells #[.int .i64 n, .int .i64 k, .int .i64 t, .slice A0 l.length c0] 25) := ⟨_, rfl⟩
  have HK1 := Lib.hid (show Kp No W w1 by rw [hw1]; exact (Kp.refl No W).alloc _)
  have HB1 := Lib.hid (show Bk w1 W.heap.size 25 [.int .i64 n, .int .i64 k, .int .i64 t, .slice A0 l.length c0] by rw [hw1]; exact Bk.new' rfl rfl)
  have pv := fun W2 (kk : Kp No w1 W2) => (rbvalid_any n k t (.slice A0 l.length c0) l W2 (hv.no (HK1.out.trans kk)) hl hp).mono fun e w' ⟨h1, h3⟩ => (⟨h1, kk.trans h3⟩ : e = Ending.returned (.bool (decide (validB (bk n k t l)))) ∧ Kp No w1 w')
  have HV := Lib.hid hv; have HW := Lib.hid hw1
  clear hv hl hw1 hp
  have y0 : w1.cell? ⟨W.heap.size, 0, none⟩ = some (.int .i64 n) := HB1.out.cell 0; have y1 : w1.cell? ⟨W.heap.size, 1, none⟩ = some (.int .i64 k) := HB1.out.cell 1; have y2 : w1.cell? ⟨W.heap.size, 2, none⟩ = some (.int .i64 t) := HB1.out.cell 2; have y3 : w1.cell? ⟨W.heap.size, 3, none⟩ = some (.slice A0 l.length c0) := HB1.out.cell 3
  go_enter Try.func29, Try.ntmps29
  go_upto_region 1 with (fail)
  rw [← HW.out]
  clear HW
  go_wp2_with fail
  refine (pv _ (Kp.refl _ _)).mono ?_
  rintro e w2 ⟨rfl, k2⟩
  have HK2 := Lib.hid (HK1.out.trans k2); have HB2 := Lib.hid (HB1.out.no k2)
  clear k2 pv y0 y1 y2 y3
  by_cases hval : validB (bk n k t l)
  case neg =>
    have HF := Lib.hid (show Q (.returned (.slice none 0 0)) w2 by
      rw [HQ.out]
      exact ⟨_, [], rfl, by unfold dumpB; rw [if_neg hval]; rfl, OwnRs.nil _ _, HK2.out⟩)
    rw [decide_eq_false hval]
    clear hval
    go_wp2
    exact HF.out
  have HVAL := Lib.hid hval
  have hlen : l.length ≤ 6 := ((valid_bk n k t l).1 hval).2.2.1
  have HST := Lib.hid (show ∀ p ∈ l, p.1.stamp ≠ [] ∧ p.1.stamp.length ≤ 4 from fun p hp => by
    have := mayG_sh (((valid_bk n k t l).1 hval).2.2.2.1 p.1 (List.mem_map.2 ⟨p, hp, rfl⟩)).1
    exact ⟨this.2.2, this.2.1⟩)
  rw [decide_eq_true hval]
  clear hval
  have y0 : w2.cell? ⟨W.heap.size, 0, none⟩ = some (.int .i64 n) := HB2.out.cell 0; have y1 : w2.cell? ⟨W.heap.size, 1, none⟩ = some (.int .i64 k) := HB2.out.cell 1; have y2 : w2.cell? ⟨W.heap.size, 2, none⟩ = some (.int .i64 t) := HB2.out.cell 2
  obtain ⟨w3, hw3⟩ : ∃ w3, w3 = w2.alloc (.cells #[.int .i64 1, .int .i64 0, .int .i64 0, .string ⟨#[]⟩, .int .i64 0, .slice none 0 0, .int .i64 0, .int .i64 0, .slice none 0 0, .int .i64 n, .int .i64 k, .int .i64 0] 32) := ⟨_, rfl⟩
  have HR3 := Lib.hid (show OwnRs w3 w2.heap.size (.slice (some ⟨w2.heap.size, 0, none⟩) 1 1) [(({ kind := 1, next := n, boots := k } : Rcd), (.slice none 0 0, .slice none 0 0))] from
    ⟨own_bk1 (by rw [hw3]; exact Bk.new' rfl rfl) (Nat.le_refl _) rfl, fun p hp => by rw [List.mem_singleton] at hp; subst hp; exact ⟨nil_own _ _ _ _, nil_own _ _ _ _⟩⟩)
  have HK3 := Lib.hid (show Kp No w2 w3 by rw [hw3]; exact (Kp.refl No w2).alloc _)
  have HB3 := Lib.hid (HB2.out.no HK3.out)
  have HW3 := Lib.hid hw3
  clear hw3
  go_upto_region 4 with (fail)
  rw [← HW3.out]
  clear HW3 y0 y1 y2
  have y2 : w3.cell? ⟨W.heap.size, 2, none⟩ = some (.int .i64 t) := HB3.out.cell 2
  go_upto_if 16 with (fail)
  go_cut [3] (fun s wx => ∃ rl : List RP, rl.map (·.1) = headR (bk n k t l) ∧ OwnRs wx w2.heap.size s rl ∧ Kp No w2 wx)
  case first =>
    by_cases ht : ¬ t = 0
    · have dt : (t != 0) = true := by rw [bne_iff_ne]; exact ht
      have HH := Lib.hid (show headR (bk n k t l) = [{ kind := 1, next := n, boots := k }, { kind := 2, longest := t }] by
        unfold headR; rw [if_neg (by show ¬ t = 0; exact ht)]; rfl)
      clear ht
      have HRA := Lib.hid (show (w3.alloc (.cells #[.int .i64 2, .int .i64 0, .int .i64 0, .string ⟨#[]⟩, .int .i64 0, .slice none 0 0, .int .i64 0, .int .i64 0, .slice none 0 0, .int .i64 0, .int .i64 0, .int .i64 t] 32)).ownsRow w2.heap.size 32 12 (.slice (some ⟨w2.heap.size, 0, none⟩) 1 1) 1 (rL [(({ kind := 1, next := n, boots := k } : Rcd), (.slice none 0 0, .slice none 0 0))]) from (HR3.out.no ((Kp.refl No w3).alloc _)).1)
      have hsz : w2.heap.size ≤ w3.heap.size := HK3.out.size
      go_wp2_with (at_builtin; go_must (refine wpList_app1 _ rfl _ _ 43 rfl w2.heap.size 32 _ 12 136 Try.underlying43 Try.infoRc rfl (by omega) _ 1 _ rfl HRA.out _ _ _ rfl (Bk.new' rfl rfl : Bk _ _ _ [.int .i64 2, .int .i64 0, .int .i64 0, .string ⟨#[]⟩, .int .i64 0, .slice none 0 0, .int .i64 0, .int .i64 0, .slice none 0 0, .int .i64 0, .int .i64 0, .int .i64 t]) rfl (by simp [Value.oneCell']) (by omega) (by omega) (by simp; omega) ?_); intro g5 cap5 w5 hown5 hk5 hat5)
      go_meet
      refine ⟨_, ?_, HR3.out.snoc (p := (({ kind := 2, longest := t } : Rcd), (.slice none 0 0, .slice none 0 0))) ((Kp.refl No w3).alloc _) hk5 hown5 (nil_own _ _ _ _) (nil_own _ _ _ _), (HK3.out.trans ((Kp.refl No w3).alloc _)).then_ hk5 fun j hj e => ?_⟩
      · rw [HH.out]; rfl
      · have := ((HR3.out.1).lt j e).1; omega
    · have HH := Lib.hid (show headR (bk n k t l) = [{ kind := 1, next := n, boots := k }] by
        unfold headR; rw [if_pos (by show t = 0; exact Classical.not_not.1 ht)]; rfl)
      obtain rfl : t = 0 := Classical.not_not.1 ht
      clear ht
      go_wp2
      go_meet
      exact ⟨_, by rw [HH.out]; rfl, HR3.out, HK3.out⟩
  case rest =>
    obtain ⟨rl, hrl, hor, hkr⟩ := hcut
    have HRL := Lib.hid hrl; have HOR := Lib.hid hor; have HKR := Lib.hid hkr
    clear hrl hor hkr y2 HR3
    go_wp2
    go_loopw [4, 3] (fun i o wr => ∃ (j : Nat) (ml : List RP), j ≤ l.length ∧ i = .int .i64 j ∧ ml.map (·.1) = headR (bk n k t l) ++ (gsL (l.take j)).map (fun g => ({ kind := 3, grant := g } : Rcd)) ∧ OwnRs wr w2.heap.size o ml ∧ Kp No w2 wr) (fun i _ _ => l.length - (intOf i).toNat)
    case atStart => exact ⟨0, rl, Nat.zero_le _, rfl, by rw [HRL.out]; simp [gsL], HOR.out, HKR.out⟩
    case round =>
      obtain ⟨j, ml, hj, rfl, hm, hO, hK⟩ := hrel
      have HM := Lib.hid hm; have HO := Lib.hid hO; have HK := Lib.hid hK
      clear hm hO hK
      have y3 : wr.cell? ⟨W.heap.size, 3, none⟩ = some (.slice A0 l.length c0) := (HB2.out.no HK.out).cell 3
      by_cases hlt : j < l.length
      · have hk0 : (0 : Int) ≤ (j : Int) := by omega
        have hk1 : (j : Int) < (l.length : Int) := by omega
        have kW : Kp No W wr := HK2.out.trans HK.out
        obtain ⟨g, o, gid, hol, path, mode, st, term, B, d, rfl, el, ha, hml, x0, x1, x2, x3, x4, x5⟩ := (HV.out.no kW).cells hlt
        have hst := HST.out _ hml
        have HS1 := Lib.hid (gsL_snoc hlt)
        rw [el] at HS1 hst
        have hst2 : st.length ≤ 4 := hst.2
        have HMJ := Lib.hid (show ml.length ≤ 2 + j by
          have := congrArg List.length HM.out
          rw [List.length_map, List.length_append, List.length_map, gsL_len, List.length_take] at this
          unfold headR at this
          split at this <;> simp at this <;> omega)
        have HA := Lib.hid ha
        have pt := fun W2 (kk : Kp No wr W2) => copyG_any (⟨gid, hol, path, mode, st, term⟩, .slice B st.length d) W2 (HA.out.no kk) (show st.length ≤ _ by omega)
        simp only [pC] at pt
        have kA := Kp.refl No wr
        clear hlt ha hml el hst
        go_wp2_with fail
        refine (pt _ kA).mono ?_
        rintro e w4 ⟨sv, rfl, o4, k4⟩
        obtain ⟨A4, c4, rfl, _⟩ := own_len o4
        have HK4 := Lib.hid (kA.trans k4)
        have HO4 := Lib.hid (show w4.ownsRow w2.heap.size 3 1 (.slice A4 st.length c4) st.length (ints st) from own_mono o4 (Nat.le_trans HK.out.size kA.size))
        clear pt kA k4 o4 x0 x1 x2 x3 x4 x5
        have hsz : w2.heap.size ≤ w4.heap.size := Nat.le_trans HK.out.size HK4.out.size
        have HR := Lib.hid ((HO.out.no HK4.out).1)
        have hml := HMJ.out
        go_wp2_with (at_builtin; go_must (refine wpList_app1 _ rfl _ _ 43 rfl w2.heap.size 32 _ 12 136 Try.underlying43 Try.infoRc rfl (by omega) _ ml.length (rL ml) rfl (HR.out.alloc _) _ _ _ rfl (Bk.new' (by simp) rfl : Bk _ _ _ (rP (({ kind := 3, grant := ⟨gid, hol, path, mode, st, term⟩ } : Rcd), (.slice A4 st.length c4, .slice none 0 0)))) rfl (by simp [rP, rC, Value.oneCell']) (by omega) (by omega) (by simp; omega) ?_); intro g5 cap5 w5 hown5 hk5 hat5)
        have HO5 := Lib.hid hown5; have HK5 := Lib.hid hk5
        clear hown5 hk5 hat5
        go_roundw
        case rel =>
          have ha5 : Kp No w4 (w4.alloc (.cells (rP (({ kind := 3, grant := ⟨gid, hol, path, mode, st, term⟩ } : Rcd), (.slice A4 st.length c4, .slice none 0 0))).toArray 32)) := (Kp.refl No w4).alloc _
          have o4 := own_kp HO4.out ha5 fun _ _ q => q
          refine ⟨j + 1, _, by have := hk1; omega, by go_num, ?_, HO.out.snoc (HK4.out.trans ha5) HK5.out HO5.out o4 (nil_own _ _ _ _), ((HK.out.trans HK4.out).trans ha5).then_ HK5.out fun i hi e => by have := (HO.out.1.lt i e).1; omega⟩
          rw [List.map_append, HM.out, HS1.out, List.map_append, List.append_assoc]
          rfl
        case measure => simp [intOf]; omega
      · have hk1 : ¬ (j : Int) < (l.length : Int) := by omega
        have hjl : j = l.length := by omega
        have HF := Lib.hid (show Q (.returned u3) wr by
          rw [HQ.out]
          refine ⟨_, ml, rfl, ?_, HO.out.mono HK2.out.size, HK2.out.trans HK.out⟩
          rw [HM.out, hjl, List.take_length, dump_head HVAL.out]
          rfl)
        clear hlt hjl
        go_wp2
        exact HF.out
end Go.Proofs.Ytifdceofglocdaa

/- Is a book's Dump the document's: the law's dumps by contract. No condition beyond what each theorem states. -/
namespace Go.Proofs.Ytifdceofglocdaa
open Go Go.RowKit Go.PlainAid

theorem rcd_rec_of {w : World} {B : Nat} {v : Value} {l : List RP} (h : OwnRs w B v l) {j : Nat} (hj : j < l.length) : ArgInts w l[j].2.1 l[j].1.grant.stamp ∧ ArgInts w l[j].2.2 l[j].1.stamp :=
  ⟨own_argI (h.2 _ (List.getElem_mem hj)).1, own_argI (h.2 _ (List.getElem_mem hj)).2⟩
theorem dump_len8 (b : Bok) : (dumpB b).length ≤ 8 := by
  by_cases h : validB b
  · rw [dump_head h, List.length_append, List.length_map]
    have h1 : b.grants.length ≤ 6 := h.2.2.1
    unfold headR
    split <;> simp <;> omega
  · unfold dumpB; rw [if_neg h]; exact Nat.zero_le _
set_option maxRecDepth 100000 in
set_option maxHeartbeats 8000000 in
theorem dumps_any (n k t : Int) (v u : Value) (l m : List GP) (W : World) (hv : ArgG W v l) (hu : ArgG W u m) (hl : ShL maxLen l) (hm : ShL maxLen m) (hp : ∀ p ∈ m, p.1.path.length < 9223372036854775807) (hb : l.length ≤ 1954687338211) (hst : ∀ p ∈ l, p.1.stamp.length ≤ 17592186043904) (he : gsL m = gsL l) :
    Calls Try.prog 22 #[.agg #[.int .i64 n, .int .i64 k, .int .i64 t, v], .agg #[.int .i64 n, .int .i64 k, .int .i64 t, u]] W fun e w' => e = .returned (.bool true) ∧ Kp No W w' := by
  obtain ⟨A0, c0, rfl, _⟩ := hv.len
  obtain ⟨A1, c1, rfl, _⟩ := hu.len
  obtain ⟨CB, hCB⟩ : ∃ C : List Value, C = [.int .i64 n, .int .i64 k, .int .i64 t, .slice A0 l.length c0] := ⟨_, rfl⟩
  obtain ⟨CM, hCM⟩ : ∃ C : List Value, C = [.int .i64 n, .int .i64 k, .int .i64 t, .slice A1 m.length c1] := ⟨_, rfl⟩
  obtain ⟨w1, hw1⟩ : ∃ w1, w1 = (W.alloc (.cells CB.toArray 25)).alloc (.cells CM.toArray 25) := ⟨_, rfl⟩
  have HK1 := Lib.hid (show Kp No W w1 by rw [hw1]; exact ((Kp.refl No W).alloc _).alloc _)
  have HB1 := Lib.hid (show Bk w1 W.heap.size 25 CB by rw [hw1]; exact (Bk.new' rfl rfl).alloc _)
  have HM1 := Lib.hid (show Bk w1 (W.heap.size + 1) 25 CM by rw [hw1]; exact Bk.new' (by simp) rfl)
  have HIB := Lib.hid (show (Try.prog.info? 25).map (·.size) = some CB.length by rw [hCB]; kernel_rfl)
  have HIM := Lib.hid (show (Try.prog.info? 25).map (·.size) = some CM.length by rw [hCM]; kernel_rfl)
  have HUB := Lib.hid Try.underlying25
  have HUR := Lib.hid Try.underlying32
  have po : ∀ W2, Kp No w1 W2 → Calls Try.prog 13 #[.agg CB.toArray] W2 fun e w' => ∃ v, e = .returned v ∧ OwnBk w' w1.heap.size n k t (gsL l) v ∧ Kp No w1 w' := fun W2 kk => by
    rw [hCB]
    exact (ownB_any n k t (.slice A0 l.length c0) l W2 (hv.no (HK1.out.trans kk)) hb hst).mono fun e w' ⟨sv, l2, h1, h2, h3, h4⟩ => ⟨_, h1, OwnBk.of h2 (h3.mono kk.size), kk.trans h4⟩
  have pd : ∀ W2 v, Kp No w1 W2 → OwnBk W2 w1.heap.size n k t (gsL l) v → Calls Try.prog 28 #[v] W2 fun e w' => ∃ sv rl, e = .returned sv ∧ rl.map (·.1) = dumpB (bk n k t l) ∧ OwnRs w' w1.heap.size sv rl ∧ Kp No w1 w' ∧ Kp No W2 w' := by
    rintro W2 v kk ⟨A2, l2, c2, rfl, g2, o2⟩
    exact (dump_any n k t (.slice A2 l2.length c2) l2 W2 o2.arg (shL_gs hl g2)).mono fun e w' ⟨sv, rl, h1, h2, h3, h4⟩ => ⟨sv, rl, h1, by rw [h2, bk_gs g2], h3.mono kk.size, kk.trans h4, h4⟩
  have pm : ∀ W2, Kp No w1 W2 → Calls Try.prog 29 #[.agg CM.toArray] W2 fun e w' => ∃ sv rl, e = .returned sv ∧ rl.map (·.1) = dumpB (bk n k t l) ∧ OwnRs w' w1.heap.size sv rl ∧ Kp No w1 w' ∧ Kp No W2 w' := fun W2 kk => by
    rw [hCM]
    exact (rdump_any n k t (.slice A1 m.length c1) m W2 (hu.no (HK1.out.trans kk)) hm hp).mono fun e w' ⟨sv, rl, h1, h2, h3, h4⟩ => ⟨sv, rl, h1, by rw [h2, bk_gs he], h3.mono kk.size, kk.trans h4, h4⟩
  have HW := Lib.hid hw1
  clear hv hu hl hm hp hb hst he hw1
  rw [← hCB, ← hCM]
  clear hCB hCM
  go_enter Try.func22, Try.ntmps22
  go_upto_region 1 with (fail)
  rw [← HW.out]
  clear HW
  have hF := (Kp.refl No w1).drew
  refine rg_begin (fun W2 => Kp No w1 W2) 7 (by kernel_rfl) ?_
  refine rg_take (i := 0) (v := ?vp0) (by simp only [List.getElem?_toArray, List.getElem?_cons_zero]; rfl) (by kernel_rfl) (by exact fun _ _ _ h => h) (by rfl) ?rp0 hF ?sp0
  case rp0 => (intro W9 hW; refine exec_load_mid W9 25 (.tmp 2) ?_ W.heap.size 0 ?_ CB _ (bk_range (HB1.out.no hW)) HUB.out ?_ HIB.out; exact rfl; exact rfl; exact rfl)
  try simp only [Act.put, List.setIfInBounds_toArray, List.set_cons_zero, List.set_cons_succ]
  refine rg_take (i := 3) (v := ?vp3) (by simp only [List.getElem?_toArray, List.getElem?_cons_succ, List.getElem?_cons_zero]; rfl) (by kernel_rfl) (by exact fun _ _ _ h => h) (by rfl) ?rp3 hF ?sp3
  case rp3 => (intro W9 hW; refine exec_load_mid W9 25 (.tmp 3) ?_ (W.heap.size + 1) 0 ?_ CM _ (bk_range (HM1.out.no hW)) HUB.out ?_ HIM.out; exact rfl; exact rfl; exact rfl)
  try simp only [Act.put, List.setIfInBounds_toArray, List.set_cons_zero, List.set_cons_succ]
  refine rg_one (i := 1) (oi := ?op1) ?ap1 ?bp1 ?cp1 ?dp1
  case ap1 => (simp only [List.getElem?_toArray, List.getElem?_cons_succ, List.getElem?_cons_zero]; rfl)
  case bp1 => kernel_rfl
  case cp1 => rfl
  intro K hK
  (go_simp; refine (po _ (Kp.refl No w1).drew).mono ?_; rintro e w2 ⟨v2, rfl, o2, k2⟩)
  refine rg_use hK (k2) (fun hF => ?_)
  clear hK K
  try simp only [Act.put, List.setIfInBounds_toArray, List.set_cons_zero, List.set_cons_succ]
  refine rg_one (i := 2) (oi := ?op2) ?ap2 ?bp2 ?cp2 ?dp2
  case ap2 => (simp only [List.getElem?_toArray, List.getElem?_cons_succ, List.getElem?_cons_zero]; rfl)
  case bp2 => kernel_rfl
  case cp2 => rfl
  intro K hK
  (go_simp; refine (pd _ _ k2 o2).mono ?_; rintro e w3 ⟨v3, rl3, rfl, hr3, o3, k3, k3x⟩)
  refine rg_use hK (k3) (fun hF => ?_)
  clear hK K
  try simp only [Act.put, List.setIfInBounds_toArray, List.set_cons_zero, List.set_cons_succ]
  refine rg_one (i := 4) (oi := ?op4) ?ap4 ?bp4 ?cp4 ?dp4
  case ap4 => (simp only [List.getElem?_toArray, List.getElem?_cons_succ, List.getElem?_cons_zero]; rfl)
  case bp4 => kernel_rfl
  case cp4 => rfl
  intro K hK
  (go_simp; refine (pm _ k3).mono ?_; rintro e w4 ⟨v4, rl4, rfl, hr4, o4, k4, k4x⟩)
  refine rg_use hK (k4) (fun hF => ?_)
  clear hK K
  try simp only [Act.put, List.setIfInBounds_toArray, List.set_cons_zero, List.set_cons_succ]
  refine rg_take (i := 5) (v := ?vp5) (by simp only [List.getElem?_toArray, List.getElem?_cons_succ, List.getElem?_cons_zero]; rfl) (by kernel_rfl) (by exact fun _ _ _ h => h) (by rfl) ?rp5 hF ?sp5
  case rp5 => (intro W hW; clear hW; go_simp; try with_reducible rfl)
  try simp only [Act.put, List.setIfInBounds_toArray, List.set_cons_zero, List.set_cons_succ]
  refine rg_take (i := 6) (v := ?vp6) (by simp only [List.getElem?_toArray, List.getElem?_cons_succ, List.getElem?_cons_zero]; rfl) (by kernel_rfl) (by exact fun _ _ _ h => h) (by rfl) ?rp6 hF ?sp6
  case rp6 => (intro W hW; clear hW; go_simp; try with_reducible rfl)
  try simp only [Act.put, List.setIfInBounds_toArray, List.set_cons_zero, List.set_cons_succ]
  refine rg_done (by kernel_rfl) ?_
  have HO3 := Lib.hid (o3.no k4x); have HO4 := Lib.hid o4; have HR3 := Lib.hid hr3; have HR4 := Lib.hid hr4
  have HK4 := Lib.hid (HK1.out.trans k4)
  obtain ⟨A3, c3, rfl, _⟩ := own_len o3.1
  obtain ⟨A4, c4, rfl, _⟩ := own_len o4.1
  have hll : rl3.length = rl4.length := by have := congrArg List.length (hr3.trans hr4.symm); simpa using this
  have hsh : ∀ p ∈ rl3, ShG maxLen p.1.grant ∧ p.1.stamp.length ≤ maxLen := fun p hp => dump_sh (by rw [← hr3]; exact List.mem_map_of_mem hp)
  have hsh4 : ∀ p ∈ rl4, ShG maxLen p.1.grant ∧ p.1.stamp.length ≤ maxLen := fun p hp => dump_sh (by rw [← hr4]; exact List.mem_map_of_mem hp)
  have hl8 : rl3.length ≤ 8 := by have := dump_len8 (bk n k t l); rw [← hr3, List.length_map] at this; exact this
  have HSH3 := Lib.hid hsh; have HSH4 := Lib.hid hsh4
  have HLL := Lib.hid hll
  clear hF po pd pm k2 k3 k3x k4 k4x o2 o3 o4 hr3 hr4 hsh hsh4 HIB HIM HUB HB1 HM1
  rw [← hll]
  clear hll
  go_wp2
  go_loopw [20] (fun i wr => ∃ j : Nat, j ≤ rl3.length ∧ i = .int .i64 j ∧ Kp No w4 wr) (fun i _ => rl3.length - (intOf i).toNat)
  case atStart => exact ⟨0, Nat.zero_le _, rfl, Kp.refl _ _⟩
  case round =>
    obtain ⟨j, hj, rfl, hk⟩ := hrel
    have HK := Lib.hid hk
    clear hk
    by_cases hlt : j < rl3.length
    · have hk0 : (0 : Int) ≤ (j : Int) := by omega
      have hk1 : (j : Int) < (rl3.length : Int) := by omega
      have hlt4 : j < rl4.length := by rw [← HLL.out]; exact hlt
      have ho3 := HO3.out.no HK.out; have ho4 := HO4.out.no HK.out
      obtain ⟨g1, d1, e1, _, hc1⟩ := ho3.cells hlt
      obtain ⟨g2, d2, e2, _, hc2⟩ := ho4.cells hlt4
      injection e1 with e1 _ e1'
      injection e2 with e2 _ e2'
      subst e1 e2 e1' e2'
      have heq : rl3[j].1 = rl4[j].1 := by
        have h1 : (rl3.map (·.1))[j]? = (rl4.map (·.1))[j]? := by rw [HR3.out, HR4.out]
        rw [List.getElem?_map, List.getElem?_map, List.getElem?_eq_getElem hlt, List.getElem?_eq_getElem hlt4] at h1
        simpa using h1
      obtain ⟨a1, a2⟩ := rcd_rec_of ho3 hlt
      obtain ⟨b1, b2⟩ := rcd_rec_of ho4 hlt4
      obtain ⟨s1, s2⟩ := HSH3.out _ (List.getElem_mem hlt)
      obtain ⟨s3, s4⟩ := HSH4.out _ (List.getElem_mem hlt4)
      obtain ⟨C1, hC1⟩ : ∃ C, C = rP rl3[j] := ⟨_, rfl⟩
      obtain ⟨C2, hC2⟩ : ∃ C, C = rP rl4[j] := ⟨_, rfl⟩
      have HC1 := Lib.hid (show ∀ W2, Kp No wr W2 → W2.rangeAt g1 (j * 12) C1 from fun W2 kk => range_kp (fun i u h => by rw [hC1] at h; exact hc1 i u h) kk fun q => q)
      have HC2 := Lib.hid (show ∀ W2, Kp No wr W2 → W2.rangeAt g2 (j * 12) C2 from fun W2 kk => range_kp (fun i u h => by rw [hC2] at h; exact hc2 i u h) kk fun q => q)
      have HI1 := Lib.hid (show (Try.prog.info? 32).map (·.size) = some C1.length by rw [hC1]; kernel_rfl)
      have HI2 := Lib.hid (show (Try.prog.info? 32).map (·.size) = some C2.length by rw [hC2]; kernel_rfl)
      have ps : ∀ W2, Kp No wr W2 → Calls Try.prog 27 #[.agg C1.toArray, .agg C2.toArray] W2 fun e w' => e = .returned (.bool true) ∧ Kp No wr w' := fun W2 kk => by
        rw [hC1, hC2]
        refine (rsameRec_any rl3[j].1 rl4[j].1 rl3[j].2.1 rl3[j].2.2 rl4[j].2.1 rl4[j].2.2 W2 (a1.no kk) (a2.no kk) (b1.no kk) (b2.no kk) s1.2 s2 s3.2 s4).mono fun e w' ⟨h1, h2⟩ => ⟨?_, kk.trans h2⟩
        rw [h1, decide_eq_true heq]
      have HLT := Lib.hid hlt
      clear hlt hlt4 ho3 ho4 hc1 hc2 heq a1 a2 b1 b2 s1 s2 s3 s4 hC1 hC2
      go_upto_region 7 with (fail)
      have hF := (Kp.refl No wr).drew
      refine rg_begin (fun W2 => Kp No wr W2) 10 (by kernel_rfl) ?_
      refine rg_take (i := 0) (v := ?vq0) (by simp only [List.getElem?_toArray, List.getElem?_cons_zero]; rfl) (by kernel_rfl) (by exact fun _ _ _ h => h) (by rfl) ?rq0 hF ?sq0
      case rq0 => (intro W hW; clear hW; go_simp; try with_reducible rfl)
      try simp only [Act.put, List.setIfInBounds_toArray, List.set_cons_zero, List.set_cons_succ]
      refine rg_take (i := 1) (v := ?vq1) (by simp only [List.getElem?_toArray, List.getElem?_cons_succ, List.getElem?_cons_zero]; rfl) (by kernel_rfl) (by exact fun _ _ _ h => h) (by rfl) ?rq1 hF ?sq1
      case rq1 => (intro W hW; clear hW; go_simp; try with_reducible rfl)
      try simp only [Act.put, List.setIfInBounds_toArray, List.set_cons_zero, List.set_cons_succ]
      refine rg_take (i := 2) (v := ?vq2) (by simp only [List.getElem?_toArray, List.getElem?_cons_succ, List.getElem?_cons_zero]; rfl) (by kernel_rfl) (by exact fun _ _ _ h => h) (by rfl) ?rq2 hF ?sq2
      case rq2 => (intro W hW; clear hW; go_simp; try with_reducible rfl)
      try simp only [Act.put, List.setIfInBounds_toArray, List.set_cons_zero, List.set_cons_succ]
      refine rg_take (i := 3) (v := ?vq3) (by simp only [List.getElem?_toArray, List.getElem?_cons_succ, List.getElem?_cons_zero]; rfl) (by kernel_rfl) (by exact fun _ _ _ h => h) (by rfl) ?rq3 hF ?sq3
      case rq3 => (intro W9 hW; refine exec_load_mid W9 32 (.tmp 25) ?_ g1 (j * 12) ?_ C1 _ (HC1.out W9 hW) HUR.out ?_ HI1.out; exact rfl; go_simp; exact rfl)
      try simp only [Act.put, List.setIfInBounds_toArray, List.set_cons_zero, List.set_cons_succ]
      refine rg_take (i := 4) (v := ?vq4) (by simp only [List.getElem?_toArray, List.getElem?_cons_succ, List.getElem?_cons_zero]; rfl) (by kernel_rfl) (by exact fun _ _ _ h => h) (by rfl) ?rq4 hF ?sq4
      case rq4 => (intro W hW; clear hW; go_simp; try with_reducible rfl)
      try simp only [Act.put, List.setIfInBounds_toArray, List.set_cons_zero, List.set_cons_succ]
      refine rg_take (i := 5) (v := ?vq5) (by simp only [List.getElem?_toArray, List.getElem?_cons_succ, List.getElem?_cons_zero]; rfl) (by kernel_rfl) (by exact fun _ _ _ h => h) (by rfl) ?rq5 hF ?sq5
      case rq5 => (intro W hW; clear hW; go_simp; try with_reducible rfl)
      try simp only [Act.put, List.setIfInBounds_toArray, List.set_cons_zero, List.set_cons_succ]
      refine rg_take (i := 6) (v := ?vq6) (by simp only [List.getElem?_toArray, List.getElem?_cons_succ, List.getElem?_cons_zero]; rfl) (by kernel_rfl) (by exact fun _ _ _ h => h) (by rfl) ?rq6 hF ?sq6
      case rq6 => (intro W hW; clear hW; go_simp; try with_reducible rfl)
      try simp only [Act.put, List.setIfInBounds_toArray, List.set_cons_zero, List.set_cons_succ]
      refine rg_take (i := 7) (v := ?vq7) (by simp only [List.getElem?_toArray, List.getElem?_cons_succ, List.getElem?_cons_zero]; rfl) (by kernel_rfl) (by exact fun _ _ _ h => h) (by rfl) ?rq7 hF ?sq7
      case rq7 => (intro W9 hW; refine exec_load_mid W9 32 (.tmp 29) ?_ g2 (j * 12) ?_ C2 _ (HC2.out W9 hW) HUR.out ?_ HI2.out; exact rfl; go_simp; exact rfl)
      try simp only [Act.put, List.setIfInBounds_toArray, List.set_cons_zero, List.set_cons_succ]
      refine rg_one (i := 8) (oi := ?oq8) ?aq8 ?bq8 ?cq8 ?dq8
      case aq8 => (simp only [List.getElem?_toArray, List.getElem?_cons_succ, List.getElem?_cons_zero]; rfl)
      case bq8 => kernel_rfl
      case cq8 => rfl
      intro K hK
      (go_simp; refine (ps _ (Kp.refl No wr).drew).mono ?_; rintro e w6 ⟨rfl, k6⟩)
      refine rg_use hK (k6) (fun hF => ?_)
      clear hK K
      try simp only [Act.put, List.setIfInBounds_toArray, List.set_cons_zero, List.set_cons_succ]
      refine rg_take (i := 9) (v := ?vq9) (by simp only [List.getElem?_toArray, List.getElem?_cons_succ, List.getElem?_cons_zero]; rfl) (by kernel_rfl) (by exact fun _ _ _ h => h) (by rfl) ?rq9 hF ?sq9
      case rq9 => (intro W hW; clear hW; go_simp; try with_reducible rfl)
      try simp only [Act.put, List.setIfInBounds_toArray, List.set_cons_zero, List.set_cons_succ]
      refine rg_done (by kernel_rfl) ?_
      have HK6 := Lib.hid (HK.out.trans k6)
      clear hF ps k6
      go_wp2
      go_roundw
      case rel => exact ⟨j + 1, HLT.out, by go_num, HK6.out⟩
      case measure => have := HLT.out; simp [intOf]; omega
    · have hk1 : ¬ (j : Int) < (rl3.length : Int) := by omega
      have HKF := Lib.hid (HK4.out.trans HK.out)
      clear hlt
      go_wp2
      go_ret
      exact ⟨rfl, HKF.out⟩
end Go.Proofs.Ytifdceofglocdaa
