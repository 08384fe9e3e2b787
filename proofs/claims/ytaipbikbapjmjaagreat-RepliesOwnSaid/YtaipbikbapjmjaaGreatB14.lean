/- replies.Seen by contract. No condition beyond what each theorem states. -/
import Derived.Test.YtaipbikbapjmjaaGreatB13
import Derived.Test.YtaipbikbapjmjaaGreatB12
namespace Go.Proofs.YtaipbikbapjmjaaGreat
open Go Go.RowKit Go.PlainAid

theorem look_three (ps : List Pc) (m : Msg) : (lookP ps m).2 = 1 ∨ ((lookP ps m).2 = 2 ∨ (lookP ps m).2 = 3) ∧ nodeI m.from_ ∧ cntI m.seq := by
  unfold lookP
  by_cases ha : askedP m
  · rw [if_pos ha]
    obtain ⟨h1, h2, h3, h4, h5⟩ := may_ask ha.2 ha.1
    cases hT : turnS (ps.getD m.from_.toNat {}) m with
    | none => exact .inl rfl
    | some c =>
      simp only
      unfold verdP
      by_cases hc : m.seq < c.low ∨ 8 ≤ m.seq - c.low
      · rw [if_pos hc]; exact .inl rfl
      · rw [if_neg hc]
        right
        refine ⟨?_, h1, h3⟩
        split
        · exact .inl rfl
        · exact .inr rfl
  · rw [if_neg ha]; exact .inl rfl
/-- a place in memory -/
theorem RpB.slot {w : World} {b : Nat} {P : Nat → Prop} {ps : List Pc} (h : RpB w b P ps) {f j : Nat} (hf : f < 8) (hj : j < 8) : ∃ sv, w.rangeAt b (offS f j) (slC (((ps.getD f {}).slots.getD j {}), sv)) ∧ SvP w P (((ps.getD f {}).slots.getD j {}), sv) := by
  obtain ⟨cs, h1, h2, h3, h4, h5⟩ := h
  have hfl : f < cs.length := by omega
  have hjl : j < (cs[f]).2.2.length := by rw [h2 _ (List.getElem_mem hfl)]; exact hj
  have hpl : (rpC (cs.take f)).length = f * 138 := by
    rw [rpC_len _ fun x hx => h2 x (List.mem_of_mem_take hx), List.length_take]; omega
  have e : (ps.getD f {}).slots.getD j {} = ((cs[f]).2.2[j]).1 := by
    rw [h3, List.getD_eq_getElem?_getD, List.getD_eq_getElem?_getD, List.getElem?_map, List.getElem?_eq_getElem hfl]
    simp [pcV, hjl]
  rw [e]
  refine ⟨((cs[f]).2.2[j]).2, ?_, h5 _ (List.getElem_mem hfl) _ (List.getElem_mem hjl)⟩
  rw [rpC_split cs f hfl] at h4
  unfold cvC at h4
  rw [clC_split _ _ _ _ _ j hjl] at h4
  exact h4.mid (clC_pre _ _ _ _ j (f * 138) hjl hpl)
theorem RpB.lt {w : World} {b : Nat} {P : Nat → Prop} {ps : List Pc} (h : RpB w b P ps) : b < w.heap.size := by
  obtain ⟨cs, _, _, _, h4, _⟩ := h; exact h4.lt
theorem RpB.at_ {w : World} {b : Nat} {P : Nat → Prop} {ps : List Pc} (h : RpB w b P ps) : ∃ cs, Bk w b 69 cs := by
  obtain ⟨cs, _, _, _, h4, _⟩ := h; exact ⟨_, h4⟩
theorem RpB.len {w : World} {b : Nat} {P : Nat → Prop} {ps : List Pc} (h : RpB w b P ps) : ps.length = 8 := by
  obtain ⟨cs, h1, _, h3, _, _⟩ := h; rw [h3, List.length_map, h1]
def SeenR (W : World) (b : Nat) (P : Nat → Prop) (ps : List Pc) (m : Msg) (e : Ending) (w' : World) : Prop :=
  RpB w' b P (seenP ps m).1 ∧ Kp (One b) W w' ∧ ∃ sv, e = .returned (.tuple #[.int .i64 (seenP ps m).2.1, .agg (mcells (seenP ps m).2.2 sv).toArray]) ∧ w'.ownsRow W.heap.size 3 1 sv (seenP ps m).2.2.stamp.length (ints (seenP ps m).2.2.stamp)
theorem own_base {w : World} {B B' : Nat} {t : TypeId} {size n : Nat} {v : Value} {xs : List Value} (h : w.ownsRow B t size v n xs) (hb : B' ≤ B) : w.ownsRow B' t size v n xs := by
  refine ⟨h.1, ?_⟩
  rcases h.2 with h2 | ⟨g, cap, cur, e, hg, h3⟩
  · exact .inl h2
  · exact .inr ⟨g, cap, cur, e, Nat.le_trans hb hg, h3⟩
set_option maxRecDepth 100000 in
set_option maxHeartbeats 4000000 in
theorem rseen_nil (m : Msg) (sv : Value) (W : World) : Calls Tryz.prog 13 #[.pointer none, .agg (mcells m sv).toArray] W fun e w' => e = .returned (.tuple #[.int .i64 1, .agg (mcells {} (.slice none 0 0)).toArray]) ∧ Kp No W w' := by
  have kA : Kp No W ((W.alloc (.cells (mcells m sv).toArray 32)).alloc (.cells (mcells ({} : Msg) (.slice none 0 0)).toArray 32)) := ((Kp.refl No W).alloc _).alloc _
  have HR := Lib.hid (show Bk ((W.alloc (.cells (mcells m sv).toArray 32)).alloc (.cells (mcells ({} : Msg) (.slice none 0 0)).toArray 32)) (W.heap.size + 1) 32 (mcells ({} : Msg) (.slice none 0 0)) from Bk.new' (by simp) rfl)
  have pl := look_nil m sv ((W.alloc (.cells (mcells m sv).toArray 32)).alloc (.cells (mcells ({} : Msg) (.slice none 0 0)).toArray 32))
  have HK := Lib.hid kA
  clear kA
  obtain ⟨C, hC⟩ : ∃ C, C = mcells ({} : Msg) (.slice none 0 0) := ⟨_, rfl⟩
  have hCl : C.length = 16 := by rw [hC]; rfl
  have hC1 : C.toArray.all (·.oneCell') = true := by rw [hC]; simp [mcells, Value.oneCell']
  have HAZ : Hid ((.agg #[.int .i64 0, .int .i64 0, .int .i64 0, .int .i64 0, .int .i64 0, .int .i64 0, .int .i64 0, .string ⟨#[]⟩, .int .i64 0, .int .i64 0, .int .i64 0, .bool false, .int .i64 0, .slice none 0 0, .int .i64 0, .int .i64 0] : Value) = .agg C.toArray) := Lib.hid (by rw [hC]; rfl)
  have HCS := Lib.hid hC
  clear hC
  unfold mcells at pl HR HK ⊢
  go_enter Tryz.func13, Tryz.ntmps13
  go_upto_region 4 with (go_at_call 22; (with_reducible refine pl.mono ?_); rintro e w1 ⟨rfl, k1⟩)
  have HR1 := Lib.hid (show Bk w1 (W.heap.size + 1) 32 (mcells ({} : Msg) (.slice none 0 0)) from HR.out.no k1)
  have HFIN := Lib.hid (show Kp No W (w1.setCells (W.heap.size + 1) 0 C) from Kp.sets _ 0 (HK.out.trans k1) (.inr (by omega)))
  have HTH := Lib.hid (show w1.there (W.heap.size + 1) 0 C.toArray.size from HR1.out.there 0 _ (by rw [List.size_toArray, hCl]; simp [mcells]))
  have hi2 : Hid ((Tryz.prog.info? 32).map (·.size) = some C.toArray.size) := Lib.hid (by rw [List.size_toArray, hCl]; kernel_rfl)
  have h1c : Hid (C.toArray.all (·.oneCell') = true) := Lib.hid hC1
  have HBS := Lib.hid (show Bk (w1.setCells (W.heap.size + 1) 0 C) (W.heap.size + 1) 32 C from by
    have h := Bk.sets C 0 HR1.out (by rw [hCl]; simp [mcells])
    rw [List.take_zero, List.nil_append, List.drop_of_length_le (by rw [hCl]; simp [mcells]), List.append_nil] at h
    exact h)
  clear hCl hC1 HR1 k1 HR HK
  go_wp2_with (refine wpList_store_mid rfl _ _ _ rfl (W.heap.size + 1) 0 C.toArray rfl HAZ.out HTH.out hi2.out h1c.out ?_)
  have B9 := HBS.out
  have hfin := HFIN.out
  clear HBS HFIN
  generalize World.setCells _ (W.heap.size + 1) 0 C = w9 at *
  rw [HCS.out] at B9
  clear HTH h1c hi2 HCS
  have x0 := B9.cell 0
  have x1 := B9.cell 1
  have x2 := B9.cell 2
  have x3 := B9.cell 3
  have x4 := B9.cell 4
  have x5 := B9.cell 5
  have x6 := B9.cell 6
  have x7 := B9.cell 7
  have x8 := B9.cell 8
  have x9 := B9.cell 9
  have x10 := B9.cell 10
  have x11 := B9.cell 11
  have x12 := B9.cell 12
  have x13 := B9.cell 13
  have x14 := B9.cell 14
  have x15 := B9.cell 15
  simp only [mcells, List.getElem?_cons_zero, List.getElem?_cons_succ] at x0 x1 x2 x3 x4 x5 x6 x7 x8 x9 x10 x11 x12 x13 x14 x15
  clear B9
  refine bodyPost_ret (v := .tuple #[.int .i64 1, .agg (mcells ({} : Msg) (.slice none 0 0)).toArray]) (by simp [results, Tryz.results13, go_sem, x0, x1, x2, x3, x4, x5, x6, x7, x8, x9, x10, x11, x12, x13, x14, x15, mcells]) rfl ?_
  exact ⟨rfl, hfin⟩
set_option maxRecDepth 100000 in
set_option maxHeartbeats 8000000 in
theorem rseen_any (b : Nat) (P : Nat → Prop) (ps : List Pc) (m : Msg) (sv : Value) (W : World) (hr : RpB W b P ps) (hs : SlI W sv m.stamp) (hg : Rng m) (hsh : Short maxLen m) :
    Calls Tryz.prog 13 #[.pointer (some ⟨b, 0, none⟩), .agg (mcells m sv).toArray] W (SeenR W b P ps m) := by
  have hbl := hr.lt
  have kA : Kp No W ((W.alloc (.cells (mcells m sv).toArray 32)).alloc (.cells (mcells ({} : Msg) (.slice none 0 0)).toArray 32)) := ((Kp.refl No W).alloc _).alloc _
  have HR := Lib.hid (show Bk ((W.alloc (.cells (mcells m sv).toArray 32)).alloc (.cells (mcells ({} : Msg) (.slice none 0 0)).toArray 32)) (W.heap.size + 1) 32 (mcells ({} : Msg) (.slice none 0 0)) from Bk.new' (by simp) rfl)
  have pl := look_any b P ps m sv _ (hr.no kA) (hs.no kA) hg hsh
  have HK := Lib.hid kA
  have HV := Lib.hid (look_three ps m)
  have HX := Lib.hid (show seenP ps m = ((lookP ps m).1, (lookP ps m).2, if (lookP ps m).2 = 2 then (slotP (lookP ps m).1 m).msg else {}) from rfl)
  clear kA hr hs hg hsh
  unfold LookR at pl
  generalize hlk : lookP ps m = lk at *
  obtain ⟨ps', v⟩ := lk
  simp only at pl HV HX
  clear hlk
  have HPL := Lib.hid pl; clear pl
  have hd := HV.out
  rcases hd with rfl | ⟨rfl | rfl, hn, hc⟩
  · have pl := HPL.out
    rw [if_pos rfl] at pl
    clear HV HPL
    obtain ⟨C, hC⟩ : ∃ C, C = mcells ({} : Msg) (.slice none 0 0) := ⟨_, rfl⟩
    have hCl : C.length = 16 := by rw [hC]; rfl
    have hC1 : C.toArray.all (·.oneCell') = true := by rw [hC]; simp [mcells, Value.oneCell']
    have HAZ : Hid ((.agg #[.int .i64 0, .int .i64 0, .int .i64 0, .int .i64 0, .int .i64 0, .int .i64 0, .int .i64 0, .string ⟨#[]⟩, .int .i64 0, .int .i64 0, .int .i64 0, .bool false, .int .i64 0, .slice none 0 0, .int .i64 0, .int .i64 0] : Value) = .agg C.toArray) := Lib.hid (by rw [hC]; rfl)
    have HCS := Lib.hid hC
    have HFR := Lib.hid (fun w1 (hr1 : RpB w1 b P ps') (k1 : Kp (One b) ((W.alloc (.cells (mcells m sv).toArray 32)).alloc (.cells (mcells ({} : Msg) (.slice none 0 0)).toArray 32)) w1) => (show SeenR W b P ps m (.returned (.tuple #[.int .i64 1, .agg (mcells ({} : Msg) (.slice none 0 0)).toArray])) (w1.setCells (W.heap.size + 1) 0 C) from by
      unfold SeenR
      rw [HX.out]
      have ky : Kp (One (W.heap.size + 1)) w1 (w1.setCells (W.heap.size + 1) 0 C) := Kp.sets _ 0 (Kp.refl _ _) (.inl rfl)
      have hb1 : Bk w1 (W.heap.size + 1) 32 (mcells ({} : Msg) (.slice none 0 0)) := HR.out.kp k1 (fun e => by have e : W.heap.size + 1 = b := e; omega)
      refine ⟨hr1.kp ky (fun e => by have e : b = W.heap.size + 1 := e; omega) fun k cs hb _ e => ?_, Kp.sets _ 0 (HK.out.of_no.trans k1) (.inr (by omega)), .slice none 0 0, rfl, nil_own _ _ _ _⟩
      have e : k = W.heap.size + 1 := e
      subst e
      exact hb.ne_ hb1 (by decide) rfl))
    clear hC
    unfold mcells at pl HR HK HFR ⊢
    go_enter Tryz.func13, Tryz.ntmps13
    go_upto_region 4 with (go_at_call 22; (with_reducible refine pl.mono ?_); rintro e w1 ⟨hr1, k1, rfl⟩)
    have HR1 := Lib.hid (show Bk w1 (W.heap.size + 1) 32 (mcells ({} : Msg) (.slice none 0 0)) from HR.out.kp k1 (fun e => by have e : W.heap.size + 1 = b := e; omega))
    have HFIN := Lib.hid (HFR.out w1 hr1 k1)
    have HTH := Lib.hid (show w1.there (W.heap.size + 1) 0 C.toArray.size from HR1.out.there 0 _ (by rw [List.size_toArray, hCl]; simp [mcells]))
    have hi2 : Hid ((Tryz.prog.info? 32).map (·.size) = some C.toArray.size) := Lib.hid (by rw [List.size_toArray, hCl]; kernel_rfl)
    have h1c : Hid (C.toArray.all (·.oneCell') = true) := Lib.hid hC1
    have HBS := Lib.hid (show Bk (w1.setCells (W.heap.size + 1) 0 C) (W.heap.size + 1) 32 C from by
      have h := Bk.sets C 0 HR1.out (by rw [hCl]; simp [mcells])
      rw [List.take_zero, List.nil_append, List.drop_of_length_le (by rw [hCl]; simp [mcells]), List.append_nil] at h
      exact h)
    clear hCl hC1 HR1 HFR hr1 k1 HR HK
    go_wp2_with (refine wpList_store_mid rfl _ _ _ rfl (W.heap.size + 1) 0 C.toArray rfl HAZ.out HTH.out hi2.out h1c.out ?_)
    have B9 := HBS.out
    have hfin := HFIN.out
    clear HBS HFIN
    generalize World.setCells _ (W.heap.size + 1) 0 C = w9 at *
    rw [HCS.out] at B9
    clear HTH h1c hi2 HCS
    have x0 := B9.cell 0
    have x1 := B9.cell 1
    have x2 := B9.cell 2
    have x3 := B9.cell 3
    have x4 := B9.cell 4
    have x5 := B9.cell 5
    have x6 := B9.cell 6
    have x7 := B9.cell 7
    have x8 := B9.cell 8
    have x9 := B9.cell 9
    have x10 := B9.cell 10
    have x11 := B9.cell 11
    have x12 := B9.cell 12
    have x13 := B9.cell 13
    have x14 := B9.cell 14
    have x15 := B9.cell 15
    simp only [mcells, List.getElem?_cons_zero, List.getElem?_cons_succ] at x0 x1 x2 x3 x4 x5 x6 x7 x8 x9 x10 x11 x12 x13 x14 x15
    clear B9
    refine bodyPost_ret (v := .tuple #[.int .i64 1, .agg (mcells ({} : Msg) (.slice none 0 0)).toArray]) (by simp [results, Tryz.results13, go_sem, x0, x1, x2, x3, x4, x5, x6, x7, x8, x9, x10, x11, x12, x13, x14, x15, mcells]) rfl ?_
    exact hfin
  · obtain ⟨f, hf⟩ := Int.eq_ofNat_of_zero_le hn.1
    obtain ⟨j, hj⟩ : ∃ j : Nat, m.seq % 8 = j := ⟨(m.seq % 8).toNat, by unfold cntI at hc; omega⟩
    have hf8 : f < 8 := by have := hn.2; omega
    have hj8 : j < 8 := by omega
    have hoff : offS m.from_.toNat (m.seq % 8).toNat = offS f j := by rw [hf, hj]; rfl
    have hsl : slotP ps' m = (ps'.getD f {}).slots.getD j {} := by unfold slotP; rw [hf, hj]; rfl
    have HX2 := Lib.hid (show seenP ps m = (ps', 2, (slotP ps' m).msg) by rw [HX.out, if_pos rfl])
    have pl := HPL.out
    rw [if_neg (by decide), hoff] at pl
    have HSLOT := Lib.hid (fun w1 (h : RpB w1 b P ps') => (show ∃ sv, w1.rangeAt b (offS f j) (slC (slotP ps' m, sv)) ∧ SvP w1 P (slotP ps' m, sv) from by rw [hsl]; exact h.slot hf8 hj8))
    clear HV HPL HX hf hj hoff hsl hn hc hf8 hj8
    generalize slotP ps' m = s at *
    obtain ⟨o, ho⟩ : ∃ o, o = offS f j := ⟨_, rfl⟩
    rw [← ho] at pl HSLOT
    clear ho
    unfold mcells at pl HR HK ⊢
    go_enter Tryz.func13, Tryz.ntmps13
    go_upto_region 3 with (go_at_call 22; (with_reducible refine pl.mono ?_); rintro e w1 ⟨hr1, k1, rfl⟩)
    clear pl
    obtain ⟨sv0, hrg, ho', hP, hle⟩ := HSLOT.out w1 hr1
    have ho : w1.ownsRow 0 3 1 sv0 s.msg.stamp.length (ints s.msg.stamp) := ho'
    have hle : s.msg.stamp.length ≤ 4 := hle
    clear ho'
    obtain ⟨A0, c0, rfl, _⟩ := own_len ho
    have HKW := Lib.hid k1
    have hb1 := HR.out.kp k1 (fun e => by have e : W.heap.size + 1 = b := e; omega)
    have pt := twin_any s.msg A0 c0 w1 (own_argI ho) (by omega)
    have HRG := Lib.hid (show w1.rangeAt b (o + 1) (mcells s.msg (.slice A0 s.msg.stamp.length c0)) from fun j v hv => by
      have := hrg (j + 1) v (by unfold slC; rw [List.getElem?_cons_succ]; exact hv)
      rw [show o + (j + 1) = o + 1 + j by omega] at this; exact this)
    have hi1 : Hid ((Tryz.prog.info? 32).map (·.size) = some (mcells s.msg (.slice A0 s.msg.stamp.length c0)).length) := Lib.hid (by kernel_rfl)
    have HUH := Lib.hid (Tryz.underlying32)
    have HR1' := Lib.hid hr1; have HB1 := Lib.hid hb1
    clear hrg ho hP hle hb1 HSLOT k1 hr1
    generalize hD : mcells s.msg (.slice A0 s.msg.stamp.length c0) = D at *
    clear hD
    unfold TwinR at pt
    go_wp2_with (refine wpList_load_mid rfl _ _ rfl b (o + 1) rfl D _ HRG.out HUH.out rfl hi1.out ?_)
    refine pt.mono ?_
    rintro e w2 ⟨sv2, rfl, ho2, k2⟩
    obtain ⟨C, hC⟩ : ∃ C, C = mcells s.msg sv2 := ⟨_, rfl⟩
    rw [← hC]
    clear pt
    have hCl : C.length = 16 := by rw [hC]; rfl
    have hC1 : C.toArray.all (·.oneCell') = true := by
      obtain ⟨A2, c2, rfl, _⟩ := own_len ho2
      rw [hC]; simp [mcells, Value.oneCell']
    have HCS := Lib.hid hC
    have HR1 := Lib.hid (show Bk w2 (W.heap.size + 1) 32 (mcells ({} : Msg) (.slice none 0 0)) from HB1.out.no k2)
    have HFIN := Lib.hid (show SeenR W b P ps m (.returned (.tuple #[.int .i64 2, .agg C.toArray])) (w2.setCells (W.heap.size + 1) 0 C) from by
      unfold SeenR
      rw [HX2.out]
      have ky : Kp (One (W.heap.size + 1)) w2 (w2.setCells (W.heap.size + 1) 0 C) := Kp.sets _ 0 (Kp.refl _ _) (.inl rfl)
      have hsz : W.heap.size ≤ w1.heap.size := Nat.le_trans HK.out.size HKW.out.size
      refine ⟨(HR1'.out.no k2).kp ky (fun e => by have e : b = W.heap.size + 1 := e; omega) fun k cs hb _ e => ?_, Kp.sets _ 0 ((HK.out.of_no.trans HKW.out).trans k2.of_no) (.inr (by omega)), sv2, by rw [hC], ?_⟩
      · have e : k = W.heap.size + 1 := e
        subst e
        exact hb.ne_ HR1.out (by decide) rfl
      · exact own_base (own_kp ho2 ky fun g e h => own_ne ho2 HR1.out (by decide) (by rw [e, show g = W.heap.size + 1 from h])) hsz)
    clear hC
    have HTH := Lib.hid (show w2.there (W.heap.size + 1) 0 C.toArray.size from HR1.out.there 0 _ (by rw [List.size_toArray, hCl]; simp [mcells]))
    have hi2 : Hid ((Tryz.prog.info? 32).map (·.size) = some C.toArray.size) := Lib.hid (by rw [List.size_toArray, hCl]; kernel_rfl)
    have h1c : Hid (C.toArray.all (·.oneCell') = true) := Lib.hid hC1
    have HBS := Lib.hid (show Bk (w2.setCells (W.heap.size + 1) 0 C) (W.heap.size + 1) 32 C from by
      have h := Bk.sets C 0 HR1.out (by rw [hCl]; simp [mcells])
      rw [List.take_zero, List.nil_append, List.drop_of_length_le (by rw [hCl]; simp [mcells]), List.append_nil] at h
      exact h)
    clear hCl hC1 HR1 ho2 k2 HB1 HR1' HKW HRG hi1 HUH HR HK
    go_wp2_with (refine wpList_store_mid rfl _ _ _ rfl (W.heap.size + 1) 0 C.toArray rfl rfl HTH.out hi2.out h1c.out ?_)
    have B9 := HBS.out
    have hfin := HFIN.out
    clear HBS HFIN
    generalize World.setCells _ (W.heap.size + 1) 0 C = w9 at *
    rw [HCS.out] at B9 hfin
    clear HTH h1c hi2 HCS
    have x0 := B9.cell 0
    have x1 := B9.cell 1
    have x2 := B9.cell 2
    have x3 := B9.cell 3
    have x4 := B9.cell 4
    have x5 := B9.cell 5
    have x6 := B9.cell 6
    have x7 := B9.cell 7
    have x8 := B9.cell 8
    have x9 := B9.cell 9
    have x10 := B9.cell 10
    have x11 := B9.cell 11
    have x12 := B9.cell 12
    have x13 := B9.cell 13
    have x14 := B9.cell 14
    have x15 := B9.cell 15
    simp only [mcells, List.getElem?_cons_zero, List.getElem?_cons_succ] at x0 x1 x2 x3 x4 x5 x6 x7 x8 x9 x10 x11 x12 x13 x14 x15
    clear B9
    refine bodyPost_ret (v := .tuple #[.int .i64 2, .agg (mcells s.msg sv2).toArray]) (by simp [results, Tryz.results13, go_sem, x0, x1, x2, x3, x4, x5, x6, x7, x8, x9, x10, x11, x12, x13, x14, x15, mcells]) rfl ?_
    exact hfin
  · have pl := HPL.out
    rw [if_neg (by decide)] at pl
    clear HV HPL hn hc
    generalize offS m.from_.toNat (m.seq % 8).toNat = o at *
    obtain ⟨C, hC⟩ : ∃ C, C = mcells ({} : Msg) (.slice none 0 0) := ⟨_, rfl⟩
    have hCl : C.length = 16 := by rw [hC]; rfl
    have hC1 : C.toArray.all (·.oneCell') = true := by rw [hC]; simp [mcells, Value.oneCell']
    have HAZ : Hid ((.agg #[.int .i64 0, .int .i64 0, .int .i64 0, .int .i64 0, .int .i64 0, .int .i64 0, .int .i64 0, .string ⟨#[]⟩, .int .i64 0, .int .i64 0, .int .i64 0, .bool false, .int .i64 0, .slice none 0 0, .int .i64 0, .int .i64 0] : Value) = .agg C.toArray) := Lib.hid (by rw [hC]; rfl)
    have HCS := Lib.hid hC
    have HFR := Lib.hid (fun w1 (hr1 : RpB w1 b P ps') (k1 : Kp (One b) ((W.alloc (.cells (mcells m sv).toArray 32)).alloc (.cells (mcells ({} : Msg) (.slice none 0 0)).toArray 32)) w1) => (show SeenR W b P ps m (.returned (.tuple #[.int .i64 3, .agg (mcells ({} : Msg) (.slice none 0 0)).toArray])) (w1.setCells (W.heap.size + 1) 0 C) from by
      unfold SeenR
      rw [HX.out]
      have ky : Kp (One (W.heap.size + 1)) w1 (w1.setCells (W.heap.size + 1) 0 C) := Kp.sets _ 0 (Kp.refl _ _) (.inl rfl)
      have hb1 : Bk w1 (W.heap.size + 1) 32 (mcells ({} : Msg) (.slice none 0 0)) := HR.out.kp k1 (fun e => by have e : W.heap.size + 1 = b := e; omega)
      refine ⟨hr1.kp ky (fun e => by have e : b = W.heap.size + 1 := e; omega) fun k cs hb _ e => ?_, Kp.sets _ 0 (HK.out.of_no.trans k1) (.inr (by omega)), .slice none 0 0, rfl, nil_own _ _ _ _⟩
      have e : k = W.heap.size + 1 := e
      subst e
      exact hb.ne_ hb1 (by decide) rfl))
    clear hC
    unfold mcells at pl HR HK HFR ⊢
    go_enter Tryz.func13, Tryz.ntmps13
    go_upto_region 4 with (go_at_call 22; (with_reducible refine pl.mono ?_); rintro e w1 ⟨hr1, k1, rfl⟩)
    have HR1 := Lib.hid (show Bk w1 (W.heap.size + 1) 32 (mcells ({} : Msg) (.slice none 0 0)) from HR.out.kp k1 (fun e => by have e : W.heap.size + 1 = b := e; omega))
    have HFIN := Lib.hid (HFR.out w1 hr1 k1)
    have HTH := Lib.hid (show w1.there (W.heap.size + 1) 0 C.toArray.size from HR1.out.there 0 _ (by rw [List.size_toArray, hCl]; simp [mcells]))
    have hi2 : Hid ((Tryz.prog.info? 32).map (·.size) = some C.toArray.size) := Lib.hid (by rw [List.size_toArray, hCl]; kernel_rfl)
    have h1c : Hid (C.toArray.all (·.oneCell') = true) := Lib.hid hC1
    have HBS := Lib.hid (show Bk (w1.setCells (W.heap.size + 1) 0 C) (W.heap.size + 1) 32 C from by
      have h := Bk.sets C 0 HR1.out (by rw [hCl]; simp [mcells])
      rw [List.take_zero, List.nil_append, List.drop_of_length_le (by rw [hCl]; simp [mcells]), List.append_nil] at h
      exact h)
    clear hCl hC1 HR1 HFR hr1 k1 HR HK
    go_wp2_with (refine wpList_store_mid rfl _ _ _ rfl (W.heap.size + 1) 0 C.toArray rfl HAZ.out HTH.out hi2.out h1c.out ?_)
    have B9 := HBS.out
    have hfin := HFIN.out
    clear HBS HFIN
    generalize World.setCells _ (W.heap.size + 1) 0 C = w9 at *
    rw [HCS.out] at B9
    clear HTH h1c hi2 HCS
    have x0 := B9.cell 0
    have x1 := B9.cell 1
    have x2 := B9.cell 2
    have x3 := B9.cell 3
    have x4 := B9.cell 4
    have x5 := B9.cell 5
    have x6 := B9.cell 6
    have x7 := B9.cell 7
    have x8 := B9.cell 8
    have x9 := B9.cell 9
    have x10 := B9.cell 10
    have x11 := B9.cell 11
    have x12 := B9.cell 12
    have x13 := B9.cell 13
    have x14 := B9.cell 14
    have x15 := B9.cell 15
    simp only [mcells, List.getElem?_cons_zero, List.getElem?_cons_succ] at x0 x1 x2 x3 x4 x5 x6 x7 x8 x9 x10 x11 x12 x13 x14 x15
    clear B9
    refine bodyPost_ret (v := .tuple #[.int .i64 3, .agg (mcells ({} : Msg) (.slice none 0 0)).toArray]) (by simp [results, Tryz.results13, go_sem, x0, x1, x2, x3, x4, x5, x6, x7, x8, x9, x10, x11, x12, x13, x14, x15, mcells]) rfl ?_
    exact hfin
end Go.Proofs.YtaipbikbapjmjaaGreat
