/- Several texts of this claim in one. No condition beyond what each theorem states. -/
import Derived.Test.YtifdceofglocdaaB10
import Derived.Test.YtifdceofglocdaaB13
import Derived.Test.YtifdceofglocdaaB11
import Derived.Deep.DeepMust
import Derived.Deep.Cut
import Derived.Deep.DeepCutAuto
import Derived.Test.YtifdceofglocdaaB16
/- The fewest records that make a book: book.Dump by contract. No condition beyond what each theorem states. -/
namespace Go.Proofs.Ytifdceofglocdaa
open Go Go.RowKit Go.PlainAid

/-- a record with the values of its two stamps -/
abbrev RP := Rcd × Value × Value
def rP (p : RP) : List Value := rC p.1 p.2.1 p.2.2
def rL (l : List RP) : List Value := (l.map rP).flatten
theorem rL_len : ∀ l : List RP, (rL l).length = 12 * l.length
  | [] => rfl
  | x :: l => by
    have h := rL_len l
    unfold rL at h ⊢
    rw [List.map_cons, List.flatten_cons, List.length_append, h, List.length_cons]
    show 12 + _ = _; omega
theorem rL_snoc (l : List RP) (x : RP) : rL (l ++ [x]) = rL l ++ rP x := by simp [rL]
theorem rL_append (l m : List RP) : rL (l ++ m) = rL l ++ rL m := by simp [rL]
/-- a list of records of the call's own -/
def OwnRs (w : World) (B : Nat) (v : Value) (l : List RP) : Prop :=
  w.ownsRow B 32 12 v l.length (rL l) ∧ ∀ p ∈ l, w.ownsRow B 3 1 p.2.1 p.1.grant.stamp.length (ints p.1.grant.stamp) ∧ w.ownsRow B 3 1 p.2.2 p.1.stamp.length (ints p.1.stamp)
theorem OwnRs.no {w w' : World} {B : Nat} {v : Value} {l : List RP} (h : OwnRs w B v l) (hk : Kp No w w') : OwnRs w' B v l := ⟨own_kp h.1 hk fun _ _ m => m, fun p hp => ⟨own_kp (h.2 p hp).1 hk fun _ _ m => m, own_kp (h.2 p hp).2 hk fun _ _ m => m⟩⟩
theorem OwnRs.mono {w : World} {B B' : Nat} {v : Value} {l : List RP} (h : OwnRs w B v l) (hb : B' ≤ B) : OwnRs w B' v l := ⟨own_mono h.1 hb, fun p hp => ⟨own_mono (h.2 p hp).1 hb, own_mono (h.2 p hp).2 hb⟩⟩
theorem OwnRs.nil (w : World) (B : Nat) : OwnRs w B (.slice none 0 0) [] := ⟨nil_own _ _ _ _, fun p hp => by cases hp⟩
theorem Try.infoRc : (Try.prog.info? 32).map (fun i => (i.zero, i.size, i.bytes)) = some (some (.agg #[.int .i64 0, .int .i64 0, .int .i64 0, .string ⟨#[]⟩, .int .i64 0, .slice none 0 0, .int .i64 0, .int .i64 0, .slice none 0 0, .int .i64 0, .int .i64 0, .int .i64 0]), 12, 136) := by kernel_rfl
theorem own_bk1 {w : World} {g : Nat} {t : TypeId} {cs : List Value} {base size : Nat} (h : Bk w g t cs) (hb : base ≤ g) (hn : cs.length = size) : w.ownsRow base t size (.slice (some ⟨g, 0, none⟩) 1 1) 1 cs :=
  ⟨by omega, .inr ⟨g, 1, cs.toArray, rfl, hb, h, Nat.le_refl _, by unfold maxLen; omega, by simp [hn], by rw [Nat.one_mul]; exact List.take_of_length_le (by simp [hn])⟩⟩
/-- one record more -/
theorem OwnRs.snoc {w w1 w2 : World} {B : Nat} {v v2 : Value} {l : List RP} {p : RP} (h : OwnRs w B v l) (hk : Kp No w w1) (hk2 : Kp (fun k => v.ownBlock = some k) w1 w2) (hr : w2.ownsRow B 32 12 v2 (l.length + 1) (rL l ++ rP p))
    (hp : w1.ownsRow B 3 1 p.2.1 p.1.grant.stamp.length (ints p.1.grant.stamp)) (hp2 : w1.ownsRow B 3 1 p.2.2 p.1.stamp.length (ints p.1.stamp)) : OwnRs w2 B v2 (l ++ [p]) := by
  have h1 := h.no hk
  refine ⟨by rw [List.length_append, List.length_singleton, rL_snoc]; exact hr, fun q hq => ?_⟩
  rw [List.mem_append, List.mem_singleton] at hq
  rcases hq with hq | rfl
  · have a := (h1.2 q hq).1; have b := (h1.2 q hq).2
    exact ⟨own_kp a hk2 (own_apart a h1.1 (by decide)), own_kp b hk2 (own_apart b h1.1 (by decide))⟩
  · exact ⟨own_kp hp hk2 (own_apart hp h1.1 (by decide)), own_kp hp2 hk2 (own_apart hp2 h1.1 (by decide))⟩
/-- the records of a book ahead of its grants' -/
def headR (b : Bok) : List Rcd := { kind := 1, next := b.next, boots := b.boots } :: (if b.longest = 0 then [] else [{ kind := 2, longest := b.longest }])
theorem dump_head {b : Bok} (h : validB b) : dumpB b = headR b ++ b.grants.map fun g => ({ kind := 3, grant := g } : Rcd) := by
  unfold dumpB headR
  rw [if_pos h]
  rfl
/-- what Dump answers -/
def DumpR (b : Bok) (W : World) (e : Ending) (w' : World) : Prop := ∃ sv rl, e = .returned sv ∧ rl.map (·.1) = dumpB b ∧ OwnRs w' W.heap.size sv rl ∧ Kp No W w'

set_option maxRecDepth 100000 in
set_option maxHeartbeats 8000000 in
theorem dump_any (n k t : Int) (v : Value) (l : List GP) (W : World) (hv : ArgG W v l) (hl : ShL maxLen l) :
    Calls Try.prog 28 #[.agg #[.int .i64 n, .int .i64 k, .int .i64 t, v]] W (DumpR (bk n k t l) W) := by
  obtain ⟨A0, c0, rfl, _⟩ := hv.len
  obtain ⟨Q, hQ⟩ : ∃ Q : Ending → World → Prop, Q = DumpR (bk n k t l) W := ⟨_, rfl⟩
  rw [← hQ]
  have HQ := Lib.hid hQ; clear hQ
  obtain ⟨w1, hw1⟩ : ∃ w1, w1 = W.alloc (.cells #[.int .i64 n, .int .i64 k, .int .i64 t, .slice A0 l.length c0] 25) := ⟨_, rfl⟩
  have HK1 := Lib.hid (show Kp No W w1 by rw [hw1]; exact (Kp.refl No W).alloc _)
  have HB1 := Lib.hid (show Bk w1 W.heap.size 25 [.int .i64 n, .int .i64 k, .int .i64 t, .slice A0 l.length c0] by rw [hw1]; exact Bk.new' rfl rfl)
  have pv := fun W2 (kk : Kp No w1 W2) => (bvalid_any n k t (.slice A0 l.length c0) l W2 (hv.no (HK1.out.trans kk)) hl).mono fun e w' ⟨h1, h3⟩ => (⟨h1, kk.trans h3⟩ : e = Ending.returned (.bool (decide (validB (bk n k t l)))) ∧ Kp No w1 w')
  have HV := Lib.hid hv; have HW := Lib.hid hw1
  clear hv hl hw1
  have y0 : w1.cell? ⟨W.heap.size, 0, none⟩ = some (.int .i64 n) := HB1.out.cell 0; have y1 : w1.cell? ⟨W.heap.size, 1, none⟩ = some (.int .i64 k) := HB1.out.cell 1; have y2 : w1.cell? ⟨W.heap.size, 2, none⟩ = some (.int .i64 t) := HB1.out.cell 2; have y3 : w1.cell? ⟨W.heap.size, 3, none⟩ = some (.slice A0 l.length c0) := HB1.out.cell 3
  go_enter Try.func28, Try.ntmps28
  go_upto_region 1 with (fail)
  rw [← HW.out]
  clear HW
  go_wp2_with fail
  refine (pv _ (Kp.refl _ _)).mono ?_
  rintro e w2 ⟨rfl, k2⟩
  have HK2 := Lib.hid (HK1.out.trans k2); have HB2 := Lib.hid (HB1.out.no k2)
  clear k2 pv y0 y1 y2 y3
  by_cases hval : validB (bk n k t l)
  case neg =>
    have HF := Lib.hid (show Q (.returned (.slice none 0 0)) w2 by
      rw [HQ.out]
      exact ⟨_, [], rfl, by unfold dumpB; rw [if_neg hval]; rfl, OwnRs.nil _ _, HK2.out⟩)
    rw [decide_eq_false hval]
    clear hval
    go_wp2
    exact HF.out
  have HVAL := Lib.hid hval
  have ht0 : 0 ≤ t := by
    have h := ((valid_bk n k t l).1 hval).2.1
    unfold termI at h; omega
  have hlen : l.length ≤ 6 := ((valid_bk n k t l).1 hval).2.2.1
  have HST := Lib.hid (show ∀ p ∈ l, p.1.stamp ≠ [] ∧ p.1.stamp.length ≤ 4 from fun p hp => by
    have := mayG_sh (((valid_bk n k t l).1 hval).2.2.2.1 p.1 (List.mem_map.2 ⟨p, hp, rfl⟩)).1
    exact ⟨this.2.2, this.2.1⟩)
  rw [decide_eq_true hval]
  clear hval
  have y0 : w2.cell? ⟨W.heap.size, 0, none⟩ = some (.int .i64 n) := HB2.out.cell 0; have y1 : w2.cell? ⟨W.heap.size, 1, none⟩ = some (.int .i64 k) := HB2.out.cell 1; have y2 : w2.cell? ⟨W.heap.size, 2, none⟩ = some (.int .i64 t) := HB2.out.cell 2
  obtain ⟨w3, hw3⟩ : ∃ w3, w3 = w2.alloc (.cells #[.int .i64 1, .int .i64 0, .int .i64 0, .string ⟨#[]⟩, .int .i64 0, .slice none 0 0, .int .i64 0, .int .i64 0, .slice none 0 0, .int .i64 n, .int .i64 k, .int .i64 0] 32) := ⟨_, rfl⟩
  have HR3 := Lib.hid (show OwnRs w3 w2.heap.size (.slice (some ⟨w2.heap.size, 0, none⟩) 1 1) [(({ kind := 1, next := n, boots := k } : Rcd), (.slice none 0 0, .slice none 0 0))] from
    ⟨own_bk1 (by rw [hw3]; exact Bk.new' rfl rfl) (Nat.le_refl _) rfl, fun p hp => by rw [List.mem_singleton] at hp; subst hp; exact ⟨nil_own _ _ _ _, nil_own _ _ _ _⟩⟩)
  have HK3 := Lib.hid (show Kp No w2 w3 by rw [hw3]; exact (Kp.refl No w2).alloc _)
  have HB3 := Lib.hid (HB2.out.no HK3.out)
  have HW3 := Lib.hid hw3
  clear hw3
  go_upto_region 4 with (fail)
  rw [← HW3.out]
  clear HW3 y0 y1 y2
  have y2 : w3.cell? ⟨W.heap.size, 2, none⟩ = some (.int .i64 t) := HB3.out.cell 2
  go_upto_if 17 with (fail)
  go_cut [3] (fun s wx => ∃ rl : List RP, rl.map (·.1) = headR (bk n k t l) ∧ OwnRs wx w2.heap.size s rl ∧ Kp No w2 wx)
  case first =>
    by_cases ht : 0 < t
    · have HH := Lib.hid (show headR (bk n k t l) = [{ kind := 1, next := n, boots := k }, { kind := 2, longest := t }] by
        unfold headR; rw [if_neg (by show ¬ t = 0; omega)]; rfl)
      have HRA := Lib.hid (show (w3.alloc (.cells #[.int .i64 2, .int .i64 0, .int .i64 0, .string ⟨#[]⟩, .int .i64 0, .slice none 0 0, .int .i64 0, .int .i64 0, .slice none 0 0, .int .i64 0, .int .i64 0, .int .i64 t] 32)).ownsRow w2.heap.size 32 12 (.slice (some ⟨w2.heap.size, 0, none⟩) 1 1) 1 (rL [(({ kind := 1, next := n, boots := k } : Rcd), (.slice none 0 0, .slice none 0 0))]) from (HR3.out.no ((Kp.refl No w3).alloc _)).1)
      have hsz : w2.heap.size ≤ w3.heap.size := HK3.out.size
      go_wp2_with (at_builtin; go_must (refine wpList_app1 _ rfl _ _ 43 rfl w2.heap.size 32 _ 12 136 Try.underlying43 Try.infoRc rfl (by omega) _ 1 _ rfl HRA.out _ _ _ rfl (Bk.new' rfl rfl : Bk _ _ _ [.int .i64 2, .int .i64 0, .int .i64 0, .string ⟨#[]⟩, .int .i64 0, .slice none 0 0, .int .i64 0, .int .i64 0, .slice none 0 0, .int .i64 0, .int .i64 0, .int .i64 t]) rfl (by simp [Value.oneCell']) (by omega) (by omega) (by simp; omega) ?_); intro g5 cap5 w5 hown5 hk5 hat5)
      go_meet
      refine ⟨_, ?_, HR3.out.snoc (p := (({ kind := 2, longest := t } : Rcd), (.slice none 0 0, .slice none 0 0))) ((Kp.refl No w3).alloc _) hk5 hown5 (nil_own _ _ _ _) (nil_own _ _ _ _), (HK3.out.trans ((Kp.refl No w3).alloc _)).then_ hk5 fun j hj e => ?_⟩
      · rw [HH.out]; rfl
      · have := ((HR3.out.1).lt j e).1; omega
    · have HH := Lib.hid (show headR (bk n k t l) = [{ kind := 1, next := n, boots := k }] by
        unfold headR; rw [if_pos (by show t = 0; omega)]; rfl)
      obtain rfl : t = 0 := by omega
      clear ht
      go_wp2
      go_meet
      exact ⟨_, by rw [HH.out]; rfl, HR3.out, HK3.out⟩
  case rest =>
    obtain ⟨rl, hrl, hor, hkr⟩ := hcut
    have HRL := Lib.hid hrl; have HOR := Lib.hid hor; have HKR := Lib.hid hkr
    have y3 : wc.cell? ⟨W.heap.size, 3, none⟩ = some (.slice A0 l.length c0) := (HB2.out.no hkr).cell 3
    clear hrl hor hkr y2 HR3
    go_wp2
    clear y3
    go_loopw [27, 3] (fun i o wr => ∃ (j : Nat) (ml : List RP), j ≤ l.length ∧ i = .int .i64 j ∧ ml.map (·.1) = headR (bk n k t l) ++ (gsL (l.take j)).map (fun g => ({ kind := 3, grant := g } : Rcd)) ∧ OwnRs wr w2.heap.size o ml ∧ Kp No w2 wr) (fun i _ _ => l.length - (intOf i).toNat)
    case atStart => exact ⟨0, rl, Nat.zero_le _, rfl, by rw [HRL.out]; simp [gsL], HOR.out, HKR.out⟩
    case round =>
      obtain ⟨j, ml, hj, rfl, hm, hO, hK⟩ := hrel
      have HM := Lib.hid hm; have HO := Lib.hid hO; have HK := Lib.hid hK
      clear hm hO hK
      by_cases hlt : j < l.length
      · have hk0 : (0 : Int) ≤ (j : Int) := by omega
        have hk1 : (j : Int) < (l.length : Int) := by omega
        have kW : Kp No W wr := HK2.out.trans HK.out
        obtain ⟨g, o, gid, hol, path, mode, st, term, B, d, rfl, el, ha, hml, x0, x1, x2, x3, x4, x5⟩ := (HV.out.no kW).cells hlt
        have hst := HST.out _ hml
        have HS1 := Lib.hid (gsL_snoc hlt)
        rw [el] at HS1 hst
        have hst1 : st ≠ [] := hst.1
        have hst2 : st.length ≤ 4 := hst.2
        obtain ⟨g2, o2, c2, eB, _⟩ := ha.at_ (List.length_pos_iff.2 hst1)
        injection eB with eB _ ec
        subst eB ec
        have HMJ := Lib.hid (show ml.length ≤ 2 + j by
          have := congrArg List.length HM.out
          rw [List.length_map, List.length_append, List.length_map, gsL_len, List.length_take] at this
          unfold headR at this
          split at this <;> simp at this <;> omega)
        have HA := Lib.hid ha
        have pt := fun W2 (kk : Kp No wr W2) => twin_any (⟨gid, hol, path, mode, st, term⟩, .slice (some ⟨g2, o2, none⟩) st.length d) W2 g2 o2 d rfl (HA.out.no kk) (show st.length ≤ _ by omega)
        simp only [pC] at pt
        have kA : Kp No wr (wr.alloc (.cells #[.int .i64 gid, .int .i64 hol, .string ⟨path.toArray⟩, .int .i64 mode, .slice (some ⟨g2, o2, none⟩) st.length d, .int .i64 term] 30)) := (Kp.refl No wr).alloc _
        clear hlt ha hml el hst hst1
        go_wp2_with fail
        refine (pt _ kA).mono ?_
        rintro e w4 ⟨sv, rfl, o4, k4⟩
        obtain ⟨A4, c4, rfl, _⟩ := own_len o4
        have HK4 := Lib.hid (kA.trans k4)
        have HO4 := Lib.hid (show w4.ownsRow w2.heap.size 3 1 (.slice A4 st.length c4) st.length (ints st) from own_mono o4 (Nat.le_trans HK.out.size kA.size))
        clear pt kA k4 o4 x0 x1 x2 x3 x4 x5
        have hsz : w2.heap.size ≤ w4.heap.size := Nat.le_trans HK.out.size HK4.out.size
        have HR := Lib.hid ((HO.out.no HK4.out).1)
        have hml := HMJ.out
        go_wp2_with (at_builtin; go_must (refine wpList_app1 _ rfl _ _ 43 rfl w2.heap.size 32 _ 12 136 Try.underlying43 Try.infoRc rfl (by omega) _ ml.length (rL ml) rfl (HR.out.alloc _) _ _ _ rfl (Bk.new' (by simp) rfl : Bk _ _ _ (rP (({ kind := 3, grant := ⟨gid, hol, path, mode, st, term⟩ } : Rcd), (.slice A4 st.length c4, .slice none 0 0)))) rfl (by simp [rP, rC, Value.oneCell']) (by omega) (by omega) (by simp; omega) ?_); intro g5 cap5 w5 hown5 hk5 hat5)
        have HO5 := Lib.hid hown5; have HK5 := Lib.hid hk5
        clear hown5 hk5 hat5
        go_roundw
        case rel =>
          have ha5 : Kp No w4 (w4.alloc (.cells (rP (({ kind := 3, grant := ⟨gid, hol, path, mode, st, term⟩ } : Rcd), (.slice A4 st.length c4, .slice none 0 0))).toArray 32)) := (Kp.refl No w4).alloc _
          have o4 := own_kp HO4.out ha5 fun _ _ q => q
          refine ⟨j + 1, _, by have := hk1; omega, by go_num, ?_, HO.out.snoc (HK4.out.trans ha5) HK5.out HO5.out o4 (nil_own _ _ _ _), ((HK.out.trans HK4.out).trans ha5).then_ HK5.out fun i hi e => by have := (HO.out.1.lt i e).1; omega⟩
          rw [List.map_append, HM.out, HS1.out, List.map_append, List.append_assoc]
          rfl
        case measure => simp [intOf]; omega
      · have hk1 : ¬ (j : Int) < (l.length : Int) := by omega
        have hjl : j = l.length := by omega
        have HF := Lib.hid (show Q (.returned u3) wr by
          rw [HQ.out]
          refine ⟨_, ml, rfl, ?_, HO.out.mono HK2.out.size, HK2.out.trans HK.out⟩
          rw [HM.out, hjl, List.take_length, dump_head HVAL.out]
          rfl)
        clear hlt hjl
        go_wp2
        exact HF.out
end Go.Proofs.Ytifdceofglocdaa

/- Two operations of a drawn region that may come in either order. No condition beyond what each theorem states. -/
namespace Go.Proofs.Ytifdceofglocdaa
open Go.RowKit
section
variable {P : Program} {ops : Array Oper} {Q : Exit → Act → World → Prop} {md : Region.Mode} {F : World → Prop} {d : Nat}
theorem rg_two {i j : Nat} {oi oj : Oper} {fuel : Nat} {listed : Array Bool} {a : Act} {w : World} (hi : ops[i]? = some oi) (hj : ops[j]? = some oj) (hr : (Region.ready md ops listed == [i, j]) = true) (hyi : Region.wanted oi (yielded ops a.tmps) = true) (hyj : Region.wanted oj (yielded ops a.tmps) = true)
    (h1 : ∀ K : Act → World → Prop, (∀ a w, (i ≠ d → F w) → wpAnyD P md ops Q F d fuel (listed.setIfInBounds i true) a w → K a w) → Oper.wp P oi a w K Q)
    (h2 : ∀ K : Act → World → Prop, (∀ a w, (j ≠ d → F w) → wpAnyD P md ops Q F d fuel (listed.setIfInBounds j true) a w → K a w) → Oper.wp P oj a w K Q) : wpAnyD P md ops Q F d (fuel + 1) listed a w := by
  have hr' : Region.ready md ops listed = [i, j] := by simpa using hr
  refine ⟨fun h0 => (by rw [hr'] at h0; cases h0), fun k hk => ?_⟩
  rw [hr'] at hk
  unfold wpOp
  rcases List.mem_cons.1 hk with rfl | hk
  · simp only [hi, hyi, if_true]
    exact .inl (h1 _ fun a w h1 h2 => ⟨h1, h2⟩)
  · obtain rfl : k = j := by simpa using hk
    simp only [hj, hyj, if_true]
    exact .inl (h2 _ fun a w h1 h2 => ⟨h1, h2⟩)
end
end Go.Proofs.Ytifdceofglocdaa
