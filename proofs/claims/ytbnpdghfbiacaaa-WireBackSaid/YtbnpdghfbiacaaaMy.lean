/- wire.Same by contract. No condition beyond what each theorem states. -/
import Derived.Test.YtbnpdghfbiacaaaMx
import Derived.Test.YtbnpdghfbiacaaaMe
namespace Go.Proofs.Ytbnpdghfbiacaaa
open Go Go.RowKit Go.PlainAid

set_option maxRecDepth 100000 in
set_option maxHeartbeats 2000000 in
theorem eqI_any (v u : Value) (L M : List Int) (w : World) (hv : ArgInts w v L) (hu : ArgInts w u M) (hl : L.length ≤ maxLen) (hm : M.length ≤ maxLen) :
    Calls Try.prog 23 #[v, u] w fun e w' => e = .returned (.bool (decide (L = M))) ∧ Kp No w w' := by
  have HV := Lib.hid hv; have HU := Lib.hid hu
  obtain ⟨A, c, rfl, _, _⟩ := hv
  obtain ⟨A2, c2, rfl, _, _⟩ := hu
  unfold maxLen at hl hm
  by_cases hlen : L.length = M.length
  · have HLen := Lib.hid hlen
    have hne : ((L.length : Int) != (M.length : Int)) = false := by simp [hlen]
    go_enter Try.func23, Try.ntmps23
    clear hlen
    go_wp2
    clear hne
    go_loopw [13] (fun i wr => ∃ k : Nat, k ≤ L.length ∧ i = .int .i64 k ∧ Kp No w wr ∧ L.take k = M.take k) (fun i _ => L.length - (intOf i).toNat)
    case atStart => exact ⟨0, Nat.zero_le _, rfl, Kp.refl _ _, by simp⟩
    case round =>
      obtain ⟨k, hk, rfl, hK, hT⟩ := hrel
      have HK := Lib.hid hK; have HT := Lib.hid hT; clear hK hT
      by_cases hlt : k < L.length
      · have hk0 : (0 : Int) ≤ (k : Int) := by omega
        have hk1 : (k : Int) < (L.length : Int) := by omega
        have hlt2 : k < M.length := by have := HLen.out; omega
        have hk2 : (k : Int) < (M.length : Int) := by omega
        obtain ⟨g, o, c', e1, hxx⟩ := (HV.out.no HK.out).at_ hlt
        have hx := hxx k _ (List.getElem?_eq_getElem hlt)
        clear hxx
        injection e1 with e1 _ e1c
        subst e1 e1c
        obtain ⟨g2, o2, c2', e2, hyy⟩ := (HU.out.no HK.out).at_ hlt2
        have hy := hyy k _ (List.getElem?_eq_getElem hlt2)
        clear hyy
        injection e2 with e2 _ e2c
        subst e2 e2c
        have HTL := Lib.hid (show L.take (k + 1) = L.take k ++ [L[k]] from List.take_succ_eq_append_getElem hlt)
        have HTM := Lib.hid (show M.take (k + 1) = M.take k ++ [M[k]] from List.take_succ_eq_append_getElem hlt2)
        have HNE := Lib.hid (show L[k] ≠ M[k] → decide (L = M) = false from fun h => by
          rw [decide_eq_false_iff_not]; rintro rfl; exact h rfl)
        generalize L[k] = x at *
        generalize M[k] = y at *
        by_cases hxy : x = y
        · subst hxy
          have d1 : (x != x) = false := by simp
          clear hlt hlt2
          go_wp2
          go_quiet (fail)
          go_wp2
          go_roundw
          case rel => exact ⟨k + 1, by omega, by go_num, HK.out.drewN _, by rw [HTL.out, HTM.out, HT.out]⟩
          case measure => simp [intOf]; omega
        · have d1 : (x != y) = true := by rw [bne_iff_ne]; exact hxy
          have HXY := Lib.hid hxy
          clear hxy hlt hlt2
          go_wp2
          go_quiet (fail)
          go_wp2
          go_ret
          exact ⟨ret_bool rfl (HNE.out HXY.out).symm, HK.out.drewN _⟩
      · have hk1 : ¬ (k : Int) < (L.length : Int) := by omega
        have HE := Lib.hid (show decide (L = M) = true by
          rw [decide_eq_true_iff]
          have h1 := HT.out
          rwa [List.take_of_length_le (by omega), List.take_of_length_le (by have := HLen.out; omega)] at h1)
        clear hlt
        go_wp2
        go_ret
        exact ⟨ret_bool rfl HE.out.symm, HK.out⟩
  · have hne : ((L.length : Int) != (M.length : Int)) = true := by rw [bne_iff_ne]; omega
    have HE := Lib.hid (show decide (L = M) = false by rw [decide_eq_false_iff_not]; rintro rfl; exact hlen rfl)
    clear hlen
    go_enter Try.func23, Try.ntmps23
    go_wp2
    go_ret
    exact ⟨ret_bool rfl HE.out.symm, Kp.refl _ _⟩
set_option maxRecDepth 100000 in
set_option maxHeartbeats 4000000 in
theorem same1_any (m : Msg) (A : Option Addr) (n c : Nat) (W : World) : Calls Try.prog 24 #[.agg (mcells m (.slice A n c)).toArray] W fun e w' => e = .returned (.agg (rcells m).toArray) ∧ Kp No W w' := by
  unfold mcells
  go_enter Try.func24, Try.ntmps24
  go_wp2
  refine bodyPost_ret (v := .agg (rcells m).toArray) (by simp [results, Try.results24, go_sem, rcells]) rfl ⟨rfl, ?_⟩
  exact ((Kp.refl _ _).alloc _).alloc _
set_option maxRecDepth 100000 in
set_option maxHeartbeats 4000000 in
theorem same_any (a b : Msg) (sa sb : Value) (W : World) (ha : ArgInts W sa a.stamp) (hb : ArgInts W sb b.stamp) (la : a.stamp.length ≤ maxLen) (lb : b.stamp.length ≤ maxLen) :
    Calls Try.prog 13 #[.agg (mcells a sa).toArray, .agg (mcells b sb).toArray] W fun e w' => e = .returned (.bool (decide (a = b))) ∧ Kp No W w' := by
  have pe := fun W2 (k : Kp No W W2) => eqI_any sa sb a.stamp b.stamp W2 (ha.no k) (hb.no k) la lb
  obtain ⟨A1, c1, rfl, _, _⟩ := ha
  obtain ⟨A2, c2, rfl, _, _⟩ := hb
  have HEI := Lib.hid (fun (h : a.stamp = b.stamp) (w : World) => rest_eq' a b h w)
  unfold mcells
  go_enter Try.func13, Try.ntmps13
  go_wp2_with fail
  refine (pe _ (((Kp.refl No W).alloc _).alloc _)).mono ?_
  rintro e w1 ⟨rfl, k1⟩
  have B1 : Bk w1 W.heap.size 29 (mcells a (.slice A1 a.stamp.length c1)) := ((Bk.new' rfl rfl : Bk _ _ _ (mcells a (.slice A1 a.stamp.length c1))).alloc _).no k1
  have B2 : Bk w1 (W.heap.size + 1) 29 (mcells b (.slice A2 b.stamp.length c2)) := (Bk.new' (by simp) rfl : Bk _ _ _ (mcells b (.slice A2 b.stamp.length c2))).no k1
  have K1 : Kp No W w1 := (((Kp.refl No W).alloc _).alloc _).trans k1
  have HB1 := Lib.hid B1; have HB2 := Lib.hid B2; have HK := Lib.hid K1
  clear k1 pe B1 B2 K1
  by_cases hst : a.stamp = b.stamp
  · have d1 : decide (a.stamp = b.stamp) = true := by simpa using hst
    rw [d1]
    have HE := Lib.hid (HEI.out hst); clear d1 hst
    go_upto_region 4 with (fail)
    have q1 : ∀ W2, Kp No w1 W2 → Calls Try.prog 24 #[.agg (mcells a (.slice A1 a.stamp.length c1)).toArray] W2 fun e w' => e = .returned (.agg (rcells a).toArray) ∧ Kp No w1 w' := fun W2 k => (same1_any a A1 _ c1 W2).mono fun e w' ⟨h, k2⟩ => ⟨h, k.trans k2⟩
    have q2 : ∀ W2, Kp No w1 W2 → Calls Try.prog 24 #[.agg (mcells b (.slice A2 b.stamp.length c2)).toArray] W2 fun e w' => e = .returned (.agg (rcells b).toArray) ∧ Kp No w1 w' := fun W2 k => (same1_any b A2 _ c2 W2).mono fun e w' ⟨h, k2⟩ => ⟨h, k.trans k2⟩
    have heq := HE.out
    simp only [mcells] at q1 q2
    have sk : ∀ W2, Kp No w1 W2 → W2.cell? ⟨W.heap.size, 0, none⟩ = some (.int .i64 a.kind) ∧ W2.cell? ⟨W.heap.size, 1, none⟩ = some (.int .i64 a.from_) ∧ W2.cell? ⟨W.heap.size, 2, none⟩ = some (.int .i64 a.dest) ∧ W2.cell? ⟨W.heap.size, 3, none⟩ = some (.int .i64 a.boot) ∧ W2.cell? ⟨W.heap.size, 4, none⟩ = some (.int .i64 a.seq) ∧ W2.cell? ⟨W.heap.size, 5, none⟩ = some (.int .i64 a.low) ∧ W2.cell? ⟨W.heap.size, 6, none⟩ = some (.int .i64 a.verb) ∧ W2.cell? ⟨W.heap.size, 7, none⟩ = some (.string ⟨a.path.toArray⟩) ∧ W2.cell? ⟨W.heap.size, 8, none⟩ = some (.int .i64 a.mode) ∧ W2.cell? ⟨W.heap.size, 9, none⟩ = some (.int .i64 a.term) ∧ W2.cell? ⟨W.heap.size, 10, none⟩ = some (.int .i64 a.id) ∧ W2.cell? ⟨W.heap.size, 11, none⟩ = some (.bool a.fresh) ∧ W2.cell? ⟨W.heap.size, 12, none⟩ = some (.int .i64 a.code) ∧ W2.cell? ⟨W.heap.size, 13, none⟩ = some (.slice A1 a.stamp.length c1) ∧ W2.cell? ⟨W.heap.size, 14, none⟩ = some (.int .i64 a.origin) ∧ W2.cell? ⟨W.heap.size, 15, none⟩ = some (.int .i64 a.number) ∧ W2.cell? ⟨W.heap.size + 1, 0, none⟩ = some (.int .i64 b.kind) ∧ W2.cell? ⟨W.heap.size + 1, 1, none⟩ = some (.int .i64 b.from_) ∧ W2.cell? ⟨W.heap.size + 1, 2, none⟩ = some (.int .i64 b.dest) ∧ W2.cell? ⟨W.heap.size + 1, 3, none⟩ = some (.int .i64 b.boot) ∧ W2.cell? ⟨W.heap.size + 1, 4, none⟩ = some (.int .i64 b.seq) ∧ W2.cell? ⟨W.heap.size + 1, 5, none⟩ = some (.int .i64 b.low) ∧ W2.cell? ⟨W.heap.size + 1, 6, none⟩ = some (.int .i64 b.verb) ∧ W2.cell? ⟨W.heap.size + 1, 7, none⟩ = some (.string ⟨b.path.toArray⟩) ∧ W2.cell? ⟨W.heap.size + 1, 8, none⟩ = some (.int .i64 b.mode) ∧ W2.cell? ⟨W.heap.size + 1, 9, none⟩ = some (.int .i64 b.term) ∧ W2.cell? ⟨W.heap.size + 1, 10, none⟩ = some (.int .i64 b.id) ∧ W2.cell? ⟨W.heap.size + 1, 11, none⟩ = some (.bool b.fresh) ∧ W2.cell? ⟨W.heap.size + 1, 12, none⟩ = some (.int .i64 b.code) ∧ W2.cell? ⟨W.heap.size + 1, 13, none⟩ = some (.slice A2 b.stamp.length c2) ∧ W2.cell? ⟨W.heap.size + 1, 14, none⟩ = some (.int .i64 b.origin) ∧ W2.cell? ⟨W.heap.size + 1, 15, none⟩ = some (.int .i64 b.number) := fun W2 k => ⟨(HB1.out.no k).cell 0, (HB1.out.no k).cell 1, (HB1.out.no k).cell 2, (HB1.out.no k).cell 3, (HB1.out.no k).cell 4, (HB1.out.no k).cell 5, (HB1.out.no k).cell 6, (HB1.out.no k).cell 7, (HB1.out.no k).cell 8, (HB1.out.no k).cell 9, (HB1.out.no k).cell 10, (HB1.out.no k).cell 11, (HB1.out.no k).cell 12, (HB1.out.no k).cell 13, (HB1.out.no k).cell 14, (HB1.out.no k).cell 15, (HB2.out.no k).cell 0, (HB2.out.no k).cell 1, (HB2.out.no k).cell 2, (HB2.out.no k).cell 3, (HB2.out.no k).cell 4, (HB2.out.no k).cell 5, (HB2.out.no k).cell 6, (HB2.out.no k).cell 7, (HB2.out.no k).cell 8, (HB2.out.no k).cell 9, (HB2.out.no k).cell 10, (HB2.out.no k).cell 11, (HB2.out.no k).cell 12, (HB2.out.no k).cell 13, (HB2.out.no k).cell 14, (HB2.out.no k).cell 15⟩
    go_region_held3 (fun W2 => W2.cell? ⟨W.heap.size, 0, none⟩ = some (.int .i64 a.kind) ∧ W2.cell? ⟨W.heap.size, 1, none⟩ = some (.int .i64 a.from_) ∧ W2.cell? ⟨W.heap.size, 2, none⟩ = some (.int .i64 a.dest) ∧ W2.cell? ⟨W.heap.size, 3, none⟩ = some (.int .i64 a.boot) ∧ W2.cell? ⟨W.heap.size, 4, none⟩ = some (.int .i64 a.seq) ∧ W2.cell? ⟨W.heap.size, 5, none⟩ = some (.int .i64 a.low) ∧ W2.cell? ⟨W.heap.size, 6, none⟩ = some (.int .i64 a.verb) ∧ W2.cell? ⟨W.heap.size, 7, none⟩ = some (.string ⟨a.path.toArray⟩) ∧ W2.cell? ⟨W.heap.size, 8, none⟩ = some (.int .i64 a.mode) ∧ W2.cell? ⟨W.heap.size, 9, none⟩ = some (.int .i64 a.term) ∧ W2.cell? ⟨W.heap.size, 10, none⟩ = some (.int .i64 a.id) ∧ W2.cell? ⟨W.heap.size, 11, none⟩ = some (.bool a.fresh) ∧ W2.cell? ⟨W.heap.size, 12, none⟩ = some (.int .i64 a.code) ∧ W2.cell? ⟨W.heap.size, 13, none⟩ = some (.slice A1 a.stamp.length c1) ∧ W2.cell? ⟨W.heap.size, 14, none⟩ = some (.int .i64 a.origin) ∧ W2.cell? ⟨W.heap.size, 15, none⟩ = some (.int .i64 a.number) ∧ W2.cell? ⟨W.heap.size + 1, 0, none⟩ = some (.int .i64 b.kind) ∧ W2.cell? ⟨W.heap.size + 1, 1, none⟩ = some (.int .i64 b.from_) ∧ W2.cell? ⟨W.heap.size + 1, 2, none⟩ = some (.int .i64 b.dest) ∧ W2.cell? ⟨W.heap.size + 1, 3, none⟩ = some (.int .i64 b.boot) ∧ W2.cell? ⟨W.heap.size + 1, 4, none⟩ = some (.int .i64 b.seq) ∧ W2.cell? ⟨W.heap.size + 1, 5, none⟩ = some (.int .i64 b.low) ∧ W2.cell? ⟨W.heap.size + 1, 6, none⟩ = some (.int .i64 b.verb) ∧ W2.cell? ⟨W.heap.size + 1, 7, none⟩ = some (.string ⟨b.path.toArray⟩) ∧ W2.cell? ⟨W.heap.size + 1, 8, none⟩ = some (.int .i64 b.mode) ∧ W2.cell? ⟨W.heap.size + 1, 9, none⟩ = some (.int .i64 b.term) ∧ W2.cell? ⟨W.heap.size + 1, 10, none⟩ = some (.int .i64 b.id) ∧ W2.cell? ⟨W.heap.size + 1, 11, none⟩ = some (.bool b.fresh) ∧ W2.cell? ⟨W.heap.size + 1, 12, none⟩ = some (.int .i64 b.code) ∧ W2.cell? ⟨W.heap.size + 1, 13, none⟩ = some (.slice A2 b.stamp.length c2) ∧ W2.cell? ⟨W.heap.size + 1, 14, none⟩ = some (.int .i64 b.origin) ∧ W2.cell? ⟨W.heap.size + 1, 15, none⟩ = some (.int .i64 b.number)) (first | (go_keep; done) | exact sk _ (by with_reducible repeat (first | assumption | exact Kp.refl _ _ | refine Kp.drew ?_ | refine Kp.drewN ?_ _)))
      (first
          | (go_at_call 24; (with_reducible refine (q1 _ (by with_reducible repeat (first | assumption | exact Kp.refl _ _ | refine Kp.drew ?_ | refine Kp.drewN ?_ _))).mono ?_); rintro e w2 ⟨rfl, k2⟩)
          | (go_at_call 24; (with_reducible refine (q2 _ (by with_reducible repeat (first | assumption | exact Kp.refl _ _ | refine Kp.drew ?_ | refine Kp.drewN ?_ _))).mono ?_); rintro e w3 ⟨rfl, k3⟩))
    all_goals
      have HK3 := Lib.hid (HK.out.trans k3)
      clear q1 q2 sk heq k2 k3
      go_wp2
      go_ret
      exact ⟨rfl, HK3.out⟩
  · have d1 : decide (a.stamp = b.stamp) = false := by simpa using hst
    rw [d1]
    have HE := Lib.hid (show decide (a = b) = false by rw [decide_eq_false_iff_not]; rintro rfl; exact hst rfl)
    clear d1 hst
    go_wp2
    go_ret
    exact ⟨ret_bool rfl HE.out.symm, HK.out⟩
end Go.Proofs.Ytbnpdghfbiacaaa
