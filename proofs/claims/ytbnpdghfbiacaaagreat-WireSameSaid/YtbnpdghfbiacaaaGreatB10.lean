/- Several texts of this claim in one. No condition beyond what each theorem states. -/
import Derived.Test.YtbnpdghfbiacaaaGreatB04
import Derived.Laws.StructEq
import Derived.Test.YtbnpdghfbiacaaaGreatB08
import Derived.Test.YtbnpdghfbiacaaaGreatB07
/- Two messages' rests compared (wire). No condition beyond what each theorem states. -/
namespace Go.Proofs.YtbnpdghfbiacaaaGreat
open Go Go.RowKit Go.PlainAid

/-- all but the stamp -/
def rcells (m : Msg) : List Value := [.int .i64 m.kind, .int .i64 m.from_, .int .i64 m.dest, .int .i64 m.boot, .int .i64 m.seq, .int .i64 m.low, .int .i64 m.term, .int .i64 m.id, .int .i64 m.origin, .int .i64 m.number, .int .i64 m.verb, .string ⟨m.path.toArray⟩, .int .i64 m.mode, .bool m.fresh, .int .i64 m.code]
set_option maxRecDepth 100000 in
set_option maxHeartbeats 4000000 in
theorem rest_eq (a b : Msg) (w : World) : (binOp .eql 72 (.agg (rcells a).toArray) (.agg (rcells b).toArray)).run Tryz.prog w = .ok (.bool (decide (a = { b with stamp := a.stamp }))) w := by
  have hS : Tryz.prog.underlying 72 = some (.struct (Tryz.prog.fieldsOf 72)) := by kernel_rfl
  have hp : Tryz.prog.stoodInHeld 72 = false := by kernel_rfl
  simp only [rcells]
  rw [run_eql_struct, show (10000 : Nat) = 9999 + 1 from rfl, run_equalIn_agg w 9999 72 _ _ hS hp]
  simp only [Program.fieldsOf, Tryz.underlying72]
  go_simp
  obtain ⟨k1, k2, k3, k4, k5, k6, k7, k8, k9, k10, k11, k12, k13, k14, k15, k16⟩ := a
  obtain ⟨j1, j2, j3, j4, j5, j6, j7, j8, j9, j10, j11, j12, j13, j14, j15, j16⟩ := b
  simp only [Msg.mk.injEq]
  rcases Decidable.em (¬ k1 = j1) with e | e
  · rw [if_neg e]; simp [e]
  obtain rfl := Decidable.not_not.1 e; clear e; rw [if_pos rfl]
  rcases Decidable.em (¬ k2 = j2) with e | e
  · rw [if_neg e]; simp [e]
  obtain rfl := Decidable.not_not.1 e; clear e; rw [if_pos rfl]
  rcases Decidable.em (¬ k3 = j3) with e | e
  · rw [if_neg e]; simp [e]
  obtain rfl := Decidable.not_not.1 e; clear e; rw [if_pos rfl]
  rcases Decidable.em (¬ k4 = j4) with e | e
  · rw [if_neg e]; simp [e]
  obtain rfl := Decidable.not_not.1 e; clear e; rw [if_pos rfl]
  rcases Decidable.em (¬ k5 = j5) with e | e
  · rw [if_neg e]; simp [e]
  obtain rfl := Decidable.not_not.1 e; clear e; rw [if_pos rfl]
  rcases Decidable.em (¬ k6 = j6) with e | e
  · rw [if_neg e]; simp [e]
  obtain rfl := Decidable.not_not.1 e; clear e; rw [if_pos rfl]
  rcases Decidable.em (¬ k10 = j10) with e | e
  · rw [if_neg e]; simp [e]
  obtain rfl := Decidable.not_not.1 e; clear e; rw [if_pos rfl]
  rcases Decidable.em (¬ k11 = j11) with e | e
  · rw [if_neg e]; simp [e]
  obtain rfl := Decidable.not_not.1 e; clear e; rw [if_pos rfl]
  rcases Decidable.em (¬ k15 = j15) with e | e
  · rw [if_neg e]; simp [e]
  obtain rfl := Decidable.not_not.1 e; clear e; rw [if_pos rfl]
  rcases Decidable.em (¬ k16 = j16) with e | e
  · rw [if_neg e]; simp [e]
  obtain rfl := Decidable.not_not.1 e; clear e; rw [if_pos rfl]
  rcases Decidable.em (¬ k7 = j7) with e | e
  · rw [if_neg e]; simp [e]
  obtain rfl := Decidable.not_not.1 e; clear e; rw [if_pos rfl]
  rcases Decidable.em (¬ k8 = j8) with e | e
  · rw [if_neg e]; simp [e]
  obtain rfl := Decidable.not_not.1 e; clear e; rw [if_pos rfl]
  rcases Decidable.em (¬ k9 = j9) with e | e
  · rw [if_neg e]; simp [e]
  obtain rfl := Decidable.not_not.1 e; clear e; rw [if_pos rfl]
  rcases Decidable.em (¬ k12 = j12) with e | e
  · rw [if_neg e]; simp [e]
  obtain rfl := Decidable.not_not.1 e; clear e; rw [if_pos rfl]
  rcases Decidable.em (¬ k13 = j13) with e | e
  · rw [if_neg e]; simp [e]
  obtain rfl := Decidable.not_not.1 e; clear e; rw [if_pos rfl]
  simp
theorem rest_eq' (a b : Msg) (h : a.stamp = b.stamp) (w : World) : (binOp .eql 72 (.agg (rcells a).toArray) (.agg (rcells b).toArray)).run Tryz.prog w = .ok (.bool (decide (a = b))) w := by
  rw [rest_eq]
  congr 2
  have e : ({ b with stamp := a.stamp } : Msg) = b := by rw [h]
  rw [e]
end Go.Proofs.YtbnpdghfbiacaaaGreat

/- wire.Same by contract. No condition beyond what each theorem states. -/
namespace Go.Proofs.YtbnpdghfbiacaaaGreat
open Go Go.RowKit Go.PlainAid

set_option maxRecDepth 100000 in
set_option maxHeartbeats 2000000 in
theorem eqI_any (v u : Value) (L M : List Int) (w : World) (hv : ArgInts w v L) (hu : ArgInts w u M) (hl : L.length ≤ maxLen) (hm : M.length ≤ maxLen) :
    Calls Tryz.prog 40 #[v, u] w fun e w' => e = .returned (.bool (decide (L = M))) ∧ Kp No w w' := by
  have HV := Lib.hid hv; have HU := Lib.hid hu
  obtain ⟨A, c, rfl, _, _⟩ := hv
  obtain ⟨A2, c2, rfl, _, _⟩ := hu
  unfold maxLen at hl hm
  by_cases hlen : L.length = M.length
  · have HLen := Lib.hid hlen
    have hne : ((L.length : Int) != (M.length : Int)) = false := by simp [hlen]
    go_enter Tryz.func40, Tryz.ntmps40
    clear hlen
    go_wp2
    clear hne
    go_loopw [13] (fun i wr => ∃ k : Nat, k ≤ L.length ∧ i = .int .i64 k ∧ Kp No w wr ∧ L.take k = M.take k) (fun i _ => L.length - (intOf i).toNat)
    case atStart => exact ⟨0, Nat.zero_le _, rfl, Kp.refl _ _, by simp⟩
    case round =>
      obtain ⟨k, hk, rfl, hK, hT⟩ := hrel
      have HK := Lib.hid hK; have HT := Lib.hid hT; clear hK hT
      by_cases hlt : k < L.length
      · have hk0 : (0 : Int) ≤ (k : Int) := by omega
        have hk1 : (k : Int) < (L.length : Int) := by omega
        have hlt2 : k < M.length := by have := HLen.out; omega
        have hk2 : (k : Int) < (M.length : Int) := by omega
        obtain ⟨g, o, c', e1, hxx⟩ := (HV.out.no HK.out).at_ hlt
        have hx := hxx k _ (List.getElem?_eq_getElem hlt)
        clear hxx
        injection e1 with e1 _ e1c
        subst e1 e1c
        obtain ⟨g2, o2, c2', e2, hyy⟩ := (HU.out.no HK.out).at_ hlt2
        have hy := hyy k _ (List.getElem?_eq_getElem hlt2)
        clear hyy
        injection e2 with e2 _ e2c
        subst e2 e2c
        have HTL := Lib.hid (show L.take (k + 1) = L.take k ++ [L[k]] from List.take_succ_eq_append_getElem hlt)
        have HTM := Lib.hid (show M.take (k + 1) = M.take k ++ [M[k]] from List.take_succ_eq_append_getElem hlt2)
        have HNE := Lib.hid (show L[k] ≠ M[k] → decide (L = M) = false from fun h => by
          rw [decide_eq_false_iff_not]; rintro rfl; exact h rfl)
        generalize L[k] = x at *
        generalize M[k] = y at *
        by_cases hxy : x = y
        · subst hxy
          have d1 : (x != x) = false := by simp
          clear hlt hlt2
          go_wp2
          go_quiet (fail)
          go_wp2
          go_roundw
          case rel => exact ⟨k + 1, by omega, by go_num, HK.out.drewN _, by rw [HTL.out, HTM.out, HT.out]⟩
          case measure => simp [intOf]; omega
        · have d1 : (x != y) = true := by rw [bne_iff_ne]; exact hxy
          have HXY := Lib.hid hxy
          clear hxy hlt hlt2
          go_wp2
          go_quiet (fail)
          go_wp2
          go_ret
          exact ⟨ret_bool rfl (HNE.out HXY.out).symm, HK.out.drewN _⟩
      · have hk1 : ¬ (k : Int) < (L.length : Int) := by omega
        have HE := Lib.hid (show decide (L = M) = true by
          rw [decide_eq_true_iff]
          have h1 := HT.out
          rwa [List.take_of_length_le (by omega), List.take_of_length_le (by have := HLen.out; omega)] at h1)
        clear hlt
        go_wp2
        go_ret
        exact ⟨ret_bool rfl HE.out.symm, HK.out⟩
  · have hne : ((L.length : Int) != (M.length : Int)) = true := by rw [bne_iff_ne]; omega
    have HE := Lib.hid (show decide (L = M) = false by rw [decide_eq_false_iff_not]; rintro rfl; exact hlen rfl)
    clear hlen
    go_enter Tryz.func40, Tryz.ntmps40
    go_wp2
    go_ret
    exact ⟨ret_bool rfl HE.out.symm, Kp.refl _ _⟩
set_option maxRecDepth 100000 in
set_option maxHeartbeats 4000000 in
theorem same1_any (m : Msg) (A : Option Addr) (n c : Nat) (W : World) : Calls Tryz.prog 41 #[.agg (mcells m (.slice A n c)).toArray] W fun e w' => e = .returned (.agg (rcells m).toArray) ∧ Kp No W w' := by
  unfold mcells
  go_enter Tryz.func41, Tryz.ntmps41
  go_wp2
  refine bodyPost_ret (v := .agg (rcells m).toArray) (by simp [results, Tryz.results41, go_sem, rcells]) rfl ⟨rfl, ?_⟩
  exact ((Kp.refl _ _).alloc _).alloc _
set_option maxRecDepth 100000 in
set_option maxHeartbeats 4000000 in
theorem same_any (a b : Msg) (sa sb : Value) (W : World) (ha : ArgInts W sa a.stamp) (hb : ArgInts W sb b.stamp) (la : a.stamp.length ≤ maxLen) (lb : b.stamp.length ≤ maxLen) :
    Calls Tryz.prog 16 #[.agg (mcells a sa).toArray, .agg (mcells b sb).toArray] W fun e w' => e = .returned (.bool (decide (a = b))) ∧ Kp No W w' := by
  have pe := fun W2 (k : Kp No W W2) => eqI_any sa sb a.stamp b.stamp W2 (ha.no k) (hb.no k) la lb
  obtain ⟨A1, c1, rfl, _, _⟩ := ha
  obtain ⟨A2, c2, rfl, _, _⟩ := hb
  have HEI := Lib.hid (fun (h : a.stamp = b.stamp) (w : World) => rest_eq' a b h w)
  unfold mcells
  go_enter Tryz.func16, Tryz.ntmps16
  go_wp2_with fail
  refine (pe _ (((Kp.refl No W).alloc _).alloc _)).mono ?_
  rintro e w1 ⟨rfl, k1⟩
  have B1 : Bk w1 W.heap.size 28 (mcells a (.slice A1 a.stamp.length c1)) := ((Bk.new' rfl rfl : Bk _ _ _ (mcells a (.slice A1 a.stamp.length c1))).alloc _).no k1
  have B2 : Bk w1 (W.heap.size + 1) 28 (mcells b (.slice A2 b.stamp.length c2)) := (Bk.new' (by simp) rfl : Bk _ _ _ (mcells b (.slice A2 b.stamp.length c2))).no k1
  have K1 : Kp No W w1 := (((Kp.refl No W).alloc _).alloc _).trans k1
  have HB1 := Lib.hid B1; have HB2 := Lib.hid B2; have HK := Lib.hid K1
  clear k1 pe B1 B2 K1
  by_cases hst : a.stamp = b.stamp
  · have d1 : decide (a.stamp = b.stamp) = true := by simpa using hst
    rw [d1]
    have HE := Lib.hid (HEI.out hst); clear d1 hst
    go_upto_region 4 with (fail)
    have q1 : ∀ W2, Kp No w1 W2 → Calls Tryz.prog 41 #[.agg (mcells a (.slice A1 a.stamp.length c1)).toArray] W2 fun e w' => e = .returned (.agg (rcells a).toArray) ∧ Kp No w1 w' := fun W2 k => (same1_any a A1 _ c1 W2).mono fun e w' ⟨h, k2⟩ => ⟨h, k.trans k2⟩
    have q2 : ∀ W2, Kp No w1 W2 → Calls Tryz.prog 41 #[.agg (mcells b (.slice A2 b.stamp.length c2)).toArray] W2 fun e w' => e = .returned (.agg (rcells b).toArray) ∧ Kp No w1 w' := fun W2 k => (same1_any b A2 _ c2 W2).mono fun e w' ⟨h, k2⟩ => ⟨h, k.trans k2⟩
    have heq := HE.out
    simp only [mcells] at q1 q2
    have sk : ∀ W2, Kp No w1 W2 → W2.cell? ⟨W.heap.size, 0, none⟩ = some (.int .i64 a.kind) ∧ W2.cell? ⟨W.heap.size, 1, none⟩ = some (.int .i64 a.from_) ∧ W2.cell? ⟨W.heap.size, 2, none⟩ = some (.int .i64 a.dest) ∧ W2.cell? ⟨W.heap.size, 3, none⟩ = some (.int .i64 a.boot) ∧ W2.cell? ⟨W.heap.size, 4, none⟩ = some (.int .i64 a.seq) ∧ W2.cell? ⟨W.heap.size, 5, none⟩ = some (.int .i64 a.low) ∧ W2.cell? ⟨W.heap.size, 6, none⟩ = some (.int .i64 a.verb) ∧ W2.cell? ⟨W.heap.size, 7, none⟩ = some (.string ⟨a.path.toArray⟩) ∧ W2.cell? ⟨W.heap.size, 8, none⟩ = some (.int .i64 a.mode) ∧ W2.cell? ⟨W.heap.size, 9, none⟩ = some (.int .i64 a.term) ∧ W2.cell? ⟨W.heap.size, 10, none⟩ = some (.int .i64 a.id) ∧ W2.cell? ⟨W.heap.size, 11, none⟩ = some (.bool a.fresh) ∧ W2.cell? ⟨W.heap.size, 12, none⟩ = some (.int .i64 a.code) ∧ W2.cell? ⟨W.heap.size, 13, none⟩ = some (.slice A1 a.stamp.length c1) ∧ W2.cell? ⟨W.heap.size, 14, none⟩ = some (.int .i64 a.origin) ∧ W2.cell? ⟨W.heap.size, 15, none⟩ = some (.int .i64 a.number) ∧ W2.cell? ⟨W.heap.size + 1, 0, none⟩ = some (.int .i64 b.kind) ∧ W2.cell? ⟨W.heap.size + 1, 1, none⟩ = some (.int .i64 b.from_) ∧ W2.cell? ⟨W.heap.size + 1, 2, none⟩ = some (.int .i64 b.dest) ∧ W2.cell? ⟨W.heap.size + 1, 3, none⟩ = some (.int .i64 b.boot) ∧ W2.cell? ⟨W.heap.size + 1, 4, none⟩ = some (.int .i64 b.seq) ∧ W2.cell? ⟨W.heap.size + 1, 5, none⟩ = some (.int .i64 b.low) ∧ W2.cell? ⟨W.heap.size + 1, 6, none⟩ = some (.int .i64 b.verb) ∧ W2.cell? ⟨W.heap.size + 1, 7, none⟩ = some (.string ⟨b.path.toArray⟩) ∧ W2.cell? ⟨W.heap.size + 1, 8, none⟩ = some (.int .i64 b.mode) ∧ W2.cell? ⟨W.heap.size + 1, 9, none⟩ = some (.int .i64 b.term) ∧ W2.cell? ⟨W.heap.size + 1, 10, none⟩ = some (.int .i64 b.id) ∧ W2.cell? ⟨W.heap.size + 1, 11, none⟩ = some (.bool b.fresh) ∧ W2.cell? ⟨W.heap.size + 1, 12, none⟩ = some (.int .i64 b.code) ∧ W2.cell? ⟨W.heap.size + 1, 13, none⟩ = some (.slice A2 b.stamp.length c2) ∧ W2.cell? ⟨W.heap.size + 1, 14, none⟩ = some (.int .i64 b.origin) ∧ W2.cell? ⟨W.heap.size + 1, 15, none⟩ = some (.int .i64 b.number) := fun W2 k => ⟨(HB1.out.no k).cell 0, (HB1.out.no k).cell 1, (HB1.out.no k).cell 2, (HB1.out.no k).cell 3, (HB1.out.no k).cell 4, (HB1.out.no k).cell 5, (HB1.out.no k).cell 6, (HB1.out.no k).cell 7, (HB1.out.no k).cell 8, (HB1.out.no k).cell 9, (HB1.out.no k).cell 10, (HB1.out.no k).cell 11, (HB1.out.no k).cell 12, (HB1.out.no k).cell 13, (HB1.out.no k).cell 14, (HB1.out.no k).cell 15, (HB2.out.no k).cell 0, (HB2.out.no k).cell 1, (HB2.out.no k).cell 2, (HB2.out.no k).cell 3, (HB2.out.no k).cell 4, (HB2.out.no k).cell 5, (HB2.out.no k).cell 6, (HB2.out.no k).cell 7, (HB2.out.no k).cell 8, (HB2.out.no k).cell 9, (HB2.out.no k).cell 10, (HB2.out.no k).cell 11, (HB2.out.no k).cell 12, (HB2.out.no k).cell 13, (HB2.out.no k).cell 14, (HB2.out.no k).cell 15⟩
    go_region_held3 (fun W2 => W2.cell? ⟨W.heap.size, 0, none⟩ = some (.int .i64 a.kind) ∧ W2.cell? ⟨W.heap.size, 1, none⟩ = some (.int .i64 a.from_) ∧ W2.cell? ⟨W.heap.size, 2, none⟩ = some (.int .i64 a.dest) ∧ W2.cell? ⟨W.heap.size, 3, none⟩ = some (.int .i64 a.boot) ∧ W2.cell? ⟨W.heap.size, 4, none⟩ = some (.int .i64 a.seq) ∧ W2.cell? ⟨W.heap.size, 5, none⟩ = some (.int .i64 a.low) ∧ W2.cell? ⟨W.heap.size, 6, none⟩ = some (.int .i64 a.verb) ∧ W2.cell? ⟨W.heap.size, 7, none⟩ = some (.string ⟨a.path.toArray⟩) ∧ W2.cell? ⟨W.heap.size, 8, none⟩ = some (.int .i64 a.mode) ∧ W2.cell? ⟨W.heap.size, 9, none⟩ = some (.int .i64 a.term) ∧ W2.cell? ⟨W.heap.size, 10, none⟩ = some (.int .i64 a.id) ∧ W2.cell? ⟨W.heap.size, 11, none⟩ = some (.bool a.fresh) ∧ W2.cell? ⟨W.heap.size, 12, none⟩ = some (.int .i64 a.code) ∧ W2.cell? ⟨W.heap.size, 13, none⟩ = some (.slice A1 a.stamp.length c1) ∧ W2.cell? ⟨W.heap.size, 14, none⟩ = some (.int .i64 a.origin) ∧ W2.cell? ⟨W.heap.size, 15, none⟩ = some (.int .i64 a.number) ∧ W2.cell? ⟨W.heap.size + 1, 0, none⟩ = some (.int .i64 b.kind) ∧ W2.cell? ⟨W.heap.size + 1, 1, none⟩ = some (.int .i64 b.from_) ∧ W2.cell? ⟨W.heap.size + 1, 2, none⟩ = some (.int .i64 b.dest) ∧ W2.cell? ⟨W.heap.size + 1, 3, none⟩ = some (.int .i64 b.boot) ∧ W2.cell? ⟨W.heap.size + 1, 4, none⟩ = some (.int .i64 b.seq) ∧ W2.cell? ⟨W.heap.size + 1, 5, none⟩ = some (.int .i64 b.low) ∧ W2.cell? ⟨W.heap.size + 1, 6, none⟩ = some (.int .i64 b.verb) ∧ W2.cell? ⟨W.heap.size + 1, 7, none⟩ = some (.string ⟨b.path.toArray⟩) ∧ W2.cell? ⟨W.heap.size + 1, 8, none⟩ = some (.int .i64 b.mode) ∧ W2.cell? ⟨W.heap.size + 1, 9, none⟩ = some (.int .i64 b.term) ∧ W2.cell? ⟨W.heap.size + 1, 10, none⟩ = some (.int .i64 b.id) ∧ W2.cell? ⟨W.heap.size + 1, 11, none⟩ = some (.bool b.fresh) ∧ W2.cell? ⟨W.heap.size + 1, 12, none⟩ = some (.int .i64 b.code) ∧ W2.cell? ⟨W.heap.size + 1, 13, none⟩ = some (.slice A2 b.stamp.length c2) ∧ W2.cell? ⟨W.heap.size + 1, 14, none⟩ = some (.int .i64 b.origin) ∧ W2.cell? ⟨W.heap.size + 1, 15, none⟩ = some (.int .i64 b.number)) (first | (go_keep; done) | exact sk _ (by with_reducible repeat (first | assumption | exact Kp.refl _ _ | refine Kp.drew ?_ | refine Kp.drewN ?_ _)))
      (first
          | (go_at_call 41; (with_reducible refine (q1 _ (by with_reducible repeat (first | assumption | exact Kp.refl _ _ | refine Kp.drew ?_ | refine Kp.drewN ?_ _))).mono ?_); rintro e w2 ⟨rfl, k2⟩)
          | (go_at_call 41; (with_reducible refine (q2 _ (by with_reducible repeat (first | assumption | exact Kp.refl _ _ | refine Kp.drew ?_ | refine Kp.drewN ?_ _))).mono ?_); rintro e w3 ⟨rfl, k3⟩))
    all_goals
      have HK3 := Lib.hid (HK.out.trans k3)
      clear q1 q2 sk heq k2 k3
      go_wp2
      go_ret
      exact ⟨rfl, HK3.out⟩
  · have d1 : decide (a.stamp = b.stamp) = false := by simpa using hst
    rw [d1]
    have HE := Lib.hid (show decide (a = b) = false by rw [decide_eq_false_iff_not]; rintro rfl; exact hst rfl)
    clear d1 hst
    go_wp2
    go_ret
    exact ⟨ret_bool rfl HE.out.symm, HK.out⟩
end Go.Proofs.YtbnpdghfbiacaaaGreat

/- All fields asked (wire). No condition beyond what each theorem states. -/
namespace Go.Proofs.YtbnpdghfbiacaaaGreat
open Go Go.RowKit Go.PlainAid

set_option maxRecDepth 100000 in
theorem valid1_any (v : FV) (fl : Fld) (g : Nat) (m : Msg) (sv : Value) (W : World) (hf : FOk W v fl) (hm : MsgB W g m sv) (hs : Short maxLen m) :
    Calls Tryz.prog 28 #[.agg #[.func (.func v.wn) #[] v.wc, .func (.func v.rn) #[] v.rc, .func (.func v.fn) #[] v.fc], .pointer (some ⟨g, 0, none⟩)] W fun e w' => e = .returned (.bool (!fl.may m)) ∧ Kp No W w' := by
  have kA : Kp No W (W.alloc (.cells #[.func (.func v.wn) #[] v.wc, .func (.func v.rn) #[] v.rc, .func (.func v.fn) #[] v.fc] 59)) := (Kp.refl No W).alloc _
  have pf := hf.fine _ (Stay.no kA) g m sv (hm.no kA) hs
  have we : ∀ (args : Array Value) (w : World), (callFunc v.fn args).run Tryz.prog w = .ok (.enter v.fn args) w := hf.fe
  have HK := Lib.hid kA
  clear hf hm kA
  go_enter Tryz.func28, Tryz.ntmps28
  go_wp2_with fail
  refine pf.mono ?_
  rintro e w' ⟨rfl, k2⟩
  have K2 := Lib.hid (HK.out.trans k2)
  clear k2 pf
  cases hx : fl.may m
  all_goals
    have HX := Lib.hid hx; clear hx
    go_wp2
    go_ret
    exact ⟨ret_bool rfl (by rw [HX.out]; rfl), K2.out⟩
theorem all_takeF {L : List Fld} {k : Nat} (p : Fld → Bool) (hk : k < L.length) : (L.take (k + 1)).all p = ((L.take k).all p && p L[k]) := by
  rw [List.take_succ_eq_append_getElem hk, List.all_append]; simp only [List.all_cons, List.all_nil, Bool.and_true]
set_option maxRecDepth 100000 in
set_option maxHeartbeats 2000000 in
theorem indexFld_any (A : Option Addr) (c B : Nat) (L : List Fld) (g : Nat) (m : Msg) (sv : Value) (w : World) (hv : FsAt w B (.slice A L.length c) L) (hl : L.length ≤ 1000) (hm : MsgB w g m sv) (hs : Short maxLen m) :
    Calls Tryz.prog 72 #[.slice A L.length c, .func (.func 28) #[] #[.pointer (some ⟨g, 0, none⟩)]] w fun e w' => (∃ r : Int, e = .returned (.int .i64 r) ∧ decide (0 ≤ r) = !(L.all fun f => f.may m)) ∧ Kp No w w' := by
  have HV := Lib.hid hv; have HM := Lib.hid hm; have HSH := Lib.hid hs; clear hv hm hs
  go_enter Tryz.func72, Tryz.ntmps72
  go_wp2
  go_loopw [8] (fun i wr => ∃ k : Nat, k ≤ L.length ∧ i = .int .i64 k ∧ Kp No w wr ∧ ((L.take k).all fun f => f.may m) = true) (fun i _ => L.length - (intOf i).toNat)
  case atStart => exact ⟨0, Nat.zero_le _, rfl, Kp.refl _ _, by simp⟩
  case round =>
    obtain ⟨k, hk, rfl, hK, hF⟩ := hrel
    have HF := Lib.hid hF; have HK := Lib.hid hK; clear hF hK
    by_cases hlt : k < L.length
    · have hk0 : (0 : Int) ≤ (k : Int) := by omega
      have hk1 : (k : Int) < (L.length : Int) := by omega
      obtain ⟨g', c', v, e1, c0, c1, c2, hfl⟩ := (HV.out.no HK.out).at_ hlt
      injection e1 with e1 _ e1c
      subst e1 e1c
      have HT := Lib.hid (all_takeF (fun f => f.may m) hlt)
      have HN := Lib.hid (show (L[k]).may m = false → (L.all fun f => f.may m) = false from fun h => by
        rw [Bool.eq_false_iff]; intro ha
        have := List.all_eq_true.1 ha _ (List.getElem_mem hlt)
        rw [h] at this; cases this)
      have pv := valid1_any v L[k] g m sv wr hfl (HM.out.no HK.out) HSH.out
      generalize L[k] = fl at *
      clear hfl
      go_wp2_with fail
      refine pv.mono ?_
      rintro e w' ⟨rfl, k2⟩
      have HK2 := Lib.hid (HK.out.trans k2)
      clear pv k2
      cases hok : fl.may m with
      | false =>
        have HO := Lib.hid hok; clear hok
        go_wp2
        go_ret
        exact ⟨⟨k, rfl, by rw [HN.out HO.out]; simp⟩, HK2.out⟩
      | true =>
        have HO := Lib.hid hok; clear hok
        go_wp2
        go_roundw
        case rel => exact ⟨k + 1, by omega, by go_num, HK2.out, by rw [HT.out, HF.out, HO.out]; rfl⟩
        case measure => simp [intOf]; omega
    · have hk' : k = L.length := by omega
      have hall : (L.all fun f => f.may m) = true := by have := HF.out; rwa [hk', List.take_length] at this
      have HA := Lib.hid hall; clear hall hk'
      have hk1 : ¬ (k : Int) < (L.length : Int) := by omega
      go_wp2
      go_ret
      exact ⟨⟨-1, rfl, by rw [HA.out]; rfl⟩, HK.out⟩
theorem containsFld_any (A : Option Addr) (c B : Nat) (L : List Fld) (g : Nat) (m : Msg) (sv : Value) (w : World) (hv : FsAt w B (.slice A L.length c) L) (hl : L.length ≤ 1000) (hm : MsgB w g m sv) (hs : Short maxLen m) :
    Calls Tryz.prog 27 #[.slice A L.length c, .func (.func 28) #[] #[.pointer (some ⟨g, 0, none⟩)]] w fun e w' => e = .returned (.bool (!(L.all fun f => f.may m))) ∧ Kp No w w' := by
  have pi := indexFld_any A c B L g m sv w hv hl hm hs
  clear hv hm hs
  go_enter Tryz.func27, Tryz.ntmps27
  go_wp2_with fail
  refine pi.mono ?_
  rintro e w' ⟨⟨r, rfl, hr⟩, k2⟩
  have HR := Lib.hid hr; have HK := Lib.hid k2; clear hr k2 pi
  go_wp2
  go_ret
  exact ⟨ret_bool rfl HR.out, HK.out⟩
end Go.Proofs.YtbnpdghfbiacaaaGreat
