/- The document's Valid by contract. No condition beyond what each theorem states. -/
import Derived.Test.YtbnpdghfbiacaaaGreatB26
import Derived.Test.YtbnpdghfbiacaaaGreatB31
import Derived.Test.YtbnpdghfbiacaaaGreatB32
import Derived.Test.YtbnpdghfbiacaaaGreatB18
import Derived.Deep.RegionHeld3
namespace Go.Proofs.YtbnpdghfbiacaaaGreat
open Go Go.RowKit Go.PlainAid

set_option maxRecDepth 100000 in
set_option maxHeartbeats 8000000 in
theorem rvalid_unused (m : Msg) (A : Option Addr) (c : Nat) (W : World) (hs : ArgInts W (.slice A m.stamp.length c) m.stamp) (hl : m.stamp.length ≤ maxLen) (h1 : usedS m ≠ m) :
    Calls Tryz.prog 12 #[.agg (mcells m (.slice A m.stamp.length c)).toArray] W fun e w' => e = .returned (.bool (decide (mayS vpP m))) ∧ Kp No W w' := by
  have HX := Lib.hid (show decide (mayS vpP m) = false by rw [decide_eq_false_iff_not]; exact fun h => h1 h.1)
  have kA : Kp No W (W.alloc (.cells (mcells m (.slice A m.stamp.length c)).toArray 28)) := (Kp.refl No W).alloc _
  have hB : Bk (W.alloc (.cells (mcells m (.slice A m.stamp.length c)).toArray 28)) W.heap.size 28 (mcells m (.slice A m.stamp.length c)) := Bk.new' rfl rfl
  obtain ⟨A2, c2, hu, ha2, hl2⟩ := usedV_arg (hs.no kA)
  generalize hw0 : W.alloc (.cells (mcells m (.slice A m.stamp.length c)).toArray 28) = w0 at kA hB ha2
  have qu : ∀ W2, Kp No w0 W2 → Calls Tryz.prog 30 #[.agg #[.int .i64 m.kind, .int .i64 m.from_, .int .i64 m.dest, .int .i64 m.boot, .int .i64 m.seq, .int .i64 m.low, .int .i64 m.verb, .string ⟨m.path.toArray⟩, .int .i64 m.mode, .int .i64 m.term, .int .i64 m.id, .bool m.fresh, .int .i64 m.code, .slice A m.stamp.length c, .int .i64 m.origin, .int .i64 m.number]] W2 fun e w' => e = .returned (.agg (mcells (usedS m) (.slice A2 (usedS m).stamp.length c2)).toArray) ∧ Kp No w0 w' := fun W2 k => by
    have h := used_any m A c W2
    rw [hu] at h
    exact h.mono fun e w' h => ⟨h.1, k.trans h.2⟩
  have qs : ∀ W2, Kp No w0 W2 → Calls Tryz.prog 15 #[.agg (mcells (usedS m) (.slice A2 (usedS m).stamp.length c2)).toArray, .agg #[.int .i64 m.kind, .int .i64 m.from_, .int .i64 m.dest, .int .i64 m.boot, .int .i64 m.seq, .int .i64 m.low, .int .i64 m.verb, .string ⟨m.path.toArray⟩, .int .i64 m.mode, .int .i64 m.term, .int .i64 m.id, .bool m.fresh, .int .i64 m.code, .slice A m.stamp.length c, .int .i64 m.origin, .int .i64 m.number]] W2 fun e w' => e = .returned (.bool (decide (usedS m = m))) ∧ Kp No w0 w' := fun W2 k => by
    have h := rsame_any (usedS m) m A2 A c2 c W2 (ha2.no k) ((hs.no kA).no k) (Nat.le_trans hl2 hl) hl
    exact h.mono fun e w' h => ⟨h.1, k.trans h.2⟩
  have sk : ∀ W2, Kp No w0 W2 → Bk W2 W.heap.size 28 (mcells m (.slice A m.stamp.length c)) := fun W2 k => hB.no k
  rw [decide_eq_false h1] at qs
  clear h1
  have HKA := Lib.hid kA; have HBA := Lib.hid hB
  clear hs hu ha2 hB kA
  unfold mcells at hw0 ⊢
  go_enter Tryz.func12, Tryz.ntmps12
  go_upto_region 1 with (fail)
  try rw [hw0]
  clear hw0
  obtain ⟨z0, z1, z2, z3, z4, z5, z6, z7, z8, z9, z10, z11, z12, z13, z14, z15⟩ := cells16 HBA.out
  first
    | (go_region_with (first | (go_at_call 30; (with_reducible refine (qu _ (by with_reducible repeat (first | assumption | exact Kp.refl _ _ | refine Kp.drew ?_ | refine Kp.drewN ?_ _))).mono ?_); rintro e w2 ⟨rfl, k2⟩; clear z0 z1 z2 z3 z4 z5 z6 z7 z8 z9 z10 z11 z12 z13 z14 z15; obtain ⟨z0, z1, z2, z3, z4, z5, z6, z7, z8, z9, z10, z11, z12, z13, z14, z15⟩ := cells16 (sk _ k2)) | (go_at_call 15; (with_reducible refine (qs _ (by with_reducible repeat (first | assumption | exact Kp.refl _ _ | refine Kp.drew ?_ | refine Kp.drewN ?_ _))).mono ?_); rintro e w3 ⟨rfl, k3⟩; clear z0 z1 z2 z3 z4 z5 z6 z7 z8 z9 z10 z11 z12 z13 z14 z15)))
    | fail "region"
  all_goals
    have HK := Lib.hid (HKA.out.trans k3)
    go_wp2
    go_ret
    exact ⟨ret_bool rfl HX.out.symm, HK.out⟩
end Go.Proofs.YtbnpdghfbiacaaaGreat
