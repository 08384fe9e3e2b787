/- Several texts of this claim in one. No condition beyond what each theorem states. -/
import Derived.Test.YtbnpdghfbiacaaaGreatB21
import Derived.Test.YtbnpdghfbiacaaaGreatB04
import Derived.Test.YtbnpdghfbiacaaaGreatB22
import Derived.Test.YtbnpdghfbiacaaaGreatB23
import Derived.Test.YtbnpdghfbiacaaaGreatB24
import Derived.Test.YtbnpdghfbiacaaaGreatB25
/- The document's Same by contract. No condition beyond what each theorem states. -/
namespace Go.Proofs.YtbnpdghfbiacaaaGreat
open Go Go.RowKit Go.PlainAid

set_option maxRecDepth 100000 in
set_option maxHeartbeats 4000000 in
theorem rsame_code (x0 : Int) (x1 : Int) (x2 : Int) (x3 : Int) (x4 : Int) (x5 : Int) (x6 : Int) (x7 : List UInt8) (x8 : Int) (x9 : Int) (x10 : Int) (x11 : Bool) (x12 : Int) (x13 : List Int) (x14 : Int) (x15 : Int) (y12 : Int) (y14 : Int) (y15 : Int) (hd : x12 ≠ y12) (A1 A2 : Option Addr) (c1 c2 : Nat) (W : World) (ha : ArgInts W (.slice A1 x13.length c1) x13) (hb : ArgInts W (.slice A2 x13.length c2) x13) (hl : x13.length ≤ maxLen) :
    Calls Tryz.prog 15 #[.agg (mcells (⟨x0, x1, x2, x3, x4, x5, x6, x7, x8, x9, x10, x11, x12, x13, x14, x15⟩ : Msg) (.slice A1 x13.length c1)).toArray, .agg (mcells (⟨x0, x1, x2, x3, x4, x5, x6, x7, x8, x9, x10, x11, y12, x13, y14, y15⟩ : Msg) (.slice A2 x13.length c2)).toArray] W fun e w' => e = .returned (.bool false) ∧ Kp No W w' := by
  have ps := fun W2 (k : Kp No W W2) => sameInts_any _ _ x13 x13 W2 (ha.no k) (hb.no k) hl hl
  rw [decide_eq_true (rfl : x13 = x13)] at ps
  clear ha hb
  have hd1 : (x12 == y12) = false := by rw [beq_eq_false_iff_ne]; exact hd
  clear hd
  simp only [mcells]
  go_enter Tryz.func15, Tryz.ntmps15
  go_wp2_with fail
  refine (ps _ (((Kp.refl No W).alloc _).alloc _)).mono ?_
  rintro e w1 ⟨rfl, k1⟩
  have B1 : Bk w1 W.heap.size 28 (mcells (⟨x0, x1, x2, x3, x4, x5, x6, x7, x8, x9, x10, x11, x12, x13, x14, x15⟩ : Msg) (.slice A1 x13.length c1)) := ((Bk.new' rfl rfl : Bk _ _ _ (mcells (⟨x0, x1, x2, x3, x4, x5, x6, x7, x8, x9, x10, x11, x12, x13, x14, x15⟩ : Msg) (.slice A1 x13.length c1))).alloc _).no k1
  have B2 : Bk w1 (W.heap.size + 1) 28 (mcells (⟨x0, x1, x2, x3, x4, x5, x6, x7, x8, x9, x10, x11, y12, x13, y14, y15⟩ : Msg) (.slice A2 x13.length c2)) := (Bk.new' (by simp) rfl : Bk _ _ _ (mcells (⟨x0, x1, x2, x3, x4, x5, x6, x7, x8, x9, x10, x11, y12, x13, y14, y15⟩ : Msg) (.slice A2 x13.length c2))).no k1
  have z0 : w1.cell? ⟨W.heap.size, 0, none⟩ = some (.int .i64 x0) := B1.cell 0
  have u0 : w1.cell? ⟨W.heap.size + 1, 0, none⟩ = some (.int .i64 x0) := B2.cell 0
  have z1 : w1.cell? ⟨W.heap.size, 1, none⟩ = some (.int .i64 x1) := B1.cell 1
  have u1 : w1.cell? ⟨W.heap.size + 1, 1, none⟩ = some (.int .i64 x1) := B2.cell 1
  have z2 : w1.cell? ⟨W.heap.size, 2, none⟩ = some (.int .i64 x2) := B1.cell 2
  have u2 : w1.cell? ⟨W.heap.size + 1, 2, none⟩ = some (.int .i64 x2) := B2.cell 2
  have z3 : w1.cell? ⟨W.heap.size, 3, none⟩ = some (.int .i64 x3) := B1.cell 3
  have u3 : w1.cell? ⟨W.heap.size + 1, 3, none⟩ = some (.int .i64 x3) := B2.cell 3
  have z4 : w1.cell? ⟨W.heap.size, 4, none⟩ = some (.int .i64 x4) := B1.cell 4
  have u4 : w1.cell? ⟨W.heap.size + 1, 4, none⟩ = some (.int .i64 x4) := B2.cell 4
  have z5 : w1.cell? ⟨W.heap.size, 5, none⟩ = some (.int .i64 x5) := B1.cell 5
  have u5 : w1.cell? ⟨W.heap.size + 1, 5, none⟩ = some (.int .i64 x5) := B2.cell 5
  have z6 : w1.cell? ⟨W.heap.size, 6, none⟩ = some (.int .i64 x6) := B1.cell 6
  have u6 : w1.cell? ⟨W.heap.size + 1, 6, none⟩ = some (.int .i64 x6) := B2.cell 6
  have z7 : w1.cell? ⟨W.heap.size, 7, none⟩ = some (.string ⟨x7.toArray⟩) := B1.cell 7
  have u7 : w1.cell? ⟨W.heap.size + 1, 7, none⟩ = some (.string ⟨x7.toArray⟩) := B2.cell 7
  have z8 : w1.cell? ⟨W.heap.size, 8, none⟩ = some (.int .i64 x8) := B1.cell 8
  have u8 : w1.cell? ⟨W.heap.size + 1, 8, none⟩ = some (.int .i64 x8) := B2.cell 8
  have z9 : w1.cell? ⟨W.heap.size, 9, none⟩ = some (.int .i64 x9) := B1.cell 9
  have u9 : w1.cell? ⟨W.heap.size + 1, 9, none⟩ = some (.int .i64 x9) := B2.cell 9
  have z10 : w1.cell? ⟨W.heap.size, 10, none⟩ = some (.int .i64 x10) := B1.cell 10
  have u10 : w1.cell? ⟨W.heap.size + 1, 10, none⟩ = some (.int .i64 x10) := B2.cell 10
  have z11 : w1.cell? ⟨W.heap.size, 11, none⟩ = some (.bool x11) := B1.cell 11
  have u11 : w1.cell? ⟨W.heap.size + 1, 11, none⟩ = some (.bool x11) := B2.cell 11
  have z12 : w1.cell? ⟨W.heap.size, 12, none⟩ = some (.int .i64 x12) := B1.cell 12
  have u12 : w1.cell? ⟨W.heap.size + 1, 12, none⟩ = some (.int .i64 y12) := B2.cell 12
  have z13 : w1.cell? ⟨W.heap.size, 13, none⟩ = some (.slice A1 x13.length c1) := B1.cell 13
  have u13 : w1.cell? ⟨W.heap.size + 1, 13, none⟩ = some (.slice A2 x13.length c2) := B2.cell 13
  have z14 : w1.cell? ⟨W.heap.size, 14, none⟩ = some (.int .i64 x14) := B1.cell 14
  have u14 : w1.cell? ⟨W.heap.size + 1, 14, none⟩ = some (.int .i64 y14) := B2.cell 14
  have z15 : w1.cell? ⟨W.heap.size, 15, none⟩ = some (.int .i64 x15) := B1.cell 15
  have u15 : w1.cell? ⟨W.heap.size + 1, 15, none⟩ = some (.int .i64 y15) := B2.cell 15
  have K := Lib.hid ((((Kp.refl No W).alloc _).alloc _).trans k1)
  clear B1 B2 k1 ps
  go_wp2
  go_ret
  exact ⟨rfl, K.out⟩
set_option maxRecDepth 100000 in
set_option maxHeartbeats 4000000 in
theorem rsame_origin (x0 : Int) (x1 : Int) (x2 : Int) (x3 : Int) (x4 : Int) (x5 : Int) (x6 : Int) (x7 : List UInt8) (x8 : Int) (x9 : Int) (x10 : Int) (x11 : Bool) (x12 : Int) (x13 : List Int) (x14 : Int) (x15 : Int) (y14 : Int) (y15 : Int) (hd : x14 ≠ y14) (A1 A2 : Option Addr) (c1 c2 : Nat) (W : World) (ha : ArgInts W (.slice A1 x13.length c1) x13) (hb : ArgInts W (.slice A2 x13.length c2) x13) (hl : x13.length ≤ maxLen) :
    Calls Tryz.prog 15 #[.agg (mcells (⟨x0, x1, x2, x3, x4, x5, x6, x7, x8, x9, x10, x11, x12, x13, x14, x15⟩ : Msg) (.slice A1 x13.length c1)).toArray, .agg (mcells (⟨x0, x1, x2, x3, x4, x5, x6, x7, x8, x9, x10, x11, x12, x13, y14, y15⟩ : Msg) (.slice A2 x13.length c2)).toArray] W fun e w' => e = .returned (.bool false) ∧ Kp No W w' := by
  have ps := fun W2 (k : Kp No W W2) => sameInts_any _ _ x13 x13 W2 (ha.no k) (hb.no k) hl hl
  rw [decide_eq_true (rfl : x13 = x13)] at ps
  clear ha hb
  have hd1 : (x14 == y14) = false := by rw [beq_eq_false_iff_ne]; exact hd
  clear hd
  simp only [mcells]
  go_enter Tryz.func15, Tryz.ntmps15
  go_wp2_with fail
  refine (ps _ (((Kp.refl No W).alloc _).alloc _)).mono ?_
  rintro e w1 ⟨rfl, k1⟩
  have B1 : Bk w1 W.heap.size 28 (mcells (⟨x0, x1, x2, x3, x4, x5, x6, x7, x8, x9, x10, x11, x12, x13, x14, x15⟩ : Msg) (.slice A1 x13.length c1)) := ((Bk.new' rfl rfl : Bk _ _ _ (mcells (⟨x0, x1, x2, x3, x4, x5, x6, x7, x8, x9, x10, x11, x12, x13, x14, x15⟩ : Msg) (.slice A1 x13.length c1))).alloc _).no k1
  have B2 : Bk w1 (W.heap.size + 1) 28 (mcells (⟨x0, x1, x2, x3, x4, x5, x6, x7, x8, x9, x10, x11, x12, x13, y14, y15⟩ : Msg) (.slice A2 x13.length c2)) := (Bk.new' (by simp) rfl : Bk _ _ _ (mcells (⟨x0, x1, x2, x3, x4, x5, x6, x7, x8, x9, x10, x11, x12, x13, y14, y15⟩ : Msg) (.slice A2 x13.length c2))).no k1
  have z0 : w1.cell? ⟨W.heap.size, 0, none⟩ = some (.int .i64 x0) := B1.cell 0
  have u0 : w1.cell? ⟨W.heap.size + 1, 0, none⟩ = some (.int .i64 x0) := B2.cell 0
  have z1 : w1.cell? ⟨W.heap.size, 1, none⟩ = some (.int .i64 x1) := B1.cell 1
  have u1 : w1.cell? ⟨W.heap.size + 1, 1, none⟩ = some (.int .i64 x1) := B2.cell 1
  have z2 : w1.cell? ⟨W.heap.size, 2, none⟩ = some (.int .i64 x2) := B1.cell 2
  have u2 : w1.cell? ⟨W.heap.size + 1, 2, none⟩ = some (.int .i64 x2) := B2.cell 2
  have z3 : w1.cell? ⟨W.heap.size, 3, none⟩ = some (.int .i64 x3) := B1.cell 3
  have u3 : w1.cell? ⟨W.heap.size + 1, 3, none⟩ = some (.int .i64 x3) := B2.cell 3
  have z4 : w1.cell? ⟨W.heap.size, 4, none⟩ = some (.int .i64 x4) := B1.cell 4
  have u4 : w1.cell? ⟨W.heap.size + 1, 4, none⟩ = some (.int .i64 x4) := B2.cell 4
  have z5 : w1.cell? ⟨W.heap.size, 5, none⟩ = some (.int .i64 x5) := B1.cell 5
  have u5 : w1.cell? ⟨W.heap.size + 1, 5, none⟩ = some (.int .i64 x5) := B2.cell 5
  have z6 : w1.cell? ⟨W.heap.size, 6, none⟩ = some (.int .i64 x6) := B1.cell 6
  have u6 : w1.cell? ⟨W.heap.size + 1, 6, none⟩ = some (.int .i64 x6) := B2.cell 6
  have z7 : w1.cell? ⟨W.heap.size, 7, none⟩ = some (.string ⟨x7.toArray⟩) := B1.cell 7
  have u7 : w1.cell? ⟨W.heap.size + 1, 7, none⟩ = some (.string ⟨x7.toArray⟩) := B2.cell 7
  have z8 : w1.cell? ⟨W.heap.size, 8, none⟩ = some (.int .i64 x8) := B1.cell 8
  have u8 : w1.cell? ⟨W.heap.size + 1, 8, none⟩ = some (.int .i64 x8) := B2.cell 8
  have z9 : w1.cell? ⟨W.heap.size, 9, none⟩ = some (.int .i64 x9) := B1.cell 9
  have u9 : w1.cell? ⟨W.heap.size + 1, 9, none⟩ = some (.int .i64 x9) := B2.cell 9
  have z10 : w1.cell? ⟨W.heap.size, 10, none⟩ = some (.int .i64 x10) := B1.cell 10
  have u10 : w1.cell? ⟨W.heap.size + 1, 10, none⟩ = some (.int .i64 x10) := B2.cell 10
  have z11 : w1.cell? ⟨W.heap.size, 11, none⟩ = some (.bool x11) := B1.cell 11
  have u11 : w1.cell? ⟨W.heap.size + 1, 11, none⟩ = some (.bool x11) := B2.cell 11
  have z12 : w1.cell? ⟨W.heap.size, 12, none⟩ = some (.int .i64 x12) := B1.cell 12
  have u12 : w1.cell? ⟨W.heap.size + 1, 12, none⟩ = some (.int .i64 x12) := B2.cell 12
  have z13 : w1.cell? ⟨W.heap.size, 13, none⟩ = some (.slice A1 x13.length c1) := B1.cell 13
  have u13 : w1.cell? ⟨W.heap.size + 1, 13, none⟩ = some (.slice A2 x13.length c2) := B2.cell 13
  have z14 : w1.cell? ⟨W.heap.size, 14, none⟩ = some (.int .i64 x14) := B1.cell 14
  have u14 : w1.cell? ⟨W.heap.size + 1, 14, none⟩ = some (.int .i64 y14) := B2.cell 14
  have z15 : w1.cell? ⟨W.heap.size, 15, none⟩ = some (.int .i64 x15) := B1.cell 15
  have u15 : w1.cell? ⟨W.heap.size + 1, 15, none⟩ = some (.int .i64 y15) := B2.cell 15
  have K := Lib.hid ((((Kp.refl No W).alloc _).alloc _).trans k1)
  clear B1 B2 k1 ps
  go_wp2
  go_ret
  exact ⟨rfl, K.out⟩
set_option maxRecDepth 100000 in
set_option maxHeartbeats 4000000 in
theorem rsame_number (x0 : Int) (x1 : Int) (x2 : Int) (x3 : Int) (x4 : Int) (x5 : Int) (x6 : Int) (x7 : List UInt8) (x8 : Int) (x9 : Int) (x10 : Int) (x11 : Bool) (x12 : Int) (x13 : List Int) (x14 : Int) (x15 : Int) (y15 : Int) (hd : x15 ≠ y15) (A1 A2 : Option Addr) (c1 c2 : Nat) (W : World) (ha : ArgInts W (.slice A1 x13.length c1) x13) (hb : ArgInts W (.slice A2 x13.length c2) x13) (hl : x13.length ≤ maxLen) :
    Calls Tryz.prog 15 #[.agg (mcells (⟨x0, x1, x2, x3, x4, x5, x6, x7, x8, x9, x10, x11, x12, x13, x14, x15⟩ : Msg) (.slice A1 x13.length c1)).toArray, .agg (mcells (⟨x0, x1, x2, x3, x4, x5, x6, x7, x8, x9, x10, x11, x12, x13, x14, y15⟩ : Msg) (.slice A2 x13.length c2)).toArray] W fun e w' => e = .returned (.bool false) ∧ Kp No W w' := by
  have ps := fun W2 (k : Kp No W W2) => sameInts_any _ _ x13 x13 W2 (ha.no k) (hb.no k) hl hl
  rw [decide_eq_true (rfl : x13 = x13)] at ps
  clear ha hb
  have hd1 : (x15 == y15) = false := by rw [beq_eq_false_iff_ne]; exact hd
  clear hd
  simp only [mcells]
  go_enter Tryz.func15, Tryz.ntmps15
  go_wp2_with fail
  refine (ps _ (((Kp.refl No W).alloc _).alloc _)).mono ?_
  rintro e w1 ⟨rfl, k1⟩
  have B1 : Bk w1 W.heap.size 28 (mcells (⟨x0, x1, x2, x3, x4, x5, x6, x7, x8, x9, x10, x11, x12, x13, x14, x15⟩ : Msg) (.slice A1 x13.length c1)) := ((Bk.new' rfl rfl : Bk _ _ _ (mcells (⟨x0, x1, x2, x3, x4, x5, x6, x7, x8, x9, x10, x11, x12, x13, x14, x15⟩ : Msg) (.slice A1 x13.length c1))).alloc _).no k1
  have B2 : Bk w1 (W.heap.size + 1) 28 (mcells (⟨x0, x1, x2, x3, x4, x5, x6, x7, x8, x9, x10, x11, x12, x13, x14, y15⟩ : Msg) (.slice A2 x13.length c2)) := (Bk.new' (by simp) rfl : Bk _ _ _ (mcells (⟨x0, x1, x2, x3, x4, x5, x6, x7, x8, x9, x10, x11, x12, x13, x14, y15⟩ : Msg) (.slice A2 x13.length c2))).no k1
  have z0 : w1.cell? ⟨W.heap.size, 0, none⟩ = some (.int .i64 x0) := B1.cell 0
  have u0 : w1.cell? ⟨W.heap.size + 1, 0, none⟩ = some (.int .i64 x0) := B2.cell 0
  have z1 : w1.cell? ⟨W.heap.size, 1, none⟩ = some (.int .i64 x1) := B1.cell 1
  have u1 : w1.cell? ⟨W.heap.size + 1, 1, none⟩ = some (.int .i64 x1) := B2.cell 1
  have z2 : w1.cell? ⟨W.heap.size, 2, none⟩ = some (.int .i64 x2) := B1.cell 2
  have u2 : w1.cell? ⟨W.heap.size + 1, 2, none⟩ = some (.int .i64 x2) := B2.cell 2
  have z3 : w1.cell? ⟨W.heap.size, 3, none⟩ = some (.int .i64 x3) := B1.cell 3
  have u3 : w1.cell? ⟨W.heap.size + 1, 3, none⟩ = some (.int .i64 x3) := B2.cell 3
  have z4 : w1.cell? ⟨W.heap.size, 4, none⟩ = some (.int .i64 x4) := B1.cell 4
  have u4 : w1.cell? ⟨W.heap.size + 1, 4, none⟩ = some (.int .i64 x4) := B2.cell 4
  have z5 : w1.cell? ⟨W.heap.size, 5, none⟩ = some (.int .i64 x5) := B1.cell 5
  have u5 : w1.cell? ⟨W.heap.size + 1, 5, none⟩ = some (.int .i64 x5) := B2.cell 5
  have z6 : w1.cell? ⟨W.heap.size, 6, none⟩ = some (.int .i64 x6) := B1.cell 6
  have u6 : w1.cell? ⟨W.heap.size + 1, 6, none⟩ = some (.int .i64 x6) := B2.cell 6
  have z7 : w1.cell? ⟨W.heap.size, 7, none⟩ = some (.string ⟨x7.toArray⟩) := B1.cell 7
  have u7 : w1.cell? ⟨W.heap.size + 1, 7, none⟩ = some (.string ⟨x7.toArray⟩) := B2.cell 7
  have z8 : w1.cell? ⟨W.heap.size, 8, none⟩ = some (.int .i64 x8) := B1.cell 8
  have u8 : w1.cell? ⟨W.heap.size + 1, 8, none⟩ = some (.int .i64 x8) := B2.cell 8
  have z9 : w1.cell? ⟨W.heap.size, 9, none⟩ = some (.int .i64 x9) := B1.cell 9
  have u9 : w1.cell? ⟨W.heap.size + 1, 9, none⟩ = some (.int .i64 x9) := B2.cell 9
  have z10 : w1.cell? ⟨W.heap.size, 10, none⟩ = some (.int .i64 x10) := B1.cell 10
  have u10 : w1.cell? ⟨W.heap.size + 1, 10, none⟩ = some (.int .i64 x10) := B2.cell 10
  have z11 : w1.cell? ⟨W.heap.size, 11, none⟩ = some (.bool x11) := B1.cell 11
  have u11 : w1.cell? ⟨W.heap.size + 1, 11, none⟩ = some (.bool x11) := B2.cell 11
  have z12 : w1.cell? ⟨W.heap.size, 12, none⟩ = some (.int .i64 x12) := B1.cell 12
  have u12 : w1.cell? ⟨W.heap.size + 1, 12, none⟩ = some (.int .i64 x12) := B2.cell 12
  have z13 : w1.cell? ⟨W.heap.size, 13, none⟩ = some (.slice A1 x13.length c1) := B1.cell 13
  have u13 : w1.cell? ⟨W.heap.size + 1, 13, none⟩ = some (.slice A2 x13.length c2) := B2.cell 13
  have z14 : w1.cell? ⟨W.heap.size, 14, none⟩ = some (.int .i64 x14) := B1.cell 14
  have u14 : w1.cell? ⟨W.heap.size + 1, 14, none⟩ = some (.int .i64 x14) := B2.cell 14
  have z15 : w1.cell? ⟨W.heap.size, 15, none⟩ = some (.int .i64 x15) := B1.cell 15
  have u15 : w1.cell? ⟨W.heap.size + 1, 15, none⟩ = some (.int .i64 y15) := B2.cell 15
  have K := Lib.hid ((((Kp.refl No W).alloc _).alloc _).trans k1)
  clear B1 B2 k1 ps
  go_wp2
  go_ret
  exact ⟨rfl, K.out⟩
end Go.Proofs.YtbnpdghfbiacaaaGreat

/- The document's Same by contract. No condition beyond what each theorem states. -/
namespace Go.Proofs.YtbnpdghfbiacaaaGreat
open Go Go.RowKit Go.PlainAid

set_option maxRecDepth 100000 in
set_option maxHeartbeats 4000000 in
theorem rsame_stamp (x0 : Int) (x1 : Int) (x2 : Int) (x3 : Int) (x4 : Int) (x5 : Int) (x6 : Int) (x7 : List UInt8) (x8 : Int) (x9 : Int) (x10 : Int) (x11 : Bool) (x12 : Int) (x13 : List Int) (x14 : Int) (x15 : Int) (y0 : Int) (y1 : Int) (y2 : Int) (y3 : Int) (y4 : Int) (y5 : Int) (y6 : Int) (y7 : List UInt8) (y8 : Int) (y9 : Int) (y10 : Int) (y11 : Bool) (y12 : Int) (y13 : List Int) (y14 : Int) (y15 : Int) (hd : x13 ≠ y13) (A1 A2 : Option Addr) (c1 c2 : Nat) (W : World) (ha : ArgInts W (.slice A1 x13.length c1) x13) (hb : ArgInts W (.slice A2 y13.length c2) y13) (hl1 : x13.length ≤ maxLen) (hl2 : y13.length ≤ maxLen) :
    Calls Tryz.prog 15 #[.agg (mcells (⟨x0, x1, x2, x3, x4, x5, x6, x7, x8, x9, x10, x11, x12, x13, x14, x15⟩ : Msg) (.slice A1 x13.length c1)).toArray, .agg (mcells (⟨y0, y1, y2, y3, y4, y5, y6, y7, y8, y9, y10, y11, y12, y13, y14, y15⟩ : Msg) (.slice A2 y13.length c2)).toArray] W fun e w' => e = .returned (.bool false) ∧ Kp No W w' := by
  have ps := fun W2 (k : Kp No W W2) => sameInts_any _ _ x13 y13 W2 (ha.no k) (hb.no k) hl1 hl2
  rw [decide_eq_false hd] at ps
  clear ha hb hd
  simp only [mcells]
  go_enter Tryz.func15, Tryz.ntmps15
  go_wp2_with fail
  refine (ps _ (((Kp.refl No W).alloc _).alloc _)).mono ?_
  rintro e w1 ⟨rfl, k1⟩
  have K := Lib.hid ((((Kp.refl No W).alloc _).alloc _).trans k1)
  clear k1 ps
  go_wp2
  go_ret
  exact ⟨rfl, K.out⟩
set_option maxRecDepth 100000 in
set_option maxHeartbeats 4000000 in
theorem rsame_any (a b : Msg) (A1 A2 : Option Addr) (c1 c2 : Nat) (W : World) (ha : ArgInts W (.slice A1 a.stamp.length c1) a.stamp) (hb : ArgInts W (.slice A2 b.stamp.length c2) b.stamp) (hl1 : a.stamp.length ≤ maxLen) (hl2 : b.stamp.length ≤ maxLen) :
    Calls Tryz.prog 15 #[.agg (mcells a (.slice A1 a.stamp.length c1)).toArray, .agg (mcells b (.slice A2 b.stamp.length c2)).toArray] W fun e w' => e = .returned (.bool (decide (a = b))) ∧ Kp No W w' := by
  obtain ⟨x0, x1, x2, x3, x4, x5, x6, x7, x8, x9, x10, x11, x12, x13, x14, x15⟩ := a
  obtain ⟨y0, y1, y2, y3, y4, y5, y6, y7, y8, y9, y10, y11, y12, y13, y14, y15⟩ := b
  simp only at ha hb hl1 hl2 ⊢
  by_cases hs : x13 = y13
  case neg => exact (rsame_stamp x0 x1 x2 x3 x4 x5 x6 x7 x8 x9 x10 x11 x12 x13 x14 x15 y0 y1 y2 y3 y4 y5 y6 y7 y8 y9 y10 y11 y12 y13 y14 y15 hs A1 A2 c1 c2 W ha hb hl1 hl2).mono fun e w h => ⟨by rw [decide_eq_false (fun q => hs (congrArg Msg.stamp q))]; exact h.1, h.2⟩
  subst hs
  by_cases h0 : x0 = y0
  case neg => exact (rsame_kind x0 x1 x2 x3 x4 x5 x6 x7 x8 x9 x10 x11 x12 x13 x14 x15 y0 y1 y2 y3 y4 y5 y6 y7 y8 y9 y10 y11 y12 y14 y15 h0 A1 A2 c1 c2 W ha hb hl1).mono fun e w h => ⟨by rw [decide_eq_false (fun q => h0 (congrArg Msg.kind q))]; exact h.1, h.2⟩
  subst h0
  by_cases h1 : x1 = y1
  case neg => exact (rsame_from_ x0 x1 x2 x3 x4 x5 x6 x7 x8 x9 x10 x11 x12 x13 x14 x15 y1 y2 y3 y4 y5 y6 y7 y8 y9 y10 y11 y12 y14 y15 h1 A1 A2 c1 c2 W ha hb hl1).mono fun e w h => ⟨by rw [decide_eq_false (fun q => h1 (congrArg Msg.from_ q))]; exact h.1, h.2⟩
  subst h1
  by_cases h2 : x2 = y2
  case neg => exact (rsame_to x0 x1 x2 x3 x4 x5 x6 x7 x8 x9 x10 x11 x12 x13 x14 x15 y2 y3 y4 y5 y6 y7 y8 y9 y10 y11 y12 y14 y15 h2 A1 A2 c1 c2 W ha hb hl1).mono fun e w h => ⟨by rw [decide_eq_false (fun q => h2 (congrArg Msg.dest q))]; exact h.1, h.2⟩
  subst h2
  by_cases h3 : x3 = y3
  case neg => exact (rsame_boot x0 x1 x2 x3 x4 x5 x6 x7 x8 x9 x10 x11 x12 x13 x14 x15 y3 y4 y5 y6 y7 y8 y9 y10 y11 y12 y14 y15 h3 A1 A2 c1 c2 W ha hb hl1).mono fun e w h => ⟨by rw [decide_eq_false (fun q => h3 (congrArg Msg.boot q))]; exact h.1, h.2⟩
  subst h3
  by_cases h4 : x4 = y4
  case neg => exact (rsame_seq x0 x1 x2 x3 x4 x5 x6 x7 x8 x9 x10 x11 x12 x13 x14 x15 y4 y5 y6 y7 y8 y9 y10 y11 y12 y14 y15 h4 A1 A2 c1 c2 W ha hb hl1).mono fun e w h => ⟨by rw [decide_eq_false (fun q => h4 (congrArg Msg.seq q))]; exact h.1, h.2⟩
  subst h4
  by_cases h5 : x5 = y5
  case neg => exact (rsame_low x0 x1 x2 x3 x4 x5 x6 x7 x8 x9 x10 x11 x12 x13 x14 x15 y5 y6 y7 y8 y9 y10 y11 y12 y14 y15 h5 A1 A2 c1 c2 W ha hb hl1).mono fun e w h => ⟨by rw [decide_eq_false (fun q => h5 (congrArg Msg.low q))]; exact h.1, h.2⟩
  subst h5
  by_cases h6 : x6 = y6
  case neg => exact (rsame_verb x0 x1 x2 x3 x4 x5 x6 x7 x8 x9 x10 x11 x12 x13 x14 x15 y6 y7 y8 y9 y10 y11 y12 y14 y15 h6 A1 A2 c1 c2 W ha hb hl1).mono fun e w h => ⟨by rw [decide_eq_false (fun q => h6 (congrArg Msg.verb q))]; exact h.1, h.2⟩
  subst h6
  by_cases h7 : x7 = y7
  case neg => exact (rsame_path x0 x1 x2 x3 x4 x5 x6 x7 x8 x9 x10 x11 x12 x13 x14 x15 y7 y8 y9 y10 y11 y12 y14 y15 h7 A1 A2 c1 c2 W ha hb hl1).mono fun e w h => ⟨by rw [decide_eq_false (fun q => h7 (congrArg Msg.path q))]; exact h.1, h.2⟩
  subst h7
  by_cases h8 : x8 = y8
  case neg => exact (rsame_mode x0 x1 x2 x3 x4 x5 x6 x7 x8 x9 x10 x11 x12 x13 x14 x15 y8 y9 y10 y11 y12 y14 y15 h8 A1 A2 c1 c2 W ha hb hl1).mono fun e w h => ⟨by rw [decide_eq_false (fun q => h8 (congrArg Msg.mode q))]; exact h.1, h.2⟩
  subst h8
  by_cases h9 : x9 = y9
  case neg => exact (rsame_term x0 x1 x2 x3 x4 x5 x6 x7 x8 x9 x10 x11 x12 x13 x14 x15 y9 y10 y11 y12 y14 y15 h9 A1 A2 c1 c2 W ha hb hl1).mono fun e w h => ⟨by rw [decide_eq_false (fun q => h9 (congrArg Msg.term q))]; exact h.1, h.2⟩
  subst h9
  by_cases h10 : x10 = y10
  case neg => exact (rsame_id x0 x1 x2 x3 x4 x5 x6 x7 x8 x9 x10 x11 x12 x13 x14 x15 y10 y11 y12 y14 y15 h10 A1 A2 c1 c2 W ha hb hl1).mono fun e w h => ⟨by rw [decide_eq_false (fun q => h10 (congrArg Msg.id q))]; exact h.1, h.2⟩
  subst h10
  by_cases h11 : x11 = y11
  case neg => exact (rsame_fresh x0 x1 x2 x3 x4 x5 x6 x7 x8 x9 x10 x11 x12 x13 x14 x15 y11 y12 y14 y15 h11 A1 A2 c1 c2 W ha hb hl1).mono fun e w h => ⟨by rw [decide_eq_false (fun q => h11 (congrArg Msg.fresh q))]; exact h.1, h.2⟩
  subst h11
  by_cases h12 : x12 = y12
  case neg => exact (rsame_code x0 x1 x2 x3 x4 x5 x6 x7 x8 x9 x10 x11 x12 x13 x14 x15 y12 y14 y15 h12 A1 A2 c1 c2 W ha hb hl1).mono fun e w h => ⟨by rw [decide_eq_false (fun q => h12 (congrArg Msg.code q))]; exact h.1, h.2⟩
  subst h12
  by_cases h13 : x14 = y14
  case neg => exact (rsame_origin x0 x1 x2 x3 x4 x5 x6 x7 x8 x9 x10 x11 x12 x13 x14 x15 y14 y15 h13 A1 A2 c1 c2 W ha hb hl1).mono fun e w h => ⟨by rw [decide_eq_false (fun q => h13 (congrArg Msg.origin q))]; exact h.1, h.2⟩
  subst h13
  by_cases h14 : x15 = y15
  case neg => exact (rsame_number x0 x1 x2 x3 x4 x5 x6 x7 x8 x9 x10 x11 x12 x13 x14 x15 y15 h14 A1 A2 c1 c2 W ha hb hl1).mono fun e w h => ⟨by rw [decide_eq_false (fun q => h14 (congrArg Msg.number q))]; exact h.1, h.2⟩
  subst h14
  exact (rsame_eq x0 x1 x2 x3 x4 x5 x6 x7 x8 x9 x10 x11 x12 x13 x14 x15 A1 A2 c1 c2 W ha hb hl1).mono fun e w h => ⟨by rw [decide_eq_true rfl]; exact h.1, h.2⟩
end Go.Proofs.YtbnpdghfbiacaaaGreat
