/- The document's Same by contract. No condition beyond what each theorem states. -/
import Derived.Test.YtkiaclldjofdoaaGreatB21
import Derived.Test.YtkiaclldjofdoaaGreatB04
namespace Go.Proofs.YtkiaclldjofdoaaGreat
open Go Go.RowKit Go.PlainAid

set_option maxRecDepth 100000 in
set_option maxHeartbeats 4000000 in
theorem rsame_term (x0 : Int) (x1 : Int) (x2 : Int) (x3 : Int) (x4 : Int) (x5 : Int) (x6 : Int) (x7 : List UInt8) (x8 : Int) (x9 : Int) (x10 : Int) (x11 : Bool) (x12 : Int) (x13 : List Int) (x14 : Int) (x15 : Int) (y9 : Int) (y10 : Int) (y11 : Bool) (y12 : Int) (y14 : Int) (y15 : Int) (hd : x9 ≠ y9) (A1 A2 : Option Addr) (c1 c2 : Nat) (W : World) (ha : ArgInts W (.slice A1 x13.length c1) x13) (hb : ArgInts W (.slice A2 x13.length c2) x13) (hl : x13.length ≤ maxLen) :
    Calls Tryz.prog 20 #[.agg (mcells (⟨x0, x1, x2, x3, x4, x5, x6, x7, x8, x9, x10, x11, x12, x13, x14, x15⟩ : Msg) (.slice A1 x13.length c1)).toArray, .agg (mcells (⟨x0, x1, x2, x3, x4, x5, x6, x7, x8, y9, y10, y11, y12, x13, y14, y15⟩ : Msg) (.slice A2 x13.length c2)).toArray] W fun e w' => e = .returned (.bool false) ∧ Kp No W w' := by
  have ps := fun W2 (k : Kp No W W2) => sameInts_any _ _ x13 x13 W2 (ha.no k) (hb.no k) hl hl
  rw [decide_eq_true (rfl : x13 = x13)] at ps
  clear ha hb
  have hd1 : (x9 == y9) = false := by rw [beq_eq_false_iff_ne]; exact hd
  clear hd
  simp only [mcells]
  go_enter Tryz.func20, Tryz.ntmps20
  go_wp2_with fail
  refine (ps _ (((Kp.refl No W).alloc _).alloc _)).mono ?_
  rintro e w1 ⟨rfl, k1⟩
  have B1 : Bk w1 W.heap.size 50 (mcells (⟨x0, x1, x2, x3, x4, x5, x6, x7, x8, x9, x10, x11, x12, x13, x14, x15⟩ : Msg) (.slice A1 x13.length c1)) := ((Bk.new' rfl rfl : Bk _ _ _ (mcells (⟨x0, x1, x2, x3, x4, x5, x6, x7, x8, x9, x10, x11, x12, x13, x14, x15⟩ : Msg) (.slice A1 x13.length c1))).alloc _).no k1
  have B2 : Bk w1 (W.heap.size + 1) 50 (mcells (⟨x0, x1, x2, x3, x4, x5, x6, x7, x8, y9, y10, y11, y12, x13, y14, y15⟩ : Msg) (.slice A2 x13.length c2)) := (Bk.new' (by simp) rfl : Bk _ _ _ (mcells (⟨x0, x1, x2, x3, x4, x5, x6, x7, x8, y9, y10, y11, y12, x13, y14, y15⟩ : Msg) (.slice A2 x13.length c2))).no k1
  have z0 : w1.cell? ⟨W.heap.size, 0, none⟩ = some (.int .i64 x0) := B1.cell 0
  have u0 : w1.cell? ⟨W.heap.size + 1, 0, none⟩ = some (.int .i64 x0) := B2.cell 0
  have z1 : w1.cell? ⟨W.heap.size, 1, none⟩ = some (.int .i64 x1) := B1.cell 1
  have u1 : w1.cell? ⟨W.heap.size + 1, 1, none⟩ = some (.int .i64 x1) := B2.cell 1
  have z2 : w1.cell? ⟨W.heap.size, 2, none⟩ = some (.int .i64 x2) := B1.cell 2
  have u2 : w1.cell? ⟨W.heap.size + 1, 2, none⟩ = some (.int .i64 x2) := B2.cell 2
  have z3 : w1.cell? ⟨W.heap.size, 3, none⟩ = some (.int .i64 x3) := B1.cell 3
  have u3 : w1.cell? ⟨W.heap.size + 1, 3, none⟩ = some (.int .i64 x3) := B2.cell 3
  have z4 : w1.cell? ⟨W.heap.size, 4, none⟩ = some (.int .i64 x4) := B1.cell 4
  have u4 : w1.cell? ⟨W.heap.size + 1, 4, none⟩ = some (.int .i64 x4) := B2.cell 4
  have z5 : w1.cell? ⟨W.heap.size, 5, none⟩ = some (.int .i64 x5) := B1.cell 5
  have u5 : w1.cell? ⟨W.heap.size + 1, 5, none⟩ = some (.int .i64 x5) := B2.cell 5
  have z6 : w1.cell? ⟨W.heap.size, 6, none⟩ = some (.int .i64 x6) := B1.cell 6
  have u6 : w1.cell? ⟨W.heap.size + 1, 6, none⟩ = some (.int .i64 x6) := B2.cell 6
  have z7 : w1.cell? ⟨W.heap.size, 7, none⟩ = some (.string ⟨x7.toArray⟩) := B1.cell 7
  have u7 : w1.cell? ⟨W.heap.size + 1, 7, none⟩ = some (.string ⟨x7.toArray⟩) := B2.cell 7
  have z8 : w1.cell? ⟨W.heap.size, 8, none⟩ = some (.int .i64 x8) := B1.cell 8
  have u8 : w1.cell? ⟨W.heap.size + 1, 8, none⟩ = some (.int .i64 x8) := B2.cell 8
  have z9 : w1.cell? ⟨W.heap.size, 9, none⟩ = some (.int .i64 x9) := B1.cell 9
  have u9 : w1.cell? ⟨W.heap.size + 1, 9, none⟩ = some (.int .i64 y9) := B2.cell 9
  have z10 : w1.cell? ⟨W.heap.size, 10, none⟩ = some (.int .i64 x10) := B1.cell 10
  have u10 : w1.cell? ⟨W.heap.size + 1, 10, none⟩ = some (.int .i64 y10) := B2.cell 10
  have z11 : w1.cell? ⟨W.heap.size, 11, none⟩ = some (.bool x11) := B1.cell 11
  have u11 : w1.cell? ⟨W.heap.size + 1, 11, none⟩ = some (.bool y11) := B2.cell 11
  have z12 : w1.cell? ⟨W.heap.size, 12, none⟩ = some (.int .i64 x12) := B1.cell 12
  have u12 : w1.cell? ⟨W.heap.size + 1, 12, none⟩ = some (.int .i64 y12) := B2.cell 12
  have z13 : w1.cell? ⟨W.heap.size, 13, none⟩ = some (.slice A1 x13.length c1) := B1.cell 13
  have u13 : w1.cell? ⟨W.heap.size + 1, 13, none⟩ = some (.slice A2 x13.length c2) := B2.cell 13
  have z14 : w1.cell? ⟨W.heap.size, 14, none⟩ = some (.int .i64 x14) := B1.cell 14
  have u14 : w1.cell? ⟨W.heap.size + 1, 14, none⟩ = some (.int .i64 y14) := B2.cell 14
  have z15 : w1.cell? ⟨W.heap.size, 15, none⟩ = some (.int .i64 x15) := B1.cell 15
  have u15 : w1.cell? ⟨W.heap.size + 1, 15, none⟩ = some (.int .i64 y15) := B2.cell 15
  have K := Lib.hid ((((Kp.refl No W).alloc _).alloc _).trans k1)
  clear B1 B2 k1 ps
  go_wp2
  go_ret
  exact ⟨rfl, K.out⟩
set_option maxRecDepth 100000 in
set_option maxHeartbeats 4000000 in
theorem rsame_id (x0 : Int) (x1 : Int) (x2 : Int) (x3 : Int) (x4 : Int) (x5 : Int) (x6 : Int) (x7 : List UInt8) (x8 : Int) (x9 : Int) (x10 : Int) (x11 : Bool) (x12 : Int) (x13 : List Int) (x14 : Int) (x15 : Int) (y10 : Int) (y11 : Bool) (y12 : Int) (y14 : Int) (y15 : Int) (hd : x10 ≠ y10) (A1 A2 : Option Addr) (c1 c2 : Nat) (W : World) (ha : ArgInts W (.slice A1 x13.length c1) x13) (hb : ArgInts W (.slice A2 x13.length c2) x13) (hl : x13.length ≤ maxLen) :
    Calls Tryz.prog 20 #[.agg (mcells (⟨x0, x1, x2, x3, x4, x5, x6, x7, x8, x9, x10, x11, x12, x13, x14, x15⟩ : Msg) (.slice A1 x13.length c1)).toArray, .agg (mcells (⟨x0, x1, x2, x3, x4, x5, x6, x7, x8, x9, y10, y11, y12, x13, y14, y15⟩ : Msg) (.slice A2 x13.length c2)).toArray] W fun e w' => e = .returned (.bool false) ∧ Kp No W w' := by
  have ps := fun W2 (k : Kp No W W2) => sameInts_any _ _ x13 x13 W2 (ha.no k) (hb.no k) hl hl
  rw [decide_eq_true (rfl : x13 = x13)] at ps
  clear ha hb
  have hd1 : (x10 == y10) = false := by rw [beq_eq_false_iff_ne]; exact hd
  clear hd
  simp only [mcells]
  go_enter Tryz.func20, Tryz.ntmps20
  go_wp2_with fail
  refine (ps _ (((Kp.refl No W).alloc _).alloc _)).mono ?_
  rintro e w1 ⟨rfl, k1⟩
  have B1 : Bk w1 W.heap.size 50 (mcells (⟨x0, x1, x2, x3, x4, x5, x6, x7, x8, x9, x10, x11, x12, x13, x14, x15⟩ : Msg) (.slice A1 x13.length c1)) := ((Bk.new' rfl rfl : Bk _ _ _ (mcells (⟨x0, x1, x2, x3, x4, x5, x6, x7, x8, x9, x10, x11, x12, x13, x14, x15⟩ : Msg) (.slice A1 x13.length c1))).alloc _).no k1
  have B2 : Bk w1 (W.heap.size + 1) 50 (mcells (⟨x0, x1, x2, x3, x4, x5, x6, x7, x8, x9, y10, y11, y12, x13, y14, y15⟩ : Msg) (.slice A2 x13.length c2)) := (Bk.new' (by simp) rfl : Bk _ _ _ (mcells (⟨x0, x1, x2, x3, x4, x5, x6, x7, x8, x9, y10, y11, y12, x13, y14, y15⟩ : Msg) (.slice A2 x13.length c2))).no k1
  have z0 : w1.cell? ⟨W.heap.size, 0, none⟩ = some (.int .i64 x0) := B1.cell 0
  have u0 : w1.cell? ⟨W.heap.size + 1, 0, none⟩ = some (.int .i64 x0) := B2.cell 0
  have z1 : w1.cell? ⟨W.heap.size, 1, none⟩ = some (.int .i64 x1) := B1.cell 1
  have u1 : w1.cell? ⟨W.heap.size + 1, 1, none⟩ = some (.int .i64 x1) := B2.cell 1
  have z2 : w1.cell? ⟨W.heap.size, 2, none⟩ = some (.int .i64 x2) := B1.cell 2
  have u2 : w1.cell? ⟨W.heap.size + 1, 2, none⟩ = some (.int .i64 x2) := B2.cell 2
  have z3 : w1.cell? ⟨W.heap.size, 3, none⟩ = some (.int .i64 x3) := B1.cell 3
  have u3 : w1.cell? ⟨W.heap.size + 1, 3, none⟩ = some (.int .i64 x3) := B2.cell 3
  have z4 : w1.cell? ⟨W.heap.size, 4, none⟩ = some (.int .i64 x4) := B1.cell 4
  have u4 : w1.cell? ⟨W.heap.size + 1, 4, none⟩ = some (.int .i64 x4) := B2.cell 4
  have z5 : w1.cell? ⟨W.heap.size, 5, none⟩ = some (.int .i64 x5) := B1.cell 5
  have u5 : w1.cell? ⟨W.heap.size + 1, 5, none⟩ = some (.int .i64 x5) := B2.cell 5
  have z6 : w1.cell? ⟨W.heap.size, 6, none⟩ = some (.int .i64 x6) := B1.cell 6
  have u6 : w1.cell? ⟨W.heap.size + 1, 6, none⟩ = some (.int .i64 x6) := B2.cell 6
  have z7 : w1.cell? ⟨W.heap.size, 7, none⟩ = some (.string ⟨x7.toArray⟩) := B1.cell 7
  have u7 : w1.cell? ⟨W.heap.size + 1, 7, none⟩ = some (.string ⟨x7.toArray⟩) := B2.cell 7
  have z8 : w1.cell? ⟨W.heap.size, 8, none⟩ = some (.int .i64 x8) := B1.cell 8
  have u8 : w1.cell? ⟨W.heap.size + 1, 8, none⟩ = some (.int .i64 x8) := B2.cell 8
  have z9 : w1.cell? ⟨W.heap.size, 9, none⟩ = some (.int .i64 x9) := B1.cell 9
  have u9 : w1.cell? ⟨W.heap.size + 1, 9, none⟩ = some (.int .i64 x9) := B2.cell 9
  have z10 : w1.cell? ⟨W.heap.size, 10, none⟩ = some (.int .i64 x10) := B1.cell 10
  have u10 : w1.cell? ⟨W.heap.size + 1, 10, none⟩ = some (.int .i64 y10) := B2.cell 10
  have z11 : w1.cell? ⟨W.heap.size, 11, none⟩ = some (.bool x11) := B1.cell 11
  have u11 : w1.cell? ⟨W.heap.size + 1, 11, none⟩ = some (.bool y11) := B2.cell 11
  have z12 : w1.cell? ⟨W.heap.size, 12, none⟩ = some (.int .i64 x12) := B1.cell 12
  have u12 : w1.cell? ⟨W.heap.size + 1, 12, none⟩ = some (.int .i64 y12) := B2.cell 12
  have z13 : w1.cell? ⟨W.heap.size, 13, none⟩ = some (.slice A1 x13.length c1) := B1.cell 13
  have u13 : w1.cell? ⟨W.heap.size + 1, 13, none⟩ = some (.slice A2 x13.length c2) := B2.cell 13
  have z14 : w1.cell? ⟨W.heap.size, 14, none⟩ = some (.int .i64 x14) := B1.cell 14
  have u14 : w1.cell? ⟨W.heap.size + 1, 14, none⟩ = some (.int .i64 y14) := B2.cell 14
  have z15 : w1.cell? ⟨W.heap.size, 15, none⟩ = some (.int .i64 x15) := B1.cell 15
  have u15 : w1.cell? ⟨W.heap.size + 1, 15, none⟩ = some (.int .i64 y15) := B2.cell 15
  have K := Lib.hid ((((Kp.refl No W).alloc _).alloc _).trans k1)
  clear B1 B2 k1 ps
  go_wp2
  go_ret
  exact ⟨rfl, K.out⟩
set_option maxRecDepth 100000 in
set_option maxHeartbeats 4000000 in
theorem rsame_fresh (x0 : Int) (x1 : Int) (x2 : Int) (x3 : Int) (x4 : Int) (x5 : Int) (x6 : Int) (x7 : List UInt8) (x8 : Int) (x9 : Int) (x10 : Int) (x11 : Bool) (x12 : Int) (x13 : List Int) (x14 : Int) (x15 : Int) (y11 : Bool) (y12 : Int) (y14 : Int) (y15 : Int) (hd : x11 ≠ y11) (A1 A2 : Option Addr) (c1 c2 : Nat) (W : World) (ha : ArgInts W (.slice A1 x13.length c1) x13) (hb : ArgInts W (.slice A2 x13.length c2) x13) (hl : x13.length ≤ maxLen) :
    Calls Tryz.prog 20 #[.agg (mcells (⟨x0, x1, x2, x3, x4, x5, x6, x7, x8, x9, x10, x11, x12, x13, x14, x15⟩ : Msg) (.slice A1 x13.length c1)).toArray, .agg (mcells (⟨x0, x1, x2, x3, x4, x5, x6, x7, x8, x9, x10, y11, y12, x13, y14, y15⟩ : Msg) (.slice A2 x13.length c2)).toArray] W fun e w' => e = .returned (.bool false) ∧ Kp No W w' := by
  have ps := fun W2 (k : Kp No W W2) => sameInts_any _ _ x13 x13 W2 (ha.no k) (hb.no k) hl hl
  rw [decide_eq_true (rfl : x13 = x13)] at ps
  clear ha hb
  have hd1 : (x11 == y11) = false := by rw [beq_eq_false_iff_ne]; exact hd
  clear hd
  simp only [mcells]
  go_enter Tryz.func20, Tryz.ntmps20
  go_wp2_with fail
  refine (ps _ (((Kp.refl No W).alloc _).alloc _)).mono ?_
  rintro e w1 ⟨rfl, k1⟩
  have B1 : Bk w1 W.heap.size 50 (mcells (⟨x0, x1, x2, x3, x4, x5, x6, x7, x8, x9, x10, x11, x12, x13, x14, x15⟩ : Msg) (.slice A1 x13.length c1)) := ((Bk.new' rfl rfl : Bk _ _ _ (mcells (⟨x0, x1, x2, x3, x4, x5, x6, x7, x8, x9, x10, x11, x12, x13, x14, x15⟩ : Msg) (.slice A1 x13.length c1))).alloc _).no k1
  have B2 : Bk w1 (W.heap.size + 1) 50 (mcells (⟨x0, x1, x2, x3, x4, x5, x6, x7, x8, x9, x10, y11, y12, x13, y14, y15⟩ : Msg) (.slice A2 x13.length c2)) := (Bk.new' (by simp) rfl : Bk _ _ _ (mcells (⟨x0, x1, x2, x3, x4, x5, x6, x7, x8, x9, x10, y11, y12, x13, y14, y15⟩ : Msg) (.slice A2 x13.length c2))).no k1
  have z0 : w1.cell? ⟨W.heap.size, 0, none⟩ = some (.int .i64 x0) := B1.cell 0
  have u0 : w1.cell? ⟨W.heap.size + 1, 0, none⟩ = some (.int .i64 x0) := B2.cell 0
  have z1 : w1.cell? ⟨W.heap.size, 1, none⟩ = some (.int .i64 x1) := B1.cell 1
  have u1 : w1.cell? ⟨W.heap.size + 1, 1, none⟩ = some (.int .i64 x1) := B2.cell 1
  have z2 : w1.cell? ⟨W.heap.size, 2, none⟩ = some (.int .i64 x2) := B1.cell 2
  have u2 : w1.cell? ⟨W.heap.size + 1, 2, none⟩ = some (.int .i64 x2) := B2.cell 2
  have z3 : w1.cell? ⟨W.heap.size, 3, none⟩ = some (.int .i64 x3) := B1.cell 3
  have u3 : w1.cell? ⟨W.heap.size + 1, 3, none⟩ = some (.int .i64 x3) := B2.cell 3
  have z4 : w1.cell? ⟨W.heap.size, 4, none⟩ = some (.int .i64 x4) := B1.cell 4
  have u4 : w1.cell? ⟨W.heap.size + 1, 4, none⟩ = some (.int .i64 x4) := B2.cell 4
  have z5 : w1.cell? ⟨W.heap.size, 5, none⟩ = some (.int .i64 x5) := B1.cell 5
  have u5 : w1.cell? ⟨W.heap.size + 1, 5, none⟩ = some (.int .i64 x5) := B2.cell 5
  have z6 : w1.cell? ⟨W.heap.size, 6, none⟩ = some (.int .i64 x6) := B1.cell 6
  have u6 : w1.cell? ⟨W.heap.size + 1, 6, none⟩ = some (.int .i64 x6) := B2.cell 6
  have z7 : w1.cell? ⟨W.heap.size, 7, none⟩ = some (.string ⟨x7.toArray⟩) := B1.cell 7
  have u7 : w1.cell? ⟨W.heap.size + 1, 7, none⟩ = some (.string ⟨x7.toArray⟩) := B2.cell 7
  have z8 : w1.cell? ⟨W.heap.size, 8, none⟩ = some (.int .i64 x8) := B1.cell 8
  have u8 : w1.cell? ⟨W.heap.size + 1, 8, none⟩ = some (.int .i64 x8) := B2.cell 8
  have z9 : w1.cell? ⟨W.heap.size, 9, none⟩ = some (.int .i64 x9) := B1.cell 9
  have u9 : w1.cell? ⟨W.heap.size + 1, 9, none⟩ = some (.int .i64 x9) := B2.cell 9
  have z10 : w1.cell? ⟨W.heap.size, 10, none⟩ = some (.int .i64 x10) := B1.cell 10
  have u10 : w1.cell? ⟨W.heap.size + 1, 10, none⟩ = some (.int .i64 x10) := B2.cell 10
  have z11 : w1.cell? ⟨W.heap.size, 11, none⟩ = some (.bool x11) := B1.cell 11
  have u11 : w1.cell? ⟨W.heap.size + 1, 11, none⟩ = some (.bool y11) := B2.cell 11
  have z12 : w1.cell? ⟨W.heap.size, 12, none⟩ = some (.int .i64 x12) := B1.cell 12
  have u12 : w1.cell? ⟨W.heap.size + 1, 12, none⟩ = some (.int .i64 y12) := B2.cell 12
  have z13 : w1.cell? ⟨W.heap.size, 13, none⟩ = some (.slice A1 x13.length c1) := B1.cell 13
  have u13 : w1.cell? ⟨W.heap.size + 1, 13, none⟩ = some (.slice A2 x13.length c2) := B2.cell 13
  have z14 : w1.cell? ⟨W.heap.size, 14, none⟩ = some (.int .i64 x14) := B1.cell 14
  have u14 : w1.cell? ⟨W.heap.size + 1, 14, none⟩ = some (.int .i64 y14) := B2.cell 14
  have z15 : w1.cell? ⟨W.heap.size, 15, none⟩ = some (.int .i64 x15) := B1.cell 15
  have u15 : w1.cell? ⟨W.heap.size + 1, 15, none⟩ = some (.int .i64 y15) := B2.cell 15
  have K := Lib.hid ((((Kp.refl No W).alloc _).alloc _).trans k1)
  clear B1 B2 k1 ps
  go_wp2
  go_ret
  exact ⟨rfl, K.out⟩
end Go.Proofs.YtkiaclldjofdoaaGreat
