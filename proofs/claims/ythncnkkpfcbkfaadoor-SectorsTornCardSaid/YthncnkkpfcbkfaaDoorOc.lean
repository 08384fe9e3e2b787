/- The program's octets: Four, OfFour, Sum, by contracts. No condition beyond what each theorem states. -/
import Derived.Test.YthncnkkpfcbkfaaDoorBy
import Derived.Test.YthncnkkpfcbkfaaDoorCr
import Derived.Test.YthncnkkpfcbkfaaDoorSe
import Derived.Deep.QuietTactic
import Derived.BigQuiet
import Derived.Outline
namespace Go.Proofs.YthncnkkpfcbkfaaDoor
open Go Go.RowKit

set_option maxHeartbeats 1000000 in
theorem four_any (n : Nat) (w : World) : Calls Tryd.prog 24 #[.int .u32 (n : Int)] w fun e w' => ∃ g, e = .returned (.slice (some ⟨g, 0, none⟩) 4 4) ∧ Bk w' g 5 (u8s (four n)) ∧ w.heap.size ≤ g ∧ Kp No w w' := by
  have h0 := u8_nat n
  have h1 := u8_nat (n / 256)
  have h2 := u8_nat (n / 65536)
  have h3 := u8_nat (n / 16777216)
  have HS := Lib.hid (show u8s (four n) = [.int .u8 ((UInt8.ofNat n).toNat : Int), .int .u8 ((UInt8.ofNat (n / 256)).toNat : Int), .int .u8 ((UInt8.ofNat (n / 65536)).toNat : Int), .int .u8 ((UInt8.ofNat (n / 16777216)).toNat : Int)] from rfl)
  have H0 := Lib.hid h0; have H1 := Lib.hid h1; have H2 := Lib.hid h2; have H3 := Lib.hid h3
  clear h0 h1 h2 h3
  go_enter Tryd.func24, Tryd.ntmps24
  go_wp2
  go_ret
  refine ⟨w.heap.size, rfl, ?_, Nat.le_refl _, (Kp.refl _ _).alloc _⟩
  rw [HS.out, ← H0.out, ← H1.out, ← H2.out, ← H3.out]
  exact Bk.new' rfl (by simp [IntKind.wrap_u8])

theorem xor_byte (y : BitVec 32) (x : UInt8) : bits .xor .u32 (y.toNat : Int) (x.toNat : Int) = ((y ^^^ BitVec.ofNat 32 x.toNat).toNat : Int) := by
  have h := xor_u32 y (BitVec.ofNat 32 x.toNat)
  have hx : (BitVec.ofNat 32 x.toNat).toNat = x.toNat := by have := x.toNat_lt; rw [BitVec.toNat_ofNat]; omega
  rw [hx] at h
  exact h
theorem not_u32 (y : BitVec 32) : bits .xor .u32 4294967295 (y.toNat : Int) = ((y ^^^ 0xffffffff#32).toNat : Int) := by
  have h := xor_u32 0xffffffff#32 y
  rw [BitVec.xor_comm] at h
  exact h
set_option maxHeartbeats 1000000 in
theorem sum_any (v : Value) (l : List UInt8) (w : World) (hv : ArgB w v l) (hl : l.length ≤ maxLen) :
    Calls Tryd.prog 25 #[v] w fun e w' => e = .returned (.int .u32 (crcI l)) ∧ w = w' := by
  obtain ⟨A, c, hv0, hc⟩ := hv.form
  subst hv0
  have HV := Lib.hid hv; clear hv
  unfold maxLen at hl
  go_enter Tryd.func25, Tryd.ntmps25
  go_wp2
  go_loopw [3, 8] (fun x i wr => ∃ k : Nat, k ≤ l.length ∧ i = .int .i64 k ∧ x = .int .u32 ((crcF 0xffffffff#32 (l.take k)).toNat : Int) ∧ wr = w) (fun _ i _ => l.length - (intOf i).toNat)
  case atStart => exact ⟨0, Nat.zero_le _, rfl, rfl, rfl⟩
  case round =>
    obtain ⟨k, hk, rfl, rfl, rfl⟩ := hrel
    by_cases hlt : k < l.length
    · have hk0 : (0 : Int) ≤ (k : Int) := by omega
      have hk1 : (k : Int) < (l.length : Int) := by omega
      obtain ⟨g, o, c', e1, hc', hxx⟩ := HV.out.at_ (by omega)
      have hx := hxx k _ (List.getElem?_eq_getElem hlt)
      clear hxx
      injection e1 with e1 _ e1c
      subst e1 e1c
      have HT := Lib.hid (take_snoc8 l k hlt)
      generalize l[k] = x at *
      generalize hy : crcF 0xffffffff#32 (l.take k) = y
      have HY := Lib.hid hy; clear hy
      have hxb := byte_bd x
      go_wp2
      go_loop [3, 16] (fun u i => ∃ m : Nat, m ≤ 8 ∧ i = .int .i64 m ∧ u = .int .u32 ((crcSteps m (y ^^^ BitVec.ofNat 32 x.toNat)).toNat : Int)) (fun _ i => 8 - (intOf i).toNat)
      case atStart => exact ⟨0, Nat.zero_le _, rfl, congrArg (Value.int .u32) (xor_byte y x)⟩
      case round =>
        obtain ⟨m, hm, rfl, rfl⟩ := hrel
        have HN := Lib.hid (crcSteps_succ m (y ^^^ BitVec.ofNat 32 x.toNat))
        generalize hz : crcSteps m (y ^^^ BitVec.ofNat 32 x.toNat) = z at *
        have HZ := Lib.hid hz; clear hz
        by_cases hm8 : m < 8
        · have hm1 : (m : Int) < 8 := by omega
          go_wp2
          go_round
          case rel => exact ⟨m + 1, by omega, by go_num, by rw [HN.out, ← round_u32, IntKind.wrap_u32']⟩
          case measure => simp [intOf]; omega
        · have hm1 : ¬ (m : Int) < 8 := by omega
          obtain rfl : m = 8 := by omega
          go_wp2
          go_roundw
          case rel => exact ⟨k + 1, by omega, by go_num, by rw [HT.out, crcF_snoc, HY.out, ← HZ.out]; rfl, trivial⟩
          case measure => simp [intOf]; omega
    · have hk1 : ¬ (k : Int) < (l.length : Int) := by omega
      obtain rfl : k = l.length := by omega
      generalize hy : crcF 0xffffffff#32 (l.take l.length) = y
      have HY := Lib.hid hy; clear hy
      go_wp2
      go_ret
      refine ⟨?_, rfl⟩
      rw [List.take_length] at HY
      have e : crcI l = ((y ^^^ 0xffffffff#32).toNat : Int) := by unfold crcI crcS; rw [HY.out]
      rw [e, ← not_u32]
      rfl

theorem or_hi (i : Nat) (x y : Int) (hi : i ≤ 32) (hx : 0 ≤ x) (hx1 : x < 2 ^ i) (hy : 0 ≤ y) (hy1 : y * 2 ^ i < 4294967296) : bits .or .u32 x (y * 2 ^ i) = x + y * 2 ^ i := by
  obtain ⟨a, rfl⟩ := Int.eq_ofNat_of_zero_le hx
  obtain ⟨b, rfl⟩ := Int.eq_ofNat_of_zero_le hy
  have ha : a < 2 ^ i := by exact_mod_cast hx1
  have ha2 : a < 4294967296 := Nat.lt_of_lt_of_le ha (Nat.pow_le_pow_right (by decide) hi)
  have e : ((b : Int) * 2 ^ i) = ((b * 2 ^ i : Nat) : Int) := by rw [Int.natCast_mul, Int.natCast_pow]; rfl
  have hb : b * 2 ^ i < 4294967296 := by rw [e] at hy1; omega
  rw [e, u32_or_nat a _ ha2 hb, Nat.or_comm, Nat.mul_comm b, ← Nat.two_pow_add_eq_or_of_lt ha b]
  rw [Int.natCast_add]
  exact Int.add_comm _ _
theorem four_or (a b c d : UInt8) : bits .or .u32 (bits .or .u32 (bits .or .u32 (a.toNat : Int) ((b.toNat : Int) * 256)) ((c.toNat : Int) * 65536)) ((d.toNat : Int) * 16777216) = (a.toNat : Int) + b.toNat * 256 + c.toNat * 65536 + d.toNat * 16777216 := by
  have ha := byte_bd a; have hb := byte_bd b; have hc := byte_bd c; have hd := byte_bd d
  have h1 := or_hi 8 (a.toNat : Int) (b.toNat : Int) (by decide) (by omega) (by omega) (by omega) (by omega)
  have h2 := or_hi 16 ((a.toNat : Int) + b.toNat * 256) (c.toNat : Int) (by decide) (by omega) (by omega) (by omega) (by omega)
  have h3 := or_hi 24 ((a.toNat : Int) + b.toNat * 256 + c.toNat * 65536) (d.toNat : Int) (by decide) (by omega) (by omega) (by omega) (by omega)
  rw [show (2 : Int) ^ 8 = 256 from rfl] at h1
  rw [show (2 : Int) ^ 16 = 65536 from rfl] at h2
  rw [show (2 : Int) ^ 24 = 16777216 from rfl] at h3
  rw [h1, h2, h3]
set_option maxHeartbeats 1000000 in
theorem ofFour_any (v : Value) (l : List UInt8) (w : World) (hv : ArgB w v l) (hl : 4 ≤ l.length) (hm : l.length ≤ maxLen) :
    Calls Tryd.prog 37 #[v] w fun e w' => e = .returned (.tuple #[.int .u32 (ofFour l : Int), .bool true]) ∧ ∃ m, w' = w.drewN m := by
  obtain ⟨g, o, c, hv0, hc, hx⟩ := hv.at_ (by omega)
  subst hv0
  clear hv
  unfold maxLen at hm
  have x0 : w.cell? ⟨g, o, none⟩ = _ := hx 0 _ (List.getElem?_eq_getElem (by omega))
  have x1 := hx 1 _ (List.getElem?_eq_getElem (by omega))
  have x2 := hx 2 _ (List.getElem?_eq_getElem (by omega))
  have x3 := hx 3 _ (List.getElem?_eq_getElem (by omega))
  clear hx
  have HO := Lib.hid (show ofFour l = (l[0]'(by omega)).toNat + (l[1]'(by omega)).toNat * 256 + (l[2]'(by omega)).toNat * 65536 + (l[3]'(by omega)).toNat * 16777216 by
    simp [ofFour, List.getD_eq_getElem?_getD, show 0 < l.length by omega, show 1 < l.length by omega, show 2 < l.length by omega, show 3 < l.length by omega])
  generalize l[0]'(by omega) = y0 at *
  generalize l[1]'(by omega) = y1 at *
  generalize l[2]'(by omega) = y2 at *
  generalize l[3]'(by omega) = y3 at *
  have b0 := byte_bd y0; have b1 := byte_bd y1; have b2 := byte_bd y2; have b3 := byte_bd y3
  have n4 : ¬ (l.length : Int) < 4 := by omega
  have n0 : (0 : Int) < (l.length : Int) := by omega
  have n1 : (1 : Int) < (l.length : Int) := by omega
  have n2 : (2 : Int) < (l.length : Int) := by omega
  have n3 : (3 : Int) < (l.length : Int) := by omega
  go_enter Tryd.func37, Tryd.ntmps37
  go_wp2
  go_quiet (fail)
  go_wp2
  go_ret2
  refine ⟨?_, _, rfl⟩
  have e : ((ofFour l : Nat) : Int) = (y0.toNat : Int) + y1.toNat * 256 + y2.toNat * 65536 + y3.toNat * 16777216 := by rw [HO.out]; simp
  rw [e, ← four_or]
  rfl
end Go.Proofs.YthncnkkpfcbkfaaDoor
