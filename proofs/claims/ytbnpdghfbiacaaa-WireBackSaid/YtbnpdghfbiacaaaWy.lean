/- octets.Reader by contracts. No condition beyond what each theorem states. -/
import Derived.Test.YtbnpdghfbiacaaaWr
import Derived.PlainAid
import Derived.OwnWalk
import Derived.Laws.ShiftsVarLaws
namespace Go.Proofs.Ytbnpdghfbiacaaa
open Go Go.RowKit Go.PlainAid

theorem pow_le8 {k : Nat} (h : k ≤ 8) : 128 ^ k ≤ 72057594037927936 := by
  have : 128 ^ k ≤ 128 ^ 8 := Nat.pow_le_pow_right (by omega) h
  simpa using this
theorem or_acc (acc k : Nat) (x : UInt8) (hk : k ≤ 8) (h : acc < 128 ^ k) :
    bits .or .u64 (acc : Int) (IntKind.u64.wrap (IntKind.u64.wrap (bits .and .u8 (x.toNat : Int) 127) * 2 ^ (7 * k))) = ((acc + x.toNat % 128 * 128 ^ k : Nat) : Int) := by
  have hx := x.toNat_lt
  have hp := pow_le8 hk
  have h1 : bits .and .u8 (x.toNat : Int) 127 = ((x.toNat % 128 : Nat) : Int) := by
    rw [show (127 : Int) = ((127 : Nat) : Int) from rfl, u8_and_nat _ _ (by omega) (by omega), and127 _ (by omega)]
  have h2 : x.toNat % 128 * 128 ^ k ≤ 127 * 72057594037927936 := Nat.mul_le_mul (by omega) hp
  have h3 : ((x.toNat % 128 : Nat) : Int) * 2 ^ (7 * k) = ((x.toNat % 128 * 128 ^ k : Nat) : Int) := by
    rw [Int.natCast_mul, Int.natCast_pow, show ((128 : Nat) : Int) = 2 ^ 7 by rfl, ← Int.pow_mul]
  have h4 : IntKind.u64.wrap ((x.toNat % 128 : Nat) : Int) = ((x.toNat % 128 : Nat) : Int) := by rw [IntKind.wrap_u64]; omega
  have h5 : IntKind.u64.wrap ((x.toNat % 128 * 128 ^ k : Nat) : Int) = ((x.toNat % 128 * 128 ^ k : Nat) : Int) := by
    rw [IntKind.wrap_u64]; generalize x.toNat % 128 * 128 ^ k = z at *; omega
  rw [h1, h4, h3, h5, u64_or_nat _ _ (by omega) (by generalize x.toNat % 128 * 128 ^ k = z at *; omega)]
  congr 1
  have := or_shift acc (x.toNat % 128) k h
  rw [Nat.shiftLeft_eq, show 2 ^ (7 * k) = 128 ^ k by rw [Nat.pow_mul]] at this
  exact this
theorem acc_lt (acc k : Nat) (x : Nat) (h : acc < 128 ^ k) : acc + x % 128 * 128 ^ k < 128 ^ (k + 1) := by
  have : x % 128 * 128 ^ k ≤ 127 * 128 ^ k := Nat.mul_le_mul_right _ (by omega)
  rw [Nat.pow_succ]
  omega
set_option maxRecDepth 100000 in
set_option maxHeartbeats 2000000 in
theorem onum_any (A : Option Addr) (c : Nat) (l : List UInt8) (w : World) (hv : ArgB w (.slice A l.length c) l) (hm : l.length ≤ maxLen) :
    Calls Try.prog 84 #[.slice A l.length c] w fun e w' => e = .returned (.tuple #[.int .i64 ((takeN 0 l).1 : Int), .int .i64 ((takeN 0 l).2.1 : Int), .int .i64 (takeN 0 l).2.2]) ∧ w = w' := by
  have HV := Lib.hid hv; clear hv
  unfold maxLen at hm
  go_enter Try.func84, Try.ntmps84
  go_wp2
  go_loopw [5, 10] (fun t i wr => ∃ k acc : Nat, k ≤ l.length ∧ k ≤ 9 ∧ acc < 128 ^ k ∧ t = .int .u64 (acc : Int) ∧ i = .int .i64 k ∧ wr = w ∧ takeA acc k (l.drop k) = takeN 0 l ∧ (k ≤ 8 ∨ l.length ≤ k)) (fun _ i _ => l.length - (intOf i).toNat)
  case atStart => exact ⟨0, 0, Nat.zero_le _, by omega, by decide, rfl, rfl, rfl, by rw [List.drop_zero]; exact takeA_start l, .inl (by omega)⟩
  case round =>
    obtain ⟨k, acc, hk, hk9, hacc, rfl, rfl, rfl, hT, h8⟩ := hrel
    have HT := Lib.hid hT; have HA := Lib.hid hacc; clear hT hacc
    by_cases hlt : k < l.length
    · have hk0 : (0 : Int) ≤ (k : Int) := by omega
      have hk1 : (k : Int) < (l.length : Int) := by omega
      have hk8 : k ≤ 8 := by omega
      clear h8 hk9
      obtain ⟨g, o, c', e1, hcl, hxx⟩ := HV.out.at_ (by omega)
      have hx := hxx k _ (List.getElem?_eq_getElem hlt)
      clear hxx
      injection e1 with e1 _ e1c
      subst e1 e1c
      have HD := Lib.hid (List.drop_eq_getElem_cons hlt)
      generalize l[k] = x at *
      have xb := byte_bd x
      go_upto_region 6 with (fail)
      rw [or_acc acc k x hk8 HA.out]
      have HB := Lib.hid (acc_lt acc k x.toNat HA.out)
      have HN := Lib.hid (show acc + x.toNat % 128 * 128 ^ k = acc + x.toNat % 128 * 128 ^ k from rfl)
      have hlt63 : acc + x.toNat % 128 * 128 ^ k < 9223372036854775808 := by
        have h1 := acc_lt acc k x.toNat HA.out
        have h2 := pow_le8 hk8
        rw [Nat.pow_succ] at h1
        omega
      obtain ⟨q, hq⟩ : ∃ q, acc + x.toNat % 128 * 128 ^ k = q := ⟨_, rfl⟩
      rw [hq] at hlt63 ⊢
      have HQ := Lib.hid hq; clear hq
      have hwq : IntKind.i64.wrap (q : Int) = (q : Int) := by rw [IntKind.wrap_i64]; omega
      obtain ⟨y, hy⟩ : ∃ y, x.toNat = y := ⟨_, rfl⟩
      rw [hy] at xb ⊢
      have H63 := Lib.hid hlt63; clear hlt63
      have HY := Lib.hid hy
      by_cases hx1 : y < 128
      · have d1 : (y : Int) < 128 := by omega
        by_cases hx2 : y = 0
        · subst hx2
          by_cases hk2 : 0 < k
          · have d2 : (0 : Int) < (k : Int) := by omega
            have HR := Lib.hid (show takeN 0 l = (0, 0, 21) by rw [← HT.out, HD.out]; exact takeA_zero acc k x _ HY.out hk2)
            go_wp2
            go_ret3
            exact ⟨by rw [HR.out]; rfl, rfl⟩
          · have e0 : k = 0 := by omega
            subst e0
            have HR := Lib.hid (show takeN 0 l = (q, 1, 0) by
              rw [← HT.out, HD.out, takeA_last acc 0 x _ (by rw [HY.out]; omega) (by omega), ← HQ.out, HY.out])
            go_wp2
            go_ret3
            exact ⟨by rw [HR.out]; rfl, rfl⟩
        · have d2 : ((y : Int) == 0) = false := by rw [beq_eq_false_iff_ne]; omega
          have HR := Lib.hid (show takeN 0 l = (q, k + 1, 0) by
            rw [← HT.out, HD.out, takeA_last acc k x _ (by rw [HY.out]; omega) (by rw [HY.out]; omega), ← HQ.out, HY.out, Nat.mod_eq_of_lt hx1])
          go_wp2
          go_ret3
          exact ⟨by rw [HR.out]; first | rfl | (rw [hwq]; rfl), rfl⟩
      · have d1 : ¬ (y : Int) < 128 := by omega
        by_cases h8 : k = 8
        · subst h8
          have HR := Lib.hid (show takeN 0 l = (0, 0, 21) by rw [← HT.out, HD.out]; exact takeA_long acc x _ (by rw [HY.out]; omega))
          go_wp2
          go_ret3
          exact ⟨by rw [HR.out]; first | rfl | (rw [hwq]; rfl), rfl⟩
        · have d2 : ((k : Int) == 8) = false := by rw [beq_eq_false_iff_ne]; omega
          have HR := Lib.hid (show takeA q (k + 1) (l.drop (k + 1)) = takeN 0 l by
            rw [← HT.out, HD.out, takeA_more acc k x _ (by rw [HY.out]; omega) h8, ← HQ.out, HY.out]
            congr 3
            omega)
          have HB2 := Lib.hid (show q < 128 ^ (k + 1) by rw [← HQ.out]; exact HB.out)
          go_wp2
          go_roundw
          case rel => exact ⟨k + 1, q, by omega, by omega, HB2.out, rfl, by go_num, by trivial, HR.out, by omega⟩
          case measure => simp [intOf]; omega
    · have hk' : k = l.length := by omega
      have hk1 : ¬ (k : Int) < (l.length : Int) := by omega
      have HR := Lib.hid (show takeN 0 l = (0, 0, 20) by rw [← HT.out, List.drop_of_length_le (by omega)]; exact takeA_nil acc k)
      clear hk'
      go_wp2
      go_ret3
      exact ⟨by rw [HR.out]; rfl, rfl⟩
end Go.Proofs.Ytbnpdghfbiacaaa
