/- The program's octets.Sum, by contract. No condition beyond what each theorem states. -/
import Derived.Test.YtccadcefhfdmgaaGreatDoorBy
import Derived.Test.YtccadcefhfdmgaaGreatDoorCr
import Derived.Outline
namespace Go.Proofs.YtccadcefhfdmgaaGreatDoor
open Go Go.RowKit
theorem xor_byte (y : BitVec 32) (x : UInt8) : bits .xor .u32 (y.toNat : Int) (x.toNat : Int) = ((y ^^^ BitVec.ofNat 32 x.toNat).toNat : Int) := by
  have h := xor_u32 y (BitVec.ofNat 32 x.toNat)
  have hx : (BitVec.ofNat 32 x.toNat).toNat = x.toNat := by have := x.toNat_lt; rw [BitVec.toNat_ofNat]; omega
  rw [hx] at h
  exact h
theorem not_u32 (y : BitVec 32) : bits .xor .u32 4294967295 (y.toNat : Int) = ((y ^^^ 0xffffffff#32).toNat : Int) := by
  have h := xor_u32 0xffffffff#32 y
  rw [BitVec.xor_comm] at h
  exact h
set_option maxHeartbeats 1000000 in
theorem sum_any (v : Value) (l : List UInt8) (w : World) (hv : ArgB w v l) (hl : l.length ≤ maxLen) :
    Calls Tryz.prog 155 #[v] w fun e w' => e = .returned (.int .u32 (crcI l)) ∧ w = w' := by
  obtain ⟨A, c, hv0, hc⟩ := hv.form
  subst hv0
  have HV := Lib.hid hv; clear hv
  unfold maxLen at hl
  go_enter Tryz.func155, Tryz.ntmps155
  go_wp2
  go_loopw [3, 8] (fun x i wr => ∃ k : Nat, k ≤ l.length ∧ i = .int .i64 k ∧ x = .int .u32 ((crcF 0xffffffff#32 (l.take k)).toNat : Int) ∧ wr = w) (fun _ i _ => l.length - (intOf i).toNat)
  case atStart => exact ⟨0, Nat.zero_le _, rfl, rfl, rfl⟩
  case round =>
    obtain ⟨k, hk, rfl, rfl, rfl⟩ := hrel
    by_cases hlt : k < l.length
    · have hk0 : (0 : Int) ≤ (k : Int) := by omega
      have hk1 : (k : Int) < (l.length : Int) := by omega
      obtain ⟨g, o, c', e1, hc', hxx⟩ := HV.out.at_ (by omega)
      have hx := hxx k _ (List.getElem?_eq_getElem hlt)
      clear hxx
      injection e1 with e1 _ e1c
      subst e1 e1c
      have HT := Lib.hid (take_snoc8 l k hlt)
      generalize l[k] = x at *
      generalize hy : crcF 0xffffffff#32 (l.take k) = y
      have HY := Lib.hid hy; clear hy
      have hxb := byte_bd x
      go_wp2
      go_loop [3, 16] (fun u i => ∃ m : Nat, m ≤ 8 ∧ i = .int .i64 m ∧ u = .int .u32 ((crcSteps m (y ^^^ BitVec.ofNat 32 x.toNat)).toNat : Int)) (fun _ i => 8 - (intOf i).toNat)
      case atStart => exact ⟨0, Nat.zero_le _, rfl, congrArg (Value.int .u32) (xor_byte y x)⟩
      case round =>
        obtain ⟨m, hm, rfl, rfl⟩ := hrel
        have HN := Lib.hid (crcSteps_succ m (y ^^^ BitVec.ofNat 32 x.toNat))
        generalize hz : crcSteps m (y ^^^ BitVec.ofNat 32 x.toNat) = z at *
        have HZ := Lib.hid hz; clear hz
        by_cases hm8 : m < 8
        · have hm1 : (m : Int) < 8 := by omega
          go_wp2
          go_round
          case rel => exact ⟨m + 1, by omega, by go_num, by rw [HN.out, ← round_u32, IntKind.wrap_u32']⟩
          case measure => simp [intOf]; omega
        · have hm1 : ¬ (m : Int) < 8 := by omega
          obtain rfl : m = 8 := by omega
          go_wp2
          go_roundw
          case rel => exact ⟨k + 1, by omega, by go_num, by rw [HT.out, crcF_snoc, HY.out, ← HZ.out]; rfl, trivial⟩
          case measure => simp [intOf]; omega
    · have hk1 : ¬ (k : Int) < (l.length : Int) := by omega
      obtain rfl : k = l.length := by omega
      generalize hy : crcF 0xffffffff#32 (l.take l.length) = y
      have HY := Lib.hid hy; clear hy
      go_wp2
      go_ret
      refine ⟨?_, rfl⟩
      rw [List.take_length] at HY
      have e : crcI l = ((y ^^^ 0xffffffff#32).toNat : Int) := by unfold crcI crcS; rw [HY.out]
      rw [e, ← not_u32]
      rfl

end Go.Proofs.YtccadcefhfdmgaaGreatDoor
