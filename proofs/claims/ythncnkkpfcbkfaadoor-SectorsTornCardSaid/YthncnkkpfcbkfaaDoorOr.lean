/- The reference's octets: Four, OfFour, Sum, and the sector's number, by contracts. No condition beyond what each theorem states. -/
import Derived.Test.YthncnkkpfcbkfaaDoorOc
namespace Go.Proofs.YthncnkkpfcbkfaaDoor
open Go Go.RowKit

set_option maxHeartbeats 1000000 in
theorem number_any (v : Value) (l : List UInt8) (w : World) (hv : ArgB w v l) (hl : 4 ≤ l.length) (hm : l.length ≤ maxLen) :
    Calls Tryd.prog 27 #[v] w fun e w' => e = .returned (.int .i64 (ofFour l : Int)) ∧ ∃ m, w' = w.drewN m := by
  have hb := ofFour_lt l
  have HV := Lib.hid hv; clear hv
  go_enter Tryd.func27, Tryd.ntmps27
  go_wp2_with fail
  refine (ofFour_any _ _ _ HV.out hl hm).mono ?_
  rintro e w' ⟨rfl, m, rfl⟩
  go_wp2
  go_ret
  exact ⟨rfl, _, rfl⟩

theorem low_bit (x : UInt8) (m : Nat) : bits .and .u32 ((x.toNat : Int) / 2 ^ m) 1 = if x.toNat.testBit m then 1 else 0 := by
  have hx := x.toNat_lt
  have e : (x.toNat : Int) / 2 ^ m = ((x.toNat / 2 ^ m : Nat) : Int) := by rw [Int.natCast_ediv, Int.natCast_pow]; rfl
  have hlt : x.toNat / 2 ^ m < 4294967296 := Nat.lt_of_le_of_lt (Nat.div_le_self _ _) (by omega)
  have h := u32_and_nat (x.toNat / 2 ^ m) 1 hlt (by decide)
  rw [e, show (1 : Int) = ((1 : Nat) : Int) from rfl, h, Nat.and_one_is_mod, Nat.testBit_eq_decide_div_mod_eq]
  have := Nat.mod_two_eq_zero_or_one (x.toNat / 2 ^ m)
  rcases this with h0 | h0 <;> simp [h0]

set_option maxHeartbeats 1000000 in
theorem rsum_any (v : Value) (l : List UInt8) (w : World) (hv : ArgB w v l) (hl : l.length ≤ maxLen) :
    Calls Tryd.prog 36 #[v] w fun e w' => e = .returned (.int .u32 (crcI l)) ∧ w = w' := by
  obtain ⟨A, c, hv0, hc⟩ := hv.form
  subst hv0
  have HV := Lib.hid hv; clear hv
  unfold maxLen at hl
  go_enter Tryd.func36, Tryd.ntmps36
  go_wp2
  go_loopw [3, 4] (fun x i wr => ∃ k : Nat, k ≤ l.length ∧ i = .int .i64 k ∧ x = .int .u32 ((crcF 0xffffffff#32 (l.take k)).toNat : Int) ∧ wr = w) (fun _ i _ => l.length - (intOf i).toNat)
  case atStart => exact ⟨0, Nat.zero_le _, rfl, rfl, rfl⟩
  case round =>
    obtain ⟨k, hk, rfl, rfl, rfl⟩ := hrel
    by_cases hlt : k < l.length
    · have hk0 : (0 : Int) ≤ (k : Int) := by omega
      have hk1 : (k : Int) < (l.length : Int) := by omega
      obtain ⟨g, o, c', e1, hc', hxx⟩ := HV.out.at_ (by omega)
      have hx := hxx k _ (List.getElem?_eq_getElem hlt)
      clear hxx
      injection e1 with e1 _ e1c
      subst e1 e1c
      have HT := Lib.hid (take_snoc8 l k hlt)
      generalize l[k] = x at *
      generalize hy : crcF 0xffffffff#32 (l.take k) = y
      have HY := Lib.hid hy; clear hy
      have hxb := byte_bd x
      go_wp2
      go_loop [3, 5] (fun u i => ∃ m : Nat, m ≤ 8 ∧ i = .int .i64 m ∧ u = .int .u32 ((refSteps x y m).toNat : Int)) (fun _ i => 8 - (intOf i).toNat)
      case atStart => exact ⟨0, Nat.zero_le _, rfl, rfl⟩
      case round =>
        obtain ⟨m, hm, rfl, rfl⟩ := hrel
        have HN := Lib.hid (show refSteps x y (m + 1) = refStep (refSteps x y m) (x.toNat.testBit m) from rfl)
        have HB := Lib.hid (ref_byte x y)
        generalize hz : refSteps x y m = z at *
        have HZ := Lib.hid hz; clear hz
        by_cases hm8 : m < 8
        · have hm1 : (m : Int) < 8 := by omega
          have hmin : min m 32 = m := by omega
          have hlb := low_bit x m
          have hlz := low_u32 z
          generalize hbt : x.toNat.testBit m = bt at *
          generalize hzt : z.getLsbD 0 = zt at *
          have HBT := Lib.hid hbt; have HZT := Lib.hid hzt; clear hbt hzt
          have hstep := refStep_val z bt
          rw [HZT.out] at hstep
          have HS := Lib.hid hstep; clear hstep
          cases bt <;> cases zt
          all_goals
            simp only [if_true, Bool.false_eq_true, if_false] at hlb hlz
            go_wp2
            go_round
            case rel => exact ⟨m + 1, by omega, by go_num, by rw [HN.out, HS.out]; rfl⟩
            case measure => simp [intOf]; omega
        · have hm1 : ¬ (m : Int) < 8 := by omega
          obtain rfl : m = 8 := by omega
          go_wp2
          go_roundw
          case rel => exact ⟨k + 1, by omega, by go_num, by rw [HT.out, crcF_snoc, HY.out, ← HB.out, HZ.out], trivial⟩
          case measure => simp [intOf]; omega
    · have hk1 : ¬ (k : Int) < (l.length : Int) := by omega
      obtain rfl : k = l.length := by omega
      generalize hy : crcF 0xffffffff#32 (l.take l.length) = y
      have HY := Lib.hid hy; clear hy
      go_wp2
      go_ret
      refine ⟨?_, rfl⟩
      rw [List.take_length] at HY
      have e : crcI l = ((y ^^^ 0xffffffff#32).toNat : Int) := by unfold crcI crcS; rw [HY.out]
      rw [e, ← xor_u32]
      rfl

set_option maxHeartbeats 1000000 in
theorem rofFour_any (v : Value) (l : List UInt8) (w : World) (hv : ArgB w v l) (hl : 4 ≤ l.length) (hm : l.length ≤ maxLen) :
    Calls Tryd.prog 29 #[v] w fun e w' => e = .returned (.tuple #[.int .u32 (ofFour l : Int), .bool true]) ∧ w = w' := by
  obtain ⟨g, o, c, hv0, hc, hx⟩ := hv.at_ (by omega)
  subst hv0
  clear hv
  unfold maxLen at hm
  have x0 : w.cell? ⟨g, o, none⟩ = _ := hx 0 _ (List.getElem?_eq_getElem (by omega))
  have x1 := hx 1 _ (List.getElem?_eq_getElem (by omega))
  have x2 := hx 2 _ (List.getElem?_eq_getElem (by omega))
  have x3 := hx 3 _ (List.getElem?_eq_getElem (by omega))
  clear hx
  have HO := Lib.hid (show ofFour l = (l[0]'(by omega)).toNat + (l[1]'(by omega)).toNat * 256 + (l[2]'(by omega)).toNat * 65536 + (l[3]'(by omega)).toNat * 16777216 by
    simp [ofFour, List.getD_eq_getElem?_getD, show 0 < l.length by omega, show 1 < l.length by omega, show 2 < l.length by omega, show 3 < l.length by omega])
  generalize l[0]'(by omega) = y0 at *
  generalize l[1]'(by omega) = y1 at *
  generalize l[2]'(by omega) = y2 at *
  generalize l[3]'(by omega) = y3 at *
  have b0 := byte_bd y0; have b1 := byte_bd y1; have b2 := byte_bd y2; have b3 := byte_bd y3
  have n4 : ¬ (l.length : Int) < 4 := by omega
  have n0 : (0 : Int) < (l.length : Int) := by omega
  have n1 : (1 : Int) < (l.length : Int) := by omega
  have n2 : (2 : Int) < (l.length : Int) := by omega
  have n3 : (3 : Int) < (l.length : Int) := by omega
  go_enter Tryd.func29, Tryd.ntmps29
  go_wp2
  refine wp_loop_rounds 5 ?_
  rw [rounds_succ]
  go_wp2
  rw [rounds_succ]
  go_wp2
  rw [rounds_succ]
  go_wp2
  rw [rounds_succ]
  go_wp2
  rw [rounds_succ]
  go_wp2
  go_ret2
  refine ⟨?_, rfl⟩
  have e : ((ofFour l : Nat) : Int) = ((y3.toNat * 256 + y2.toNat : Int) * 256 + y1.toNat) * 256 + y0.toNat := by rw [HO.out]; omega
  rw [e]
  rfl

set_option maxHeartbeats 1000000 in
theorem rfour_any (n : Nat) (hn : n < 4294967296) (w : World) : Calls Tryd.prog 35 #[.int .u32 (n : Int)] w fun e w' => ∃ v, e = .returned v ∧ OwnB w' w.heap.size v (four n) ∧ Kp No w w' := by
  have HI := Tryd.infoByte
  go_enter Tryd.func35, Tryd.ntmps35
  go_wp2
  go_loopw [0, 3, 4] (fun x v i wr => ∃ k : Nat, k ≤ 4 ∧ i = .int .i64 k ∧ x = .int .u32 ((n / 256 ^ k : Nat) : Int) ∧ OwnB wr w.heap.size v ((four n).take k) ∧ Kp No w wr) (fun _ _ i _ => 4 - (intOf i).toNat)
  case atStart => exact ⟨0, Nat.zero_le _, rfl, by simp, OwnB.nil _ _, Kp.refl _ _⟩
  case round =>
    obtain ⟨k, hk, rfl, rfl, hown, hkp⟩ := hrel
    by_cases hlt : k < 4
    · have hk1 : (k : Int) < 4 := by omega
      have hlen : ((four n).take k).length = k := by simp; omega
      have hN := Lib.hid (show n / 256 ^ (k + 1) = n / 256 ^ k / 256 by rw [Nat.pow_succ, Nat.div_div_eq_div_mul])
      have HT := Lib.hid (show (four n).take (k + 1) = (four n).take k ++ [UInt8.ofNat (n / 256 ^ k)] by
        rcases k with _ | _ | _ | _ | k
        · simp [four]
        · simp [four]
        · simp [four]
        · simp [four]
        · omega)
      have hbd : n / 256 ^ k < 4294967296 := Nat.lt_of_le_of_lt (Nat.div_le_self _ _) hn
      generalize n / 256 ^ k = q at *
      have q0 : (0 : Int) ≤ (q : Int) := by omega
      have HU := Lib.hid (u8s_nat q)
      have HW := Lib.hid hown
      generalize (four n).take k = l at *
      have hsz : w.heap.size ≤ wr.heap.size := hkp.size
      have ha := fun o => HW.out.alloc' hlen o
      clear hown hlen
      go_wp2_with (at_builtin; refine wpList_appV _ rfl _ _ 26 rfl w.heap.size 5 _ 1 Tryd.underlying26 HI rfl _ k (u8s l) rfl (ha _) _ 1 1 [.int .u8 ((q : Int) % 256)] rfl rfl (cs_new rfl rfl) (by intro u hu; cases hu with | head => rfl | tail _ h => cases h) (by omega) (by omega) (by simp; omega) ?_)
      intro v' w' o1 k1 _
      have HO := Lib.hid (own_of o1 HU.out.symm)
      have HK := Lib.hid (kp_own (ha _) (hkp.alloc _) k1)
      clear o1 k1 ha
      go_wp2
      go_roundw
      case rel => exact ⟨k + 1, by omega, by go_num, by rw [hN.out]; rfl, by rw [HT.out]; exact HO.out, HK.out⟩
      case measure => simp [intOf]; omega
    · obtain rfl : k = 4 := by omega
      go_wp2
      go_ret
      exact ⟨_, rfl, hown, hkp⟩
end Go.Proofs.YthncnkkpfcbkfaaDoor
