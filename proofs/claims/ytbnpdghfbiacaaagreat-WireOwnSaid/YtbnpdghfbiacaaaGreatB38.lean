/- Several texts of this claim in one. No condition beyond what each theorem states. -/
import Derived.Test.YtbnpdghfbiacaaaGreatB12
import Derived.Test.YtbnpdghfbiacaaaGreatB20
import Derived.Test.YtbnpdghfbiacaaaGreatB37
/- The document's Sum and Four, by contracts. No condition beyond what each theorem states. -/
namespace Go.Proofs.YtbnpdghfbiacaaaGreat
open Go Go.RowKit


theorem low_bit (x : UInt8) (m : Nat) : bits .and .u32 ((x.toNat : Int) / 2 ^ m) 1 = if x.toNat.testBit m then 1 else 0 := by
  have hx := x.toNat_lt
  have e : (x.toNat : Int) / 2 ^ m = ((x.toNat / 2 ^ m : Nat) : Int) := by rw [Int.natCast_ediv, Int.natCast_pow]; rfl
  have hlt : x.toNat / 2 ^ m < 4294967296 := Nat.lt_of_le_of_lt (Nat.div_le_self _ _) (by omega)
  have h := u32_and_nat (x.toNat / 2 ^ m) 1 hlt (by decide)
  rw [e, show (1 : Int) = ((1 : Nat) : Int) from rfl, h, Nat.and_one_is_mod, Nat.testBit_eq_decide_div_mod_eq]
  have := Nat.mod_two_eq_zero_or_one (x.toNat / 2 ^ m)
  rcases this with h0 | h0 <;> simp [h0]

set_option maxHeartbeats 1000000 in
theorem rsum_any (v : Value) (l : List UInt8) (w : World) (hv : ArgB w v l) (hl : l.length ≤ maxLen) :
    Calls Tryz.prog 23 #[v] w fun e w' => e = .returned (.int .u32 (crcI l)) ∧ w = w' := by
  obtain ⟨A, c, hv0, hc⟩ := hv.form
  subst hv0
  have HV := Lib.hid hv; clear hv
  unfold maxLen at hl
  go_enter Tryz.func23, Tryz.ntmps23
  go_wp2
  go_loopw [3, 4] (fun x i wr => ∃ k : Nat, k ≤ l.length ∧ i = .int .i64 k ∧ x = .int .u32 ((crcF 0xffffffff#32 (l.take k)).toNat : Int) ∧ wr = w) (fun _ i _ => l.length - (intOf i).toNat)
  case atStart => exact ⟨0, Nat.zero_le _, rfl, rfl, rfl⟩
  case round =>
    obtain ⟨k, hk, rfl, rfl, rfl⟩ := hrel
    by_cases hlt : k < l.length
    · have hk0 : (0 : Int) ≤ (k : Int) := by omega
      have hk1 : (k : Int) < (l.length : Int) := by omega
      obtain ⟨g, o, c', e1, hc', hxx⟩ := HV.out.at_ (by omega)
      have hx := hxx k _ (List.getElem?_eq_getElem hlt)
      clear hxx
      injection e1 with e1 _ e1c
      subst e1 e1c
      have HT := Lib.hid (take_snoc8 l k hlt)
      generalize l[k] = x at *
      generalize hy : crcF 0xffffffff#32 (l.take k) = y
      have HY := Lib.hid hy; clear hy
      have hxb := byte_bd x
      go_wp2
      go_loop [3, 5] (fun u i => ∃ m : Nat, m ≤ 8 ∧ i = .int .i64 m ∧ u = .int .u32 ((refSteps x y m).toNat : Int)) (fun _ i => 8 - (intOf i).toNat)
      case atStart => exact ⟨0, Nat.zero_le _, rfl, rfl⟩
      case round =>
        obtain ⟨m, hm, rfl, rfl⟩ := hrel
        have HN := Lib.hid (show refSteps x y (m + 1) = refStep (refSteps x y m) (x.toNat.testBit m) from rfl)
        have HB := Lib.hid (ref_byte x y)
        generalize hz : refSteps x y m = z at *
        have HZ := Lib.hid hz; clear hz
        by_cases hm8 : m < 8
        · have hm1 : (m : Int) < 8 := by omega
          have hmin : min m 32 = m := by omega
          have hlb := low_bit x m
          have hlz := low_u32 z
          generalize hbt : x.toNat.testBit m = bt at *
          generalize hzt : z.getLsbD 0 = zt at *
          have HBT := Lib.hid hbt; have HZT := Lib.hid hzt; clear hbt hzt
          have hstep := refStep_val z bt
          rw [HZT.out] at hstep
          have HS := Lib.hid hstep; clear hstep
          cases bt <;> cases zt
          all_goals
            simp only [if_true, Bool.false_eq_true, if_false] at hlb hlz
            go_wp2
            go_round
            case rel => exact ⟨m + 1, by omega, by go_num, by rw [HN.out, HS.out]; rfl⟩
            case measure => simp [intOf]; omega
        · have hm1 : ¬ (m : Int) < 8 := by omega
          obtain rfl : m = 8 := by omega
          go_wp2
          go_roundw
          case rel => exact ⟨k + 1, by omega, by go_num, by rw [HT.out, crcF_snoc, HY.out, ← HB.out, HZ.out], trivial⟩
          case measure => simp [intOf]; omega
    · have hk1 : ¬ (k : Int) < (l.length : Int) := by omega
      obtain rfl : k = l.length := by omega
      generalize hy : crcF 0xffffffff#32 (l.take l.length) = y
      have HY := Lib.hid hy; clear hy
      go_wp2
      go_ret
      refine ⟨?_, rfl⟩
      rw [List.take_length] at HY
      have e : crcI l = ((y ^^^ 0xffffffff#32).toNat : Int) := by unfold crcI crcS; rw [HY.out]
      rw [e, ← xor_u32]
      rfl


set_option maxHeartbeats 1000000 in
theorem rfour_any (n : Nat) (hn : n < 4294967296) (w : World) : Calls Tryz.prog 24 #[.int .u32 (n : Int)] w fun e w' => ∃ v, e = .returned v ∧ OwnB w' w.heap.size v (four n) ∧ Kp No w w' := by
  have HI := Tryz.infoByte
  go_enter Tryz.func24, Tryz.ntmps24
  go_wp2
  go_loopw [0, 3, 4] (fun x v i wr => ∃ k : Nat, k ≤ 4 ∧ i = .int .i64 k ∧ x = .int .u32 ((n / 256 ^ k : Nat) : Int) ∧ OwnB wr w.heap.size v ((four n).take k) ∧ Kp No w wr) (fun _ _ i _ => 4 - (intOf i).toNat)
  case atStart => exact ⟨0, Nat.zero_le _, rfl, by simp, OwnB.nil _ _, Kp.refl _ _⟩
  case round =>
    obtain ⟨k, hk, rfl, rfl, hown, hkp⟩ := hrel
    by_cases hlt : k < 4
    · have hk1 : (k : Int) < 4 := by omega
      have hlen : ((four n).take k).length = k := by simp; omega
      have hN := Lib.hid (show n / 256 ^ (k + 1) = n / 256 ^ k / 256 by rw [Nat.pow_succ, Nat.div_div_eq_div_mul])
      have HT := Lib.hid (show (four n).take (k + 1) = (four n).take k ++ [UInt8.ofNat (n / 256 ^ k)] by
        rcases k with _ | _ | _ | _ | k
        · simp [four]
        · simp [four]
        · simp [four]
        · simp [four]
        · omega)
      have hbd : n / 256 ^ k < 4294967296 := Nat.lt_of_le_of_lt (Nat.div_le_self _ _) hn
      generalize n / 256 ^ k = q at *
      have q0 : (0 : Int) ≤ (q : Int) := by omega
      have HU := Lib.hid (u8s_nat q)
      have HW := Lib.hid hown
      generalize (four n).take k = l at *
      have hsz : w.heap.size ≤ wr.heap.size := hkp.size
      have ha := fun o => HW.out.alloc' hlen o
      clear hown hlen
      go_wp2_with (at_builtin; refine wpList_appV _ rfl _ _ 30 rfl w.heap.size 5 _ 1 Tryz.underlying30 HI rfl _ k (u8s l) rfl (ha _) _ 1 1 [.int .u8 ((q : Int) % 256)] rfl rfl (cs_new rfl rfl) (by intro u hu; cases hu with | head => rfl | tail _ h => cases h) (by omega) (by omega) (by simp; omega) ?_)
      intro v' w' o1 k1 _
      have HO := Lib.hid (own_of o1 HU.out.symm)
      have HK := Lib.hid (kp_own (ha _) (hkp.alloc _) k1)
      clear o1 k1 ha
      go_wp2
      go_roundw
      case rel => exact ⟨k + 1, by omega, by go_num, by rw [hN.out]; rfl, by rw [HT.out]; exact HO.out, HK.out⟩
      case measure => simp [intOf]; omega
    · obtain rfl : k = 4 := by omega
      go_wp2
      go_ret
      exact ⟨_, rfl, hown, hkp⟩
end Go.Proofs.YtbnpdghfbiacaaaGreat

/- The document's Encode by contract. No condition beyond what each theorem states. -/
namespace Go.Proofs.YtbnpdghfbiacaaaGreat
open Go Go.RowKit Go.PlainAid

set_option maxRecDepth 100000 in
set_option maxHeartbeats 4000000 in
theorem rencode_any (m : Msg) (A : Option Addr) (c : Nat) (W : World) (hs : ArgInts W (.slice A m.stamp.length c) m.stamp) (hl : m.stamp.length ≤ maxLen) (hr : Rng m) (hp : m.path.length ≤ 140737488355328) :
    Calls Tryz.prog 10 #[.agg (mcells m (.slice A m.stamp.length c)).toArray] W (EncodeR W m) := by
  have kA : Kp No W (W.alloc (.cells (mcells m (.slice A m.stamp.length c)).toArray 28)) := (Kp.refl No W).alloc _
  have hB : Bk (W.alloc (.cells (mcells m (.slice A m.stamp.length c)).toArray 28)) W.heap.size 28 (mcells m (.slice A m.stamp.length c)) := Bk.new' rfl rfl
  have pv := rvalid6_any m A c _ (hs.no kA) hl hp
  have HB := Lib.hid hB; have HKA := Lib.hid kA; have HS := Lib.hid hs; have HR := Lib.hid hr
  clear hs hr hp hB kA
  unfold mcells at pv HB HKA ⊢
  go_enter Tryz.func10, Tryz.ntmps10
  go_wp2_with fail
  refine pv.mono ?_
  rintro e w1 ⟨rfl, k1⟩
  have HB1 := Lib.hid (HB.out.no k1); have HK1 := Lib.hid (HKA.out.trans k1)
  clear k1 pv HB HKA
  have HV : Hid (mayS vpP m ∨ ¬ mayS vpP m) := Lib.hid (Decidable.em _)
  rcases HV.out with hv | hv
  · have HE := Lib.hid (show encS vpP m = some (sumS (bodyS m)) by unfold encS; rw [if_pos hv])
    have d1 : decide (mayS vpP m) = true := by simpa using hv
    rw [d1]
    have hfit := (fit_of vpP_len hv).1
    have hbl : (bodyS m).length ≤ 196 := by
      have h := (enc_len vpP_len HE.out).2
      unfold sumS at h
      rw [List.length_append, four_length] at h; omega
    have pb := rbody_any m A c w1 (HS.out.no HK1.out) HR.out (by have := hfit.path; omega) (by have := hfit.slen; omega)
    unfold mcells at pb
    have HBL := Lib.hid hbl
    clear hfit hv d1 hbl
    obtain ⟨z0, z1, z2, z3, z4, z5, z6, z7, z8, z9, z10, z11, z12, z13, z14, z15⟩ := cells16 HB1.out
    go_wp2_with fail
    refine pb.mono ?_
    rintro e w2 ⟨vb, rfl, ho, k2⟩
    obtain ⟨A2, c2, rfl, _⟩ := own_len ho
    have hao := own_argB ho
    have ps : Calls Tryz.prog 23 #[.slice A2 (bodyS m).length c2] w2 fun e w' => e = .returned (.int .u32 ((crcS (bodyS m)).toNat : Int)) ∧ w2 = w' := rsum_any _ (bodyS m) w2 hao (by have := HBL.out; unfold maxLen; omega)
    have HO := Lib.hid ho; have HK2 := Lib.hid (HK1.out.trans k2); have HSZ := Lib.hid (show W.heap.size ≤ w1.heap.size from HK1.out.size)
    clear ho k2 pb hao z0 z1 z2 z3 z4 z5 z6 z7 z8 z9 z10 z11 z12 z13 z14 z15
    go_wp2_with fail
    refine ps.mono ?_
    rintro e w3 ⟨rfl, rfl⟩
    clear ps
    have pf := rfour_any (crcS (bodyS m)).toNat (crcS _).isLt w2
    go_wp2_with fail
    refine pf.mono ?_
    rintro e w3 ⟨v4, rfl, o4, k4⟩
    obtain ⟨A4, c4, rfl, _⟩ := own_len o4
    have HO3 := Lib.hid (HO.out.no k4)
    have HK3 := Lib.hid (HK2.out.trans k4)
    have hsz3 : W.heap.size ≤ w3.heap.size := HK3.out.size
    have HA4 := Lib.hid (own_argB o4)
    have H4 := Lib.hid (four_length (crcS (bodyS m)).toNat)
    have hbl2 := HBL.out
    clear pf o4 k4
    generalize hq : four (crcS (bodyS m)).toNat = q at *
    have HQ := Lib.hid hq; clear hq
    have h4l : q.length = 4 := H4.out
    have HL4 := Lib.hid h4l; clear h4l
    go_wp2_with (at_builtin; refine (wpList_appV _ rfl _ _ 30 rfl W.heap.size 5 _ 1 Tryz.underlying30 Tryz.infoByte rfl _ (bodyS m).length (u8s (bodyS m)) rfl (HO3.out.mono HSZ.out) A4 q.length c4 (u8s q) rfl (by simp) HA4.out.cs.1 (u8s_one _) (by have := HL4.out; omega) (by have := HL4.out; omega) hsz3 ?_); intro v5 w5 o5 k5 n5; have O5 := Lib.hid o5; have K5 := Lib.hid k5; clear o5 k5 n5)
    go_ret2
    have O6 : OwnB w5 W.heap.size v5 (bodyS m ++ q) := own_of O5.out rfl
    rw [← HQ.out] at O6
    exact ⟨.inr ⟨_, _, HE.out, rfl, O6⟩, kp_own (HO3.out.mono HSZ.out) HK3.out K5.out⟩
  · have HE := Lib.hid (show encS vpP m = none by unfold encS; rw [if_neg hv])
    have d1 : decide (mayS vpP m) = false := by simpa using hv
    rw [d1]
    clear hv d1
    go_wp2
    go_ret2
    exact ⟨.inl ⟨HE.out, rfl⟩, HK1.out⟩
end Go.Proofs.YtbnpdghfbiacaaaGreat
