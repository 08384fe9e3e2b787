/- Several texts of this claim in one. No condition beyond what each theorem states. -/
import Derived.Test.YtifdceofglocdaaB03
import Derived.PlainAid
import Derived.Test.YtifdceofglocdaaB01
import Derived.OwnWalk
import Derived.Test.YtifdceofglocdaaB04
/- The document's numbers as bytes, by contract. No condition beyond what each theorem states. -/
namespace Go.Proofs.Ytifdceofglocdaa
open Go Go.RowKit Go.PlainAid

set_option maxHeartbeats 1000000 in
theorem refNum_any (n : Int) (w : World) (hn : n < 9223372036854775808) : Calls Try.prog 84 #[.int .i64 n] w fun e w' => ∃ v, e = .returned v ∧ OwnB w' w.heap.size v (numS n.toNat) ∧ Kp No w w' := by
  obtain ⟨N, hN⟩ : ∃ N : Nat, n.toNat = N := ⟨_, rfl⟩
  rw [hN]
  have hlen : (numS N).length ≤ 9 := numS_len 8 N (by omega)
  have HL := Lib.hid hlen; clear hlen
  have hN63 : (N : Int) < 9223372036854775808 := by omega
  by_cases h0 : n < 0
  · obtain rfl : N = 0 := by omega
    clear hN
    go_enter Try.func84, Try.ntmps84
    go_wp2
    go_loopw [0, 3] (fun t v wr => ∃ (m : Nat) (l' : List UInt8), t = .int .i64 (m : Int) ∧ m ≤ 0 ∧ l' ++ numS m = numS 0 ∧ OwnB wr w.heap.size v l' ∧ Kp No w wr) (fun t _ _ => (intOf t).toNat)
    case atStart => exact ⟨0, [], rfl, Nat.le_refl _, rfl, OwnB.nil _ _, Kp.refl _ _⟩
    case round =>
      obtain ⟨m, l', rfl, hm, hl', ho, hk⟩ := hrel
      obtain ⟨A, c, rfl, _⟩ := own_len ho
      have hll : l'.length ≤ 9 := by
        have := congrArg List.length hl'
        rw [List.length_append] at this
        have := HL.out; omega
      have hsz : w.heap.size ≤ wr.heap.size := hk.size
      have HO := Lib.hid ho; have HK := Lib.hid hk; have HE := Lib.hid hl'; clear ho hk hl'
      have hm63 : (m : Int) < 9223372036854775808 := by omega
      by_cases hlt : 128 ≤ m
      · omega
      · have h1 : ¬ (128 : Int) ≤ (m : Int) := by omega
        go_wp2_with (at_builtin; refine wpList_app1 _ rfl _ _ 46 rfl w.heap.size 5 _ 1 1 Try.underlying46 Try.infoByte rfl (by omega) _ l'.length (u8s l') rfl (HO.out.alloc _) _ _ _ rfl (Bk.new' (by simp) rfl) rfl (by simp [Value.oneCell']) (by omega) (by omega) (by simp; omega) ?_; intro g1 cap1 w1 hown1 hk1 _)
        have HO1 : Hid (OwnB w1 w.heap.size _ (l' ++ [UInt8.ofNat m])) := Lib.hid (own_of (m := [UInt8.ofNat m]) hown1 (by rw [u8s_nat]; congr 2; omega))
        have HK1 := Lib.hid (kp_own HO.out HK.out (((Kp.refl (fun k => (Value.slice A l'.length c).ownBlock = some k) wr).alloc _).then_ hk1 fun _ _ e => e))
        clear hown1 hk1
        go_ret
        refine ⟨_, rfl, ?_, HK1.out⟩
        rw [← HE.out, numS_small (n := m) (by omega)]
        exact HO1.out
  · obtain rfl : n = (N : Int) := by omega
    clear hN
    go_enter Try.func84, Try.ntmps84
    go_wp2
    go_loopw [0, 3] (fun t v wr => ∃ (m : Nat) (l' : List UInt8), t = .int .i64 (m : Int) ∧ m ≤ N ∧ l' ++ numS m = numS N ∧ OwnB wr w.heap.size v l' ∧ Kp No w wr) (fun t _ _ => (intOf t).toNat)
    case atStart => exact ⟨N, [], rfl, Nat.le_refl _, rfl, OwnB.nil _ _, Kp.refl _ _⟩
    case round =>
      obtain ⟨m, l', rfl, hm, hl', ho, hk⟩ := hrel
      obtain ⟨A, c, rfl, _⟩ := own_len ho
      have hll : l'.length ≤ 9 := by
        have := congrArg List.length hl'
        rw [List.length_append] at this
        have := HL.out; omega
      have hsz : w.heap.size ≤ wr.heap.size := hk.size
      have HO := Lib.hid ho; have HK := Lib.hid hk; have HE := Lib.hid hl'; clear ho hk hl'
      have hm63 : (m : Int) < 9223372036854775808 := by omega
      by_cases hlt : 128 ≤ m
      · have h1 : (128 : Int) ≤ (m : Int) := by omega
        go_wp2_with (at_builtin; refine wpList_app1 _ rfl _ _ 46 rfl w.heap.size 5 _ 1 1 Try.underlying46 Try.infoByte rfl (by omega) _ l'.length (u8s l') rfl (HO.out.alloc _) _ _ _ rfl (Bk.new' (by simp) rfl) rfl (by simp [Value.oneCell']) (by omega) (by omega) (by simp; omega) ?_; intro g1 cap1 w1 hown1 hk1 _)
        have hu : (m % 128 + 128 : Nat) < 256 := by omega
        have HO1 : Hid (OwnB w1 w.heap.size _ (l' ++ [UInt8.ofNat (m % 128 + 128)])) := Lib.hid (own_of (m := [UInt8.ofNat (m % 128 + 128)]) hown1 (by rw [u8s_nat]; congr 2; omega))
        have HK1 := Lib.hid (kp_own HO.out HK.out (((Kp.refl (fun k => (Value.slice A l'.length c).ownBlock = some k) wr).alloc _).then_ hk1 fun _ _ e => e))
        clear hown1 hk1
        go_roundw
        case rel => exact ⟨m / 128, l' ++ [UInt8.ofNat (m % 128 + 128)], by go_num, by omega, by rw [← HE.out, numS_big (n := m) (by omega), List.append_assoc]; rfl, HO1.out, HK1.out⟩
        case measure => simp [intOf]; omega
      · have h1 : ¬ (128 : Int) ≤ (m : Int) := by omega
        go_wp2_with (at_builtin; refine wpList_app1 _ rfl _ _ 46 rfl w.heap.size 5 _ 1 1 Try.underlying46 Try.infoByte rfl (by omega) _ l'.length (u8s l') rfl (HO.out.alloc _) _ _ _ rfl (Bk.new' (by simp) rfl) rfl (by simp [Value.oneCell']) (by omega) (by omega) (by simp; omega) ?_; intro g1 cap1 w1 hown1 hk1 _)
        have HO1 : Hid (OwnB w1 w.heap.size _ (l' ++ [UInt8.ofNat m])) := Lib.hid (own_of (m := [UInt8.ofNat m]) hown1 (by rw [u8s_nat]; congr 2; omega))
        have HK1 := Lib.hid (kp_own HO.out HK.out (((Kp.refl (fun k => (Value.slice A l'.length c).ownBlock = some k) wr).alloc _).then_ hk1 fun _ _ e => e))
        clear hown1 hk1
        go_ret
        refine ⟨_, rfl, ?_, HK1.out⟩
        rw [← HE.out, numS_small (n := m) (by omega)]
        exact HO1.out
end Go.Proofs.Ytifdceofglocdaa

/- The document's texts as bytes, by contract. No condition beyond what each theorem states. -/
namespace Go.Proofs.Ytifdceofglocdaa
open Go Go.RowKit Go.PlainAid

set_option maxHeartbeats 1000000 in
theorem refText_any (s : ByteArray) (w : World) (hs : s.size ≤ 1000000) : Calls Try.prog 59 #[.string s] w fun e w' => ∃ v, e = .returned v ∧ OwnB w' w.heap.size v (textS s.data.toList) ∧ Kp No w w' := by
  have hb := get_bt s
  have pn := refNum_any (s.size : Int) w (by omega)
  rw [Int.toNat_natCast] at pn
  have HL := Lib.hid (numS_len 8 s.size (by omega))
  have HT := Lib.hid (show textS s.data.toList = numS s.size ++ s.data.toList by simp [textS])
  go_enter Try.func59, Try.ntmps59
  go_wp2_with fail
  refine pn.mono ?_
  rintro e w1 ⟨v1, rfl, o1, k1⟩
  have HO1 := Lib.hid o1; have HK1 := Lib.hid k1
  clear o1 k1 pn
  go_wp2
  go_loopw [3, 4] (fun v i wr => ∃ k : Nat, k ≤ s.size ∧ i = .int .i64 k ∧ OwnB wr w.heap.size v (numS s.size ++ s.data.toList.take k) ∧ Kp No w wr) (fun _ i _ => s.size - (intOf i).toNat)
  case atStart => exact ⟨0, Nat.zero_le _, rfl, by rw [List.take_zero, List.append_nil]; exact HO1.out, HK1.out⟩
  case round =>
    obtain ⟨k, hk, rfl, ho, hK⟩ := hrel
    obtain ⟨l', hle⟩ : ∃ l', l' = numS s.size ++ s.data.toList.take k := ⟨_, rfl⟩
    rw [← hle] at ho
    obtain ⟨A, c, rfl, _⟩ := own_len ho
    by_cases hlt : k < s.size
    · have hk0 : (0 : Int) ≤ (k : Int) := by omega
      have hk1 : (k : Int) < (s.size : Int) := by omega
      have hl' : k < s.data.toList.length := by simpa using hlt
      have hc : bt s k = (((s.data.toList[k]'hl').toNat : Nat) : Int) := by
        rw [← hb k hlt]; simp [ByteArray.getElem_eq_getElem_data]
      have hT : s.data.toList.take (k + 1) = s.data.toList.take k ++ [s.data.toList[k]'hl'] := List.take_succ_eq_append_getElem hl'
      generalize s.data.toList[k]'hl' = x at *
      have hll : (numS s.size ++ s.data.toList.take k).length ≤ 2000000 := by
        have := HL.out; rw [List.length_append, List.length_take]; omega
      have HTT := Lib.hid hT; have HC := Lib.hid hc
      clear hT hc
      rw [← hle] at hll
      have HLE := Lib.hid hle; clear hle
      have hsz : w.heap.size ≤ wr.heap.size := hK.size
      have HO := Lib.hid ho; have HK := Lib.hid hK; clear ho hK
      go_wp2_with (at_builtin; refine wpList_app1 _ rfl _ _ 46 rfl w.heap.size 5 _ 1 1 Try.underlying46 Try.infoByte rfl (by omega) _ l'.length (u8s l') rfl (HO.out.alloc _) _ _ _ rfl (Bk.new' (by simp) rfl) rfl (by simp [Value.oneCell']) (by omega) (by omega) (by simp; omega) ?_; intro g1 cap1 w1 hown1 hk1 _)
      rw [HC.out] at hown1
      have HO2 : Hid (OwnB w1 w.heap.size _ (l' ++ [x])) := Lib.hid (own_of (m := [x]) hown1 rfl)
      have HK2 := Lib.hid (kp_own HO.out HK.out (((Kp.refl (fun k => (Value.slice A l'.length c).ownBlock = some k) wr).alloc _).then_ hk1 fun _ _ e => e))
      clear hown1 hk1
      go_roundw
      case rel => exact ⟨k + 1, by omega, by go_num, by rw [HTT.out, ← List.append_assoc, ← HLE.out]; exact HO2.out, HK2.out⟩
      case measure => simp [intOf]; omega
    · have hk' : k = s.size := by omega
      have hk1 : ¬ (k : Int) < (s.size : Int) := by omega
      have HLE := Lib.hid (show l' = textS s.data.toList by rw [HT.out, hle, List.take_of_length_le (by simp; omega)])
      have HO := Lib.hid ho; have HK := Lib.hid hK
      clear hk' ho hK hle
      go_wp2
      go_ret
      exact ⟨_, rfl, by rw [← HLE.out]; exact HO.out, HK.out⟩
end Go.Proofs.Ytifdceofglocdaa

/- The document's TakeNum by contract. No condition beyond what each theorem states. -/
namespace Go.Proofs.Ytifdceofglocdaa
open Go Go.RowKit Go.PlainAid

set_option maxRecDepth 100000 in
set_option maxHeartbeats 2000000 in
theorem refTake_any (A : Option Addr) (c : Nat) (l : List UInt8) (w : World) (hv : ArgB w (.slice A l.length c) l) (hm : l.length ≤ maxLen) :
    Calls Try.prog 97 #[.slice A l.length c] w fun e w' => e = .returned (.tuple #[.int .i64 ((takeN 0 l).1 : Int), .int .i64 ((takeN 0 l).2.1 : Int), .int .i64 (takeN 0 l).2.2]) ∧ w = w' := by
  have HV := Lib.hid hv; clear hv
  unfold maxLen at hm
  go_enter Try.func97, Try.ntmps97
  go_wp2
  go_loopw [5, 6, 7] (fun t u i wr => ∃ k acc q : Nat, k ≤ l.length ∧ k ≤ 8 ∧ acc < 128 ^ k ∧ q = 128 ^ k ∧ t = .int .i64 (acc : Int) ∧ u = .int .i64 (q : Int) ∧ i = .int .i64 k ∧ wr = w ∧ takeA acc k (l.drop k) = takeN 0 l) (fun _ _ i _ => l.length - (intOf i).toNat)
  case atStart => exact ⟨0, 0, 1, Nat.zero_le _, by omega, by decide, rfl, rfl, rfl, rfl, rfl, by rw [List.drop_zero]; exact takeA_start l⟩
  case round =>
    obtain ⟨k, acc, q, hk, hk8, hacc, hq, rfl, rfl, rfl, rfl, hT⟩ := hrel
    have HT := Lib.hid hT; clear hT
    have hp := pow_le8 hk8
    rw [← hq] at hacc hp
    have HQ := Lib.hid hq; clear hq
    have hk9 : (k : Int) < 9 := by omega
    by_cases hlt : k < l.length
    · have hk0 : (0 : Int) ≤ (k : Int) := by omega
      have hk1 : (k : Int) < (l.length : Int) := by omega
      have hk2 : ¬ (l.length : Int) ≤ (k : Int) := by omega
      obtain ⟨g, o, c', e1, hcl, hxx⟩ := HV.out.at_ (by omega)
      have hx := hxx k _ (List.getElem?_eq_getElem hlt)
      clear hxx
      injection e1 with e1 _ e1c
      subst e1 e1c
      have HD := Lib.hid (List.drop_eq_getElem_cons hlt)
      generalize l[k] = x at *
      have xb := byte_bd x
      obtain ⟨y, hy⟩ : ∃ y, x.toNat = y := ⟨_, rfl⟩
      rw [hy] at xb hx
      have HY := Lib.hid hy; clear hy
      by_cases hx1 : y < 128
      · have d1 : (y : Int) < 128 := by omega
        by_cases hx2 : y = 0 ∧ 0 < k
        · obtain ⟨rfl, hk3⟩ := hx2
          have d2 : (0 : Int) < (k : Int) := by omega
          have HR := Lib.hid (show takeN 0 l = (0, 0, 21) by rw [← HT.out, HD.out]; exact takeA_zero acc k x _ HY.out hk3)
          go_wp2
          go_ret3
          exact ⟨by rw [HR.out]; rfl, rfl⟩
        · have HR := Lib.hid (show takeN 0 l = (acc + y * q, k + 1, 0) by
            rw [← HT.out, HD.out, takeA_last acc k x _ (by rw [HY.out]; omega) (by rw [HY.out]; exact hx2), HY.out, HQ.out])
          have hmul : y * q ≤ 127 * 72057594037927936 := Nat.mul_le_mul (by omega) hp
          have hw1 : IntKind.i64.wrap ((y : Int) * (q : Int)) = ((y * q : Nat) : Int) := by rw [IntKind.wrap_i64, ← Int.natCast_mul]; omega
          have hw2 : IntKind.i64.wrap ((acc : Int) + ((y * q : Nat) : Int)) = ((acc + y * q : Nat) : Int) := by rw [IntKind.wrap_i64]; omega
          have hd : (y = 0 ∧ k = 0) ∨ y ≠ 0 := by omega
          rcases hd with ⟨rfl, rfl⟩ | hd
          · have HZ := Lib.hid (show ((acc + 0 * q : Nat) : Int) = (acc : Int) by omega)
            have hne : ¬ l = [] := fun h => by rw [h] at hlt; simp at hlt
            have hx0 : wr.cell? ⟨g, o, none⟩ = some (.int .u8 0) := hx
            clear hw1 hw2 hmul hx hx2 xb
            go_wp2
            go_ret3
            refine ⟨?_, rfl⟩
            rw [HR.out]
            simp only [HZ.out]
            first | rfl | simp
          · have d2 : ((y : Int) == 0) = false := by rw [beq_eq_false_iff_ne]; omega
            go_wp2
            go_ret3
            refine ⟨?_, rfl⟩
            rw [HR.out]
            simp only [Int.natCast_add, Int.natCast_mul]
            rfl
      · have d1 : ¬ (y : Int) < 128 := by omega
        by_cases h8 : k = 8
        · subst h8
          have HR := Lib.hid (show takeN 0 l = (0, 0, 21) by rw [← HT.out, HD.out]; exact takeA_long acc x _ (by rw [HY.out]; omega))
          go_wp2
          go_ret3
          exact ⟨by rw [HR.out]; rfl, rfl⟩
        · have d2 : ((k : Int) == 8) = false := by rw [beq_eq_false_iff_ne]; omega
          have HR := Lib.hid (show takeA (acc + (y - 128) * q) (k + 1) (l.drop (k + 1)) = takeN 0 l by
            rw [← HT.out, HD.out, takeA_more acc k x _ (by rw [HY.out]; omega) h8, HY.out, HQ.out])
          have hq7 : q ≤ 562949953421312 := by
            have : 128 ^ k ≤ 128 ^ 7 := Nat.pow_le_pow_right (by omega) (by omega)
            rw [HQ.out]; simpa using this
          have hmul : (y - 128) * q ≤ 127 * q := Nat.mul_le_mul_right _ (by omega)
          have hmz : ((y : Int) - 128) * (q : Int) = (((y - 128) * q : Nat) : Int) := by rw [Int.natCast_mul]; congr 1; omega
          have HB := Lib.hid (show acc + (y - 128) * q < 128 ^ (k + 1) by rw [Nat.pow_succ, ← HQ.out]; omega)
          have HQ2 := Lib.hid (show q * 128 = 128 ^ (k + 1) by rw [Nat.pow_succ, ← HQ.out])
          have hb1 : 0 ≤ ((y : Int) - 128) * (q : Int) ∧ ((y : Int) - 128) * (q : Int) ≤ 127 * 562949953421312 := by rw [hmz]; omega
          obtain ⟨hb2, hb3⟩ := hb1
          have HM := Lib.hid hmz; clear hmz
          go_wp2
          go_roundw
          case rel => exact ⟨k + 1, acc + (y - 128) * q, q * 128, by omega, by omega, HB.out, HQ2.out, by rw [Int.natCast_add, ← HM.out], by rw [Int.natCast_mul]; rfl, by go_num, by trivial, HR.out⟩
          case measure => simp [intOf]; omega
    · have hk' : k = l.length := by omega
      have hk1 : (l.length : Int) ≤ (k : Int) := by omega
      have HR := Lib.hid (show takeN 0 l = (0, 0, 20) by rw [← HT.out, List.drop_of_length_le (by omega)]; exact takeA_nil acc k)
      clear hk'
      go_wp2
      go_ret3
      exact ⟨by rw [HR.out]; rfl, rfl⟩
end Go.Proofs.Ytifdceofglocdaa

/- The document's ReadNum by contract. No condition beyond what each theorem states. -/
namespace Go.Proofs.Ytifdceofglocdaa
open Go Go.RowKit Go.PlainAid

theorem slice_from {w : World} {g o c : Nat} {l : List UInt8} (h : ArgB w (.slice (some ⟨g, o, none⟩) l.length c) l) (k : Nat) (hk : k ≤ l.length) :
    ∃ o2, (∀ W, (Instr.slice 46 (.slice (some ⟨g, o, none⟩) l.length c) (some (.int .i64 (k : Int))) none none).run Try.prog W = .ok (.slice (some ⟨g, o2, none⟩) (l.length - k) (c - k)) W) ∧ ArgB w (.slice (some ⟨g, o2, none⟩) (l.drop k).length (c - k)) (l.drop k) := by
  have hc : l.length ≤ c := by obtain ⟨_, _, hc⟩ := h.cs; exact hc
  have hu : Try.prog.underlying 46 = some (.slice (Try.prog.elem 46)) := by kernel_rfl
  have hsz : ∀ W, (sizeOf (Try.prog.elem 46)).run Try.prog W = .ok 1 W := fun W => by kernel_rfl
  rw [List.length_drop]
  by_cases hck : c = k
  · have hd : l.drop k = [] := List.drop_of_length_le (by omega)
    refine ⟨o, fun W => ?_, ?_⟩
    · rw [run_slice_l (P := Try.prog) W 46 _ _ _ hu .i64 _ (by omega) (by omega), hsz]
      simp [Result.andThen, sliced, hck]
    · rw [hd, show l.length - k = 0 by omega]; exact ArgB.nil _ _ _
  · refine ⟨o + k, fun W => ?_, h.drop k hk⟩
    rw [run_slice_l (P := Try.prog) W 46 _ _ _ hu .i64 _ (by omega) (by omega), hsz]
    simp [Result.andThen, sliced, hck, Addr.add_mid]
/-- what a reading answers: the reader behind it lies where it lay -/
def RefRd (w : World) (v : Value) (s : Rd) (x : Value) (e : Ending) (w' : World) : Prop :=
  ∃ v', e = .returned (.tuple #[x, .agg #[v', .int .i64 s.2]]) ∧ ArgB w' v' s.1 ∧ SameBlk v v' ∧ Kp No w w'
set_option maxRecDepth 100000 in
set_option maxHeartbeats 2000000 in
theorem refRead_err (A : Option Addr) (c : Nat) (l : List UInt8) (err : Int) (w : World) (hv : ArgB w (.slice A l.length c) l) (he : err ≠ 0) :
    Calls Try.prog 86 #[.agg #[.slice A l.length c, .int .i64 err]] w (RefRd w (.slice A l.length c) (rdNum (l, err)).2 (.int .i64 ((rdNum (l, err)).1 : Int))) := by
  have e1 : rdNum (l, err) = (0, (l, err)) := by unfold rdNum; simp [he]
  rw [e1]
  have HV := Lib.hid hv; clear hv
  have d1 : (err != 0) = true := by rw [bne_iff_ne]; exact he
  clear he e1
  go_enter Try.func86, Try.ntmps86
  go_wp2
  go_region
  all_goals
    go_wp2
    have K : Kp No w ((w.alloc (.cells #[.slice A l.length c, .int .i64 err] 94)).alloc (.cells #[.slice A l.length c, .int .i64 err] 94)).drew := (((Kp.refl No w).alloc _).alloc _).drew
    refine bodyPost_ret (v := .tuple #[.int .i64 0, .agg #[.slice A l.length c, .int .i64 err]]) (by simp [results, Try.results86, go_sem]) rfl ?_
    exact ⟨_, rfl, HV.out.no K, fun g h => h, K⟩
set_option maxRecDepth 100000 in
set_option maxHeartbeats 2000000 in
theorem refRead_any (A : Option Addr) (c : Nat) (l : List UInt8) (w : World) (hv : ArgB w (.slice A l.length c) l) (hm : l.length ≤ maxLen) :
    Calls Try.prog 86 #[.agg #[.slice A l.length c, .int .i64 0]] w (RefRd w (.slice A l.length c) (rdNum (l, 0)).2 (.int .i64 ((rdNum (l, 0)).1 : Int))) := by
  have kA : Kp No w ((w.alloc (.cells #[.slice A l.length c, .int .i64 0] 94)).alloc (.cells #[.slice none 0 0, .int .i64 0] 94)) := ((Kp.refl No w).alloc _).alloc _
  have pt := refTake_any A c l _ (hv.no kA) hm
  have HK := Lib.hid kA
  obtain ⟨n, k, er, ht⟩ : ∃ n k er, takeN 0 l = (n, k, er) := ⟨_, _, _, rfl⟩
  have hkl := takeN_len l
  rw [ht] at pt hkl
  simp only at pt hkl
  by_cases he : er = 0
  · subst he
    have e1 : rdNum (l, 0) = (n, (l.drop k, 0)) := by unfold rdNum; simp [ht]
    rw [e1]
    have hpos : 0 < l.length := by
      rcases Nat.eq_zero_or_pos l.length with h0 | h0
      · rw [List.eq_nil_of_length_eq_zero h0] at ht
        simp [takeN] at ht
      · exact h0
    obtain ⟨g, o, c', e2, _⟩ := hv.at_ hpos
    injection e2 with e2 _ e3
    subst e2 e3
    obtain ⟨o2, hsl, ha2⟩ := slice_from hv k hkl
    have HA := Lib.hid ha2
    have hk1 : (k : Int) ≤ (l.length : Int) := by omega
    clear hv ht e1 kA ha2
    go_enter Try.func86, Try.ntmps86
    go_wp2_with fail
    refine pt.mono ?_
    rintro e w' ⟨rfl, rfl⟩
    clear pt
    go_wp2
    go_region
    all_goals
      go_wp2
      have K : Kp No w ((w.alloc (.cells #[.slice (some ⟨g, o, none⟩) l.length c, .int .i64 0] 94)).alloc (.cells #[.slice (some ⟨g, o2, none⟩) (l.length - k) (c - k), .int .i64 0] 94)).drew := (((Kp.refl No w).alloc _).alloc _).drew
      have ha := HA.out
      rw [List.length_drop] at ha
      refine bodyPost_ret (v := .tuple #[.int .i64 (n : Int), .agg #[.slice (some ⟨g, o2, none⟩) (l.length - k) (c - k), .int .i64 0]]) (by simp [results, Try.results86, go_sem]) rfl ?_
      exact ⟨_, rfl, ha.no K, fun g' h => by simpa [Value.ownBlock] using h, K⟩
  · have hb := takeN_bad l 0 (by rw [ht]; exact he)
    rw [ht] at hb
    obtain ⟨rfl, rfl⟩ : n = 0 ∧ k = 0 := hb
    have e1 : rdNum (l, 0) = (0, (l, er)) := by unfold rdNum; simp [ht, he]
    rw [e1]
    have d1 : (er != 0) = true := by rw [bne_iff_ne]; exact he
    have HV := Lib.hid hv
    clear hv ht e1 kA he
    go_enter Try.func86, Try.ntmps86
    go_wp2_with fail
    refine pt.mono ?_
    rintro e w' ⟨rfl, rfl⟩
    clear pt
    go_wp2
    go_region
    all_goals
      go_wp2
      have K : Kp No w ((w.alloc (.cells #[.slice A l.length c, .int .i64 0] 94)).alloc (.cells #[.slice A l.length c, .int .i64 er] 94)).drew := (((Kp.refl No w).alloc _).alloc _).drew
      refine bodyPost_ret (v := .tuple #[.int .i64 0, .agg #[.slice A l.length c, .int .i64 er]]) (by simp [results, Try.results86, go_sem]) rfl ?_
      exact ⟨_, rfl, HV.out.no K, fun g h => h, K⟩
theorem refReadNum_any (A : Option Addr) (c : Nat) (s : Rd) (w : World) (hv : ArgB w (.slice A s.1.length c) s.1) (hm : s.1.length ≤ maxLen) :
    Calls Try.prog 86 #[.agg #[.slice A s.1.length c, .int .i64 s.2]] w (RefRd w (.slice A s.1.length c) (rdNum s).2 (.int .i64 ((rdNum s).1 : Int))) := by
  obtain ⟨l, err⟩ := s
  by_cases he : err = 0
  · subst he; exact refRead_any A c l w hv hm
  · exact refRead_err A c l err w hv he
end Go.Proofs.Ytifdceofglocdaa
