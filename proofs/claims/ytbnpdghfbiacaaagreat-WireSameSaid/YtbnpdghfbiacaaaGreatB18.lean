/- Several texts of this claim in one. No condition beyond what each theorem states. -/
import Derived.Test.YtbnpdghfbiacaaaGreatB02
import Derived.PlainAid
import Derived.Test.YtbnpdghfbiacaaaGreatB01
import Derived.Test.YtbnpdghfbiacaaaGreatB06
import Derived.Test.YtbnpdghfbiacaaaGreatB04
/- The document's numbers as bytes, by contract. No condition beyond what each theorem states. -/
namespace Go.Proofs.YtbnpdghfbiacaaaGreat
open Go Go.RowKit Go.PlainAid

set_option maxHeartbeats 1000000 in
theorem refNum_any (n : Int) (w : World) (hn : n < 9223372036854775808) : Calls Tryz.prog 80 #[.int .i64 n] w fun e w' => ∃ v, e = .returned v ∧ OwnB w' w.heap.size v (numS n.toNat) ∧ Kp No w w' := by
  obtain ⟨N, hN⟩ : ∃ N : Nat, n.toNat = N := ⟨_, rfl⟩
  rw [hN]
  have hlen : (numS N).length ≤ 9 := numS_len 8 N (by omega)
  have HL := Lib.hid hlen; clear hlen
  have hN63 : (N : Int) < 9223372036854775808 := by omega
  by_cases h0 : n < 0
  · obtain rfl : N = 0 := by omega
    clear hN
    go_enter Tryz.func80, Tryz.ntmps80
    go_wp2
    go_loopw [0, 3] (fun t v wr => ∃ (m : Nat) (l' : List UInt8), t = .int .i64 (m : Int) ∧ m ≤ 0 ∧ l' ++ numS m = numS 0 ∧ OwnB wr w.heap.size v l' ∧ Kp No w wr) (fun t _ _ => (intOf t).toNat)
    case atStart => exact ⟨0, [], rfl, Nat.le_refl _, rfl, OwnB.nil _ _, Kp.refl _ _⟩
    case round =>
      obtain ⟨m, l', rfl, hm, hl', ho, hk⟩ := hrel
      obtain ⟨A, c, rfl, _⟩ := own_len ho
      have hll : l'.length ≤ 9 := by
        have := congrArg List.length hl'
        rw [List.length_append] at this
        have := HL.out; omega
      have hsz : w.heap.size ≤ wr.heap.size := hk.size
      have HO := Lib.hid ho; have HK := Lib.hid hk; have HE := Lib.hid hl'; clear ho hk hl'
      have hm63 : (m : Int) < 9223372036854775808 := by omega
      by_cases hlt : 128 ≤ m
      · omega
      · have h1 : ¬ (128 : Int) ≤ (m : Int) := by omega
        go_wp2_with (at_builtin; refine wpList_app1 _ rfl _ _ 30 rfl w.heap.size 5 _ 1 1 Tryz.underlying30 Tryz.infoByte rfl (by omega) _ l'.length (u8s l') rfl (HO.out.alloc _) _ _ _ rfl (Bk.new' (by simp) rfl) rfl (by simp [Value.oneCell']) (by omega) (by omega) (by simp; omega) ?_; intro g1 cap1 w1 hown1 hk1 _)
        have HO1 : Hid (OwnB w1 w.heap.size _ (l' ++ [UInt8.ofNat m])) := Lib.hid (own_of (m := [UInt8.ofNat m]) hown1 (by rw [u8s_nat]; congr 2; omega))
        have HK1 := Lib.hid (kp_own HO.out HK.out (((Kp.refl (fun k => (Value.slice A l'.length c).ownBlock = some k) wr).alloc _).then_ hk1 fun _ _ e => e))
        clear hown1 hk1
        go_ret
        refine ⟨_, rfl, ?_, HK1.out⟩
        rw [← HE.out, numS_small (n := m) (by omega)]
        exact HO1.out
  · obtain rfl : n = (N : Int) := by omega
    clear hN
    go_enter Tryz.func80, Tryz.ntmps80
    go_wp2
    go_loopw [0, 3] (fun t v wr => ∃ (m : Nat) (l' : List UInt8), t = .int .i64 (m : Int) ∧ m ≤ N ∧ l' ++ numS m = numS N ∧ OwnB wr w.heap.size v l' ∧ Kp No w wr) (fun t _ _ => (intOf t).toNat)
    case atStart => exact ⟨N, [], rfl, Nat.le_refl _, rfl, OwnB.nil _ _, Kp.refl _ _⟩
    case round =>
      obtain ⟨m, l', rfl, hm, hl', ho, hk⟩ := hrel
      obtain ⟨A, c, rfl, _⟩ := own_len ho
      have hll : l'.length ≤ 9 := by
        have := congrArg List.length hl'
        rw [List.length_append] at this
        have := HL.out; omega
      have hsz : w.heap.size ≤ wr.heap.size := hk.size
      have HO := Lib.hid ho; have HK := Lib.hid hk; have HE := Lib.hid hl'; clear ho hk hl'
      have hm63 : (m : Int) < 9223372036854775808 := by omega
      by_cases hlt : 128 ≤ m
      · have h1 : (128 : Int) ≤ (m : Int) := by omega
        go_wp2_with (at_builtin; refine wpList_app1 _ rfl _ _ 30 rfl w.heap.size 5 _ 1 1 Tryz.underlying30 Tryz.infoByte rfl (by omega) _ l'.length (u8s l') rfl (HO.out.alloc _) _ _ _ rfl (Bk.new' (by simp) rfl) rfl (by simp [Value.oneCell']) (by omega) (by omega) (by simp; omega) ?_; intro g1 cap1 w1 hown1 hk1 _)
        have hu : (m % 128 + 128 : Nat) < 256 := by omega
        have HO1 : Hid (OwnB w1 w.heap.size _ (l' ++ [UInt8.ofNat (m % 128 + 128)])) := Lib.hid (own_of (m := [UInt8.ofNat (m % 128 + 128)]) hown1 (by rw [u8s_nat]; congr 2; omega))
        have HK1 := Lib.hid (kp_own HO.out HK.out (((Kp.refl (fun k => (Value.slice A l'.length c).ownBlock = some k) wr).alloc _).then_ hk1 fun _ _ e => e))
        clear hown1 hk1
        go_roundw
        case rel => exact ⟨m / 128, l' ++ [UInt8.ofNat (m % 128 + 128)], by go_num, by omega, by rw [← HE.out, numS_big (n := m) (by omega), List.append_assoc]; rfl, HO1.out, HK1.out⟩
        case measure => simp [intOf]; omega
      · have h1 : ¬ (128 : Int) ≤ (m : Int) := by omega
        go_wp2_with (at_builtin; refine wpList_app1 _ rfl _ _ 30 rfl w.heap.size 5 _ 1 1 Tryz.underlying30 Tryz.infoByte rfl (by omega) _ l'.length (u8s l') rfl (HO.out.alloc _) _ _ _ rfl (Bk.new' (by simp) rfl) rfl (by simp [Value.oneCell']) (by omega) (by omega) (by simp; omega) ?_; intro g1 cap1 w1 hown1 hk1 _)
        have HO1 : Hid (OwnB w1 w.heap.size _ (l' ++ [UInt8.ofNat m])) := Lib.hid (own_of (m := [UInt8.ofNat m]) hown1 (by rw [u8s_nat]; congr 2; omega))
        have HK1 := Lib.hid (kp_own HO.out HK.out (((Kp.refl (fun k => (Value.slice A l'.length c).ownBlock = some k) wr).alloc _).then_ hk1 fun _ _ e => e))
        clear hown1 hk1
        go_ret
        refine ⟨_, rfl, ?_, HK1.out⟩
        rw [← HE.out, numS_small (n := m) (by omega)]
        exact HO1.out
end Go.Proofs.YtbnpdghfbiacaaaGreat

/- The document's texts as bytes, by contract. No condition beyond what each theorem states. -/
namespace Go.Proofs.YtbnpdghfbiacaaaGreat
open Go Go.RowKit Go.PlainAid

set_option maxHeartbeats 1000000 in
theorem refText_any (s : ByteArray) (w : World) (hs : s.size ≤ 1000000) : Calls Tryz.prog 45 #[.string s] w fun e w' => ∃ v, e = .returned v ∧ OwnB w' w.heap.size v (textS s.data.toList) ∧ Kp No w w' := by
  have hb := get_bt s
  have pn := refNum_any (s.size : Int) w (by omega)
  rw [Int.toNat_natCast] at pn
  have HL := Lib.hid (numS_len 8 s.size (by omega))
  have HT := Lib.hid (show textS s.data.toList = numS s.size ++ s.data.toList by simp [textS])
  go_enter Tryz.func45, Tryz.ntmps45
  go_wp2_with fail
  refine pn.mono ?_
  rintro e w1 ⟨v1, rfl, o1, k1⟩
  have HO1 := Lib.hid o1; have HK1 := Lib.hid k1
  clear o1 k1 pn
  go_wp2
  go_loopw [3, 4] (fun v i wr => ∃ k : Nat, k ≤ s.size ∧ i = .int .i64 k ∧ OwnB wr w.heap.size v (numS s.size ++ s.data.toList.take k) ∧ Kp No w wr) (fun _ i _ => s.size - (intOf i).toNat)
  case atStart => exact ⟨0, Nat.zero_le _, rfl, by rw [List.take_zero, List.append_nil]; exact HO1.out, HK1.out⟩
  case round =>
    obtain ⟨k, hk, rfl, ho, hK⟩ := hrel
    obtain ⟨l', hle⟩ : ∃ l', l' = numS s.size ++ s.data.toList.take k := ⟨_, rfl⟩
    rw [← hle] at ho
    obtain ⟨A, c, rfl, _⟩ := own_len ho
    by_cases hlt : k < s.size
    · have hk0 : (0 : Int) ≤ (k : Int) := by omega
      have hk1 : (k : Int) < (s.size : Int) := by omega
      have hl' : k < s.data.toList.length := by simpa using hlt
      have hc : bt s k = (((s.data.toList[k]'hl').toNat : Nat) : Int) := by
        rw [← hb k hlt]; simp [ByteArray.getElem_eq_getElem_data]
      have hT : s.data.toList.take (k + 1) = s.data.toList.take k ++ [s.data.toList[k]'hl'] := List.take_succ_eq_append_getElem hl'
      generalize s.data.toList[k]'hl' = x at *
      have hll : (numS s.size ++ s.data.toList.take k).length ≤ 2000000 := by
        have := HL.out; rw [List.length_append, List.length_take]; omega
      have HTT := Lib.hid hT; have HC := Lib.hid hc
      clear hT hc
      rw [← hle] at hll
      have HLE := Lib.hid hle; clear hle
      have hsz : w.heap.size ≤ wr.heap.size := hK.size
      have HO := Lib.hid ho; have HK := Lib.hid hK; clear ho hK
      go_wp2_with (at_builtin; refine wpList_app1 _ rfl _ _ 30 rfl w.heap.size 5 _ 1 1 Tryz.underlying30 Tryz.infoByte rfl (by omega) _ l'.length (u8s l') rfl (HO.out.alloc _) _ _ _ rfl (Bk.new' (by simp) rfl) rfl (by simp [Value.oneCell']) (by omega) (by omega) (by simp; omega) ?_; intro g1 cap1 w1 hown1 hk1 _)
      rw [HC.out] at hown1
      have HO2 : Hid (OwnB w1 w.heap.size _ (l' ++ [x])) := Lib.hid (own_of (m := [x]) hown1 rfl)
      have HK2 := Lib.hid (kp_own HO.out HK.out (((Kp.refl (fun k => (Value.slice A l'.length c).ownBlock = some k) wr).alloc _).then_ hk1 fun _ _ e => e))
      clear hown1 hk1
      go_roundw
      case rel => exact ⟨k + 1, by omega, by go_num, by rw [HTT.out, ← List.append_assoc, ← HLE.out]; exact HO2.out, HK2.out⟩
      case measure => simp [intOf]; omega
    · have hk' : k = s.size := by omega
      have hk1 : ¬ (k : Int) < (s.size : Int) := by omega
      have HLE := Lib.hid (show l' = textS s.data.toList by rw [HT.out, hle, List.take_of_length_le (by simp; omega)])
      have HO := Lib.hid ho; have HK := Lib.hid hK
      clear hk' ho hK hle
      go_wp2
      go_ret
      exact ⟨_, rfl, by rw [← HLE.out]; exact HO.out, HK.out⟩
end Go.Proofs.YtbnpdghfbiacaaaGreat

/- The document's small tests, and lists of numbers, by contract. No condition beyond what each theorem states. -/
namespace Go.Proofs.YtbnpdghfbiacaaaGreat
open Go Go.RowKit Go.PlainAid

theorem rnode_any (n : Int) (w : World) : Calls Tryz.prog 31 #[.int .i64 n] w fun e w' => e = .returned (.bool (decide (nodeI n))) ∧ w = w' := by
  go_enter Tryz.func31, Tryz.ntmps31
  by_cases h1 : 0 ≤ n <;> by_cases h2 : n < 8
  all_goals
    have HS := Lib.hid (show decide (nodeI n) = decide (0 ≤ n ∧ n < 8) from rfl)
    go_wp2
    go_ret
    exact ⟨ret_bool rfl (by rw [HS.out]; simp [h1, h2]), rfl⟩
theorem rcounter_any (n : Int) (w : World) : Calls Tryz.prog 37 #[.int .i64 n] w fun e w' => e = .returned (.bool (decide (cntI n))) ∧ w = w' := by
  go_enter Tryz.func37, Tryz.ntmps37
  by_cases h1 : 1 ≤ n <;> by_cases h2 : n ≤ 1099511627776
  all_goals
    have HS := Lib.hid (show decide (cntI n) = decide (1 ≤ n ∧ n ≤ 1099511627776) from rfl)
    go_wp2
    go_ret
    exact ⟨ret_bool rfl (by rw [HS.out]; simp [h1, h2]), rfl⟩
theorem rlegal_any (n : Int) (w : World) : Calls Tryz.prog 76 #[.int .i64 n] w fun e w' => e = .returned (.bool (decide (termI n))) ∧ w = w' := by
  go_enter Tryz.func76, Tryz.ntmps76
  by_cases h1 : 4 ≤ n <;> by_cases h2 : n ≤ 1048576
  all_goals
    have HS := Lib.hid (show decide (termI n) = decide (4 ≤ n ∧ n ≤ 1048576) from rfl)
    go_wp2
    go_ret
    exact ⟨ret_bool rfl (by rw [HS.out]; simp [h1, h2]), rfl⟩
theorem rmode_any (n : Int) (w : World) : Calls Tryz.prog 33 #[.int .i64 n] w fun e w' => e = .returned (.bool (decide (modeI n))) ∧ w = w' := by
  have HS := Lib.hid (show decide (modeI n) = decide (n = 1 ∨ n = 2) from rfl)
  go_enter Tryz.func33, Tryz.ntmps33
  by_cases h1 : n = 1
  · subst h1
    go_wp2
    go_ret
    exact ⟨ret_bool rfl (by rw [HS.out]; simp), rfl⟩
  · by_cases h2 : n = 2
    · subst h2
      go_wp2
      go_ret
      exact ⟨ret_bool rfl (by rw [HS.out]; simp), rfl⟩
    · have d1 : (n == 1) = false := by rw [beq_eq_false_iff_ne]; exact h1
      have d2 : (n == 2) = false := by rw [beq_eq_false_iff_ne]; exact h2
      go_wp2
      go_ret
      exact ⟨ret_bool rfl (by rw [HS.out]; simp [h1, h2]), rfl⟩
set_option maxHeartbeats 1000000 in
theorem rstamp_any (v : Value) (L : List Int) (w : World) (hv : ArgInts w v L) (hl : L.length ≤ maxLen) :
    Calls Tryz.prog 34 #[v] w fun e w' => e = .returned (.bool (decide (stampI L))) ∧ w = w' := by
  have HV := Lib.hid hv
  obtain ⟨A, c, rfl, _, _⟩ := hv
  unfold maxLen at hl
  go_enter Tryz.func34, Tryz.ntmps34
  by_cases h4 : L.length ≤ 4
  · have h4' : ¬ (4 : Int) < (L.length : Int) := by omega
    go_wp2
    go_loopw [3] (fun i wr => ∃ k : Nat, k ≤ L.length ∧ i = .int .i64 k ∧ wr = w ∧ ∀ x ∈ L.take k, cntI x) (fun i _ => L.length - (intOf i).toNat)
    case atStart => exact ⟨0, Nat.zero_le _, rfl, rfl, by simp⟩
    case round =>
      obtain ⟨k, hk, rfl, rfl, hF⟩ := hrel
      have HF := Lib.hid hF; clear hF
      by_cases hlt : k < L.length
      · have hk0 : (0 : Int) ≤ (k : Int) := by omega
        have hk1 : (k : Int) < (L.length : Int) := by omega
        obtain ⟨g, o, c', e1, hxx⟩ := HV.out.at_ hlt
        have hx := hxx k _ (List.getElem?_eq_getElem hlt)
        clear hxx
        injection e1 with e1 _ e1c
        subst e1 e1c
        have HT := Lib.hid (show L.take (k + 1) = L.take k ++ [L[k]] from List.take_succ_eq_append_getElem hlt)
        have HM := Lib.hid (List.getElem_mem hlt)
        generalize L[k] = x at *
        by_cases hok : cntI x
        · have hok' : 1 ≤ x ∧ x ≤ 1099511627776 := hok
          obtain ⟨a1, a2⟩ := hok'
          have HO := Lib.hid hok; clear hok
          go_wp2
          go_roundw
          case rel => exact ⟨k + 1, by omega, by go_num, by trivial, fun y hy => by
            rw [HT.out, List.mem_append] at hy
            rcases hy with hy | hy
            · exact HF.out y hy
            · simp at hy; subst hy; exact HO.out⟩
          case measure => simp [intOf]; omega
        · have HS := Lib.hid (show decide (stampI L) = false by rw [decide_eq_false_iff_not]; intro h; exact hok (h.2 x HM.out))
          have hd : x < 1 ∨ (1 ≤ x ∧ 1099511627776 < x) := by unfold cntI at hok; omega
          clear hok
          rcases hd with a1 | ⟨a1, a2⟩
          all_goals
            go_wp2
            go_ret
            exact ⟨ret_bool rfl HS.out.symm, rfl⟩
      · have hk' : k = L.length := by omega
        have HS := Lib.hid (show decide (stampI L) = true by
          rw [decide_eq_true_iff]
          have h := HF.out
          rw [hk', List.take_length] at h
          exact ⟨h4, h⟩)
        have hk1 : ¬ (k : Int) < (L.length : Int) := by omega
        clear hk'
        go_wp2
        go_ret
        exact ⟨ret_bool rfl HS.out.symm, rfl⟩
  · have h4' : (4 : Int) < (L.length : Int) := by omega
    have HS := Lib.hid (show decide (stampI L) = false by rw [decide_eq_false_iff_not]; intro h; exact h4 h.1)
    go_wp2
    go_ret
    exact ⟨ret_bool rfl HS.out.symm, rfl⟩
end Go.Proofs.YtbnpdghfbiacaaaGreat

/- The document's lists of numbers as bytes, by contract. No condition beyond what each theorem states. -/
namespace Go.Proofs.YtbnpdghfbiacaaaGreat
open Go Go.RowKit Go.PlainAid

set_option maxHeartbeats 2000000 in
theorem refNums_any (v : Value) (L : List Int) (w : World) (hv : ArgInts w v L) (hl : L.length ≤ 1000) (hx63 : ∀ x ∈ L, x < 9223372036854775808) :
    Calls Tryz.prog 44 #[v] w fun e w' => ∃ v, e = .returned v ∧ OwnB w' w.heap.size v (outI L) ∧ Kp No w w' := by
  have HV := Lib.hid hv; have HX := Lib.hid hx63
  obtain ⟨A, c, rfl, _, _⟩ := hv
  clear hx63
  go_enter Tryz.func44, Tryz.ntmps44
  go_wp2
  go_loopw [3, 4] (fun v i wr => ∃ k : Nat, k ≤ L.length ∧ i = .int .i64 k ∧ OwnB wr w.heap.size v (outI (L.take k)) ∧ Kp No w wr) (fun _ i _ => L.length - (intOf i).toNat)
  case atStart => exact ⟨0, Nat.zero_le _, rfl, OwnB.nil _ _, Kp.refl _ _⟩
  case round =>
    obtain ⟨k, hk, rfl, ho, hK⟩ := hrel
    obtain ⟨A1, c1, rfl, _⟩ := own_len ho
    have hol := outI_len (L.take k) fun x hx => HX.out x (List.mem_of_mem_take hx)
    rw [List.length_take] at hol
    by_cases hlt : k < L.length
    · have hk0 : (0 : Int) ≤ (k : Int) := by omega
      have hk1 : (k : Int) < (L.length : Int) := by omega
      obtain ⟨g, o, c', e1, hxx⟩ := (HV.out.no hK).at_ hlt
      have hx := hxx k _ (List.getElem?_eq_getElem hlt)
      clear hxx
      injection e1 with e1 _ e1c
      subst e1 e1c
      have HT := Lib.hid (outI_snoc hlt)
      have hx63 := HX.out _ (List.getElem_mem hlt)
      generalize L[k] = x at *
      have pn := refNum_any x wr hx63
      have hnl : (numS x.toNat).length ≤ 9 := numS_len 8 x.toNat (by omega)
      generalize outI (L.take k) = l' at *
      have HO := Lib.hid ho; have HK := Lib.hid hK; have HNL := Lib.hid hnl; clear ho hK hx63 hnl
      go_wp2_with fail
      refine pn.mono ?_
      rintro e w1 ⟨v1, rfl, o1, k1⟩
      obtain ⟨A2, c2, rfl, _⟩ := own_len o1
      have HO1 := Lib.hid (HO.out.no k1); have HK1 := Lib.hid (HK.out.trans k1); have HA2 := Lib.hid (own_argB o1)
      have hsz : w.heap.size ≤ w1.heap.size := HK1.out.size
      clear o1 k1 pn
      go_wp2_with (at_builtin; refine (wpList_appV _ rfl _ _ 30 rfl w.heap.size 5 _ 1 Tryz.underlying30 Tryz.infoByte rfl _ l'.length (u8s l') rfl HO1.out A2 (numS x.toNat).length c2 (u8s (numS x.toNat)) rfl (by simp) HA2.out.cs.1 (u8s_one _) (by have := HNL.out; omega) (by have := HNL.out; omega) hsz ?_); intro v3 w3 o3 k3 _)
      have O3 : Hid (OwnB w3 w.heap.size v3 (l' ++ numS x.toNat)) := Lib.hid (own_of o3 rfl)
      have K3 := Lib.hid (kp_own HO1.out HK1.out k3)
      clear o3 k3
      go_roundw
      case rel => exact ⟨k + 1, by omega, by go_num, by rw [HT.out]; exact O3.out, K3.out⟩
      case measure => simp [intOf]; omega
    · have hk' : k = L.length := by omega
      have hk1 : ¬ (k : Int) < (L.length : Int) := by omega
      have HLE := Lib.hid (show outI (L.take k) = outI L by rw [hk', List.take_length])
      generalize outI (L.take k) = l' at *
      have HO := Lib.hid ho; have HK := Lib.hid hK
      clear hk' ho hK
      go_wp2
      go_ret
      exact ⟨_, rfl, by rw [← HLE.out]; exact HO.out, HK.out⟩
set_option maxHeartbeats 2000000 in
theorem refCounters_any (v : Value) (L : List Int) (w : World) (hv : ArgInts w v L) (hl : L.length ≤ 1000) (hx63 : ∀ x ∈ L, x < 9223372036854775808) :
    Calls Tryz.prog 46 #[v] w fun e w' => ∃ v, e = .returned v ∧ OwnB w' w.heap.size v (cS L) ∧ Kp No w w' := by
  have HV := Lib.hid hv; have HX := Lib.hid hx63
  obtain ⟨A, c, rfl, _, _⟩ := hv
  have pn := refNum_any (L.length : Int) w (by omega)
  rw [Int.toNat_natCast] at pn
  have HNL := Lib.hid (numS_len 8 L.length (by omega))
  have HOL := Lib.hid (outI_len L hx63)
  clear hx63
  go_enter Tryz.func46, Tryz.ntmps46
  go_wp2_with fail
  refine pn.mono ?_
  rintro e w1 ⟨v1, rfl, o1, k1⟩
  obtain ⟨A1, c1, rfl, _⟩ := own_len o1
  have pm := refNums_any (.slice A L.length c) L w1 (HV.out.no k1) hl HX.out
  have HO1 := Lib.hid o1; have HK1 := Lib.hid k1
  clear o1 k1 pn
  go_wp2_with fail
  refine pm.mono ?_
  rintro e w2 ⟨v2, rfl, o2, k2⟩
  obtain ⟨A2, c2, rfl, _⟩ := own_len o2
  have HO2 := Lib.hid (HO1.out.no k2); have HK2 := Lib.hid (HK1.out.trans k2); have HA2 := Lib.hid (own_argB o2)
  have hsz : w.heap.size ≤ w2.heap.size := HK2.out.size
  clear o2 k2 pm
  have HCS := Lib.hid (cS_out L)
  generalize numS L.length = l' at *
  generalize outI L = l2 at *
  go_wp2_with (at_builtin; refine (wpList_appV _ rfl _ _ 30 rfl w.heap.size 5 _ 1 Tryz.underlying30 Tryz.infoByte rfl _ l'.length (u8s l') rfl HO2.out A2 l2.length c2 (u8s l2) rfl (by simp) HA2.out.cs.1 (u8s_one _) (by have := HNL.out; have := HOL.out; omega) (by have := HNL.out; have := HOL.out; omega) hsz ?_); intro v3 w3 o3 k3 _)
  have O3 : Hid (OwnB w3 w.heap.size v3 (l' ++ l2)) := Lib.hid (own_of o3 rfl)
  have K3 := Lib.hid (kp_own HO2.out HK2.out k3)
  clear o3 k3
  go_ret
  exact ⟨_, rfl, by rw [HCS.out]; exact O3.out, K3.out⟩
end Go.Proofs.YtbnpdghfbiacaaaGreat

/- What the document's body keeps while it writes. No condition beyond what each theorem states. -/
namespace Go.Proofs.YtbnpdghfbiacaaaGreat
open Go Go.RowKit Go.PlainAid

theorem bkI {w : World} {g : Nat} {t : TypeId} {L : List Int} {n : Nat} (h : Bk w g t (ints L)) (hn : L.length = n) : ArgInts w (.slice (some ⟨g, 0, none⟩) n n) L := by
  subst hn
  exact ⟨_, _, rfl, Nat.le_refl _, fun _ => ⟨g, 0, rfl, fun j v hv => by rw [h.cell, Nat.zero_add]; exact hv⟩⟩
/-- the message in its block, the bytes so far and the path's, apart -/
structure BI (W w : World) (m : Msg) (sv : Value) (v vt : Value) (l lt : List UInt8) : Prop where
  box : Bk w W.heap.size 28 (mcells m sv)
  own : OwnB w (W.heap.size + 1) v l
  txt : OwnB w (W.heap.size + 1) vt lt
  kp : Kp No W w
  size : W.heap.size + 1 ≤ w.heap.size
  ne : ∀ g, v.ownBlock = some g → vt.ownBlock ≠ some g
theorem BI.no {W w w' : World} {m : Msg} {sv v vt : Value} {l lt : List UInt8} (h : BI W w m sv v vt l lt) (k : Kp No w w') : BI W w' m sv v vt l lt :=
  ⟨h.box.no k, h.own.no k, h.txt.no k, h.kp.trans k, Nat.le_trans h.size k.size, h.ne⟩
theorem BI.app {W w w' : World} {m : Msg} {sv v vt v' : Value} {l lt q : List UInt8} (h : BI W w m sv v vt l lt) {n : Nat} (o : w'.ownsRow (W.heap.size + 1) 5 1 v' n (u8s l ++ u8s q)) (k : Kp (fun g => v.ownBlock = some g) w w') (hn : ∀ g, v'.ownBlock = some g → v.ownBlock = some g ∨ g = w.heap.size) : BI W w' m sv v' vt (l ++ q) lt := by
  have hv : ∀ g, v.ownBlock = some g → W.heap.size + 1 ≤ g ∧ g < w.heap.size := fun g hg => h.own.lt g hg
  refine ⟨h.box.kp k fun e => ?_, own_of o rfl, h.txt.kp k fun g e1 e2 => h.ne g e2 e1, ?_, Nat.le_trans h.size k.size, ?_⟩
  · have := (hv _ e).1; omega
  · exact h.kp.then_ k fun i hi e => by have := (hv i e).1; omega
  · intro g hg e
    rcases hn g hg with h1 | h1
    · exact h.ne g h1 e
    · have := (h.txt.lt g e).2; omega
/-- the path's bytes are made -/
theorem BI.text {W w w' : World} {m : Msg} {sv v vt : Value} {l lt : List UInt8} (hb : Bk w W.heap.size 28 (mcells m sv)) (ho : OwnB w (W.heap.size + 1) v l) (hk : Kp No W w) (hs : W.heap.size + 1 ≤ w.heap.size) (ht : OwnB w' w.heap.size vt lt) (k : Kp No w w') : BI W w' m sv v vt l lt :=
  ⟨hb.no k, ho.no k, ht.mono hs, hk.trans k, Nat.le_trans hs k.size, fun g h1 h2 => by have := (ho.lt g h1).2; have := (ht.lt g h2).1; omega⟩
end Go.Proofs.YtbnpdghfbiacaaaGreat

/- A message's sixteen cells. No condition beyond what each theorem states. -/
namespace Go.Proofs.YtbnpdghfbiacaaaGreat
open Go

theorem cells16 {w : World} {g : Nat} {m : Msg} {sv : Value} (h : Bk w g 28 (mcells m sv)) : w.cell? ⟨g, 0, none⟩ = some (.int .i64 m.kind) ∧ w.cell? ⟨g, 1, none⟩ = some (.int .i64 m.from_) ∧ w.cell? ⟨g, 2, none⟩ = some (.int .i64 m.dest) ∧ w.cell? ⟨g, 3, none⟩ = some (.int .i64 m.boot) ∧ w.cell? ⟨g, 4, none⟩ = some (.int .i64 m.seq) ∧ w.cell? ⟨g, 5, none⟩ = some (.int .i64 m.low) ∧ w.cell? ⟨g, 6, none⟩ = some (.int .i64 m.verb) ∧ w.cell? ⟨g, 7, none⟩ = some (.string ⟨m.path.toArray⟩) ∧ w.cell? ⟨g, 8, none⟩ = some (.int .i64 m.mode) ∧ w.cell? ⟨g, 9, none⟩ = some (.int .i64 m.term) ∧ w.cell? ⟨g, 10, none⟩ = some (.int .i64 m.id) ∧ w.cell? ⟨g, 11, none⟩ = some (.bool m.fresh) ∧ w.cell? ⟨g, 12, none⟩ = some (.int .i64 m.code) ∧ w.cell? ⟨g, 13, none⟩ = some (sv) ∧ w.cell? ⟨g, 14, none⟩ = some (.int .i64 m.origin) ∧ w.cell? ⟨g, 15, none⟩ = some (.int .i64 m.number) :=
  ⟨h.cell 0, h.cell 1, h.cell 2, h.cell 3, h.cell 4, h.cell 5, h.cell 6, h.cell 7, h.cell 8, h.cell 9, h.cell 10, h.cell 11, h.cell 12, h.cell 13, h.cell 14, h.cell 15⟩
end Go.Proofs.YtbnpdghfbiacaaaGreat
