/- The reference's Compare and Join, by contracts. No condition beyond what each theorem states. -/
import Derived.Test.YtfbajcgkcamnnaaDoorG
namespace Go.Proofs.YtfbajcgkcamnnaaDoor
open Go Go.RowKit Go.PlainAid

theorem cmp_step {l m : Bytes} {k : Nat} (h1 : k < l.length) (h2 : k < m.length) : Lib.compareBytes (l.drop k) (m.drop k) = if l[k] < m[k] then -1 else if m[k] < l[k] then 1 else Lib.compareBytes (l.drop (k + 1)) (m.drop (k + 1)) := by
  rw [List.drop_eq_getElem_cons h1, List.drop_eq_getElem_cons h2]; rfl
theorem cmp_end1 {l m : Bytes} {k : Nat} (h1 : l.length ≤ k) (h2 : k < m.length) : Lib.compareBytes (l.drop k) (m.drop k) = -1 := by
  rw [List.drop_eq_nil_of_le h1, List.drop_eq_getElem_cons h2]; rfl
theorem cmp_end2 {l m : Bytes} {k : Nat} (h1 : k < l.length) (h2 : m.length ≤ k) : Lib.compareBytes (l.drop k) (m.drop k) = 1 := by
  rw [List.drop_eq_nil_of_le h2, List.drop_eq_getElem_cons h1]; rfl
theorem cmp_end0 {l m : Bytes} {k : Nat} (h1 : l.length ≤ k) (h2 : m.length ≤ k) : Lib.compareBytes (l.drop k) (m.drop k) = 0 := by
  rw [List.drop_eq_nil_of_le h2, List.drop_eq_nil_of_le h1]; rfl

set_option maxHeartbeats 1000000 in
set_option maxRecDepth 100000 in
theorem rcompare_any (s t : ByteArray) (w : World) (hs : s.size < 9223372036854775807) (ht : t.size < 9223372036854775807) :
    Calls Tryd.prog 28 #[.string s, .string t] w fun e w' => e = .returned (.int .i64 (Lib.compareBytes s.data.toList t.data.toList)) ∧ Kp No w w' := by
  have hls : s.data.toList.length = s.size := by simp
  have hlt' : t.data.toList.length = t.size := by simp
  have HLS := Lib.hid hls; have HLT := Lib.hid hlt'; clear hls hlt'
  go_enter Tryd.func28, Tryd.ntmps28
  go_wp2
  go_loopw [5] (fun i wr => ∃ k : Nat, k ≤ s.size ∧ k ≤ t.size ∧ i = .int .i64 k ∧ Kp No w wr ∧ Lib.compareBytes (s.data.toList.drop k) (t.data.toList.drop k) = Lib.compareBytes s.data.toList t.data.toList) (fun i _ => s.size - (intOf i).toNat)
  case atStart => exact ⟨0, Nat.zero_le _, Nat.zero_le _, rfl, Kp.refl _ _, rfl⟩
  case round =>
    obtain ⟨k, hk, hk', rfl, hkp, hF⟩ := hrel
    by_cases h1 : k < s.size
    · by_cases h2 : k < t.size
      · have h1' : (k : Int) < s.size := by omega
        have h2' : (k : Int) < t.size := by omega
        have h0' : (0 : Int) ≤ k := by omega
        have b1 : k < s.data.toList.length := by rw [HLS.out]; exact h1
        have b2 : k < t.data.toList.length := by rw [HLT.out]; exact h2
        have x1 : s.data.toList[k] = s[k] := by simp [ByteArray.getElem_eq_getElem_data]
        have x2 : t.data.toList[k] = t[k] := by simp [ByteArray.getElem_eq_getElem_data]
        rw [cmp_step b1 b2, x1, x2] at hF
        rcases Nat.lt_trichotomy (s[k]).toNat (t[k]).toNat with hc | hc | hc
        · rw [if_pos (UInt8.lt_iff_toNat_lt.2 hc)] at hF
          have HF := Lib.hid hF; clear hF x1 x2
          go_wp2
          go_quiet (fail)
          go_wp2
          go_ret
          exact ⟨ret_int rfl HF.out, hkp.drewN _⟩
        · rw [if_neg (fun h => by have := UInt8.lt_iff_toNat_lt.1 h; omega), if_neg (fun h => by have := UInt8.lt_iff_toNat_lt.1 h; omega)] at hF
          have f1 : ¬ s[k].toNat < t[k].toNat := by omega
          have f2 : ¬ t[k].toNat < s[k].toNat := by omega
          have HF := Lib.hid hF; clear hF x1 x2 hc
          go_wp2
          go_quiet (fail)
          go_wp2
          go_quiet (fail)
          go_wp2
          go_roundw
          case rel => exact ⟨k + 1, by omega, by omega, by go_num, hkp.drewN _, HF.out⟩
          case measure => simp [intOf]; omega
        · rw [if_neg (fun h => by have := UInt8.lt_iff_toNat_lt.1 h; omega), if_pos (UInt8.lt_iff_toNat_lt.2 hc)] at hF
          have f1 : ¬ s[k].toNat < t[k].toNat := by omega
          have HF := Lib.hid hF; clear hF x1 x2
          go_wp2
          go_quiet (fail)
          go_wp2
          go_quiet (fail)
          go_wp2
          go_ret
          exact ⟨ret_int rfl HF.out, (hkp.drewN _).drewN _⟩
      · have h1' : (k : Int) < s.size := by omega
        have h2' : ¬ (k : Int) < t.size := by omega
        have h3 : ¬ s.size < t.size := by omega
        have h4 : t.size < s.size := by omega
        have h3' : ¬ (s.size : Int) < t.size := by omega
        have h4' : (t.size : Int) < s.size := by omega
        rw [cmp_end2 (by rw [HLS.out]; exact h1) (by rw [HLT.out]; omega)] at hF
        have HF := Lib.hid hF; clear hF
        go_wp2
        go_ret
        exact ⟨ret_int rfl HF.out, hkp⟩
    · have hks : k = s.size := by omega
      have h1' : ¬ (k : Int) < s.size := by omega
      by_cases h2 : s.size < t.size
      · have h2' : (s.size : Int) < t.size := by omega
        rw [cmp_end1 (by rw [HLS.out]; omega) (by rw [HLT.out]; omega)] at hF
        have HF := Lib.hid hF; clear hF hks
        go_wp2
        go_ret
        exact ⟨ret_int rfl HF.out, hkp⟩
      · have h2' : ¬ (s.size : Int) < t.size := by omega
        have h3 : ¬ t.size < s.size := by omega
        have h3' : ¬ (t.size : Int) < s.size := by omega
        rw [cmp_end0 (by rw [HLS.out]; omega) (by rw [HLT.out]; omega)] at hF
        have HF := Lib.hid hF; clear hF hks
        go_wp2
        go_ret
        exact ⟨ret_int rfl HF.out, hkp⟩

/-- the reference's answer -/
def RJoin (L : List Bytes) (e : Ending) : Prop :=
  match joinL L with
  | none => e = .returned (.tuple #[.string ⟨#[]⟩, .int .i64 10])
  | some x => e = .returned (.tuple #[.string ⟨x.toArray⟩, .int .i64 0])

theorem join_snoc {L : List Bytes} {k : Nat} (hk : k < L.length) : Lib.join (L.take (k + 1)) [47] = if k = 0 then L[k] else Lib.join (L.take k) [47] ++ 47 :: L[k] := by
  rw [List.take_succ_eq_append_getElem hk]
  by_cases h : k = 0
  · subst h; simp [Lib.join_one]
  · rw [if_neg h, join_app _ _ (by intro e; have := congrArg List.length e; simp only [List.length_take, List.length_nil] at this; omega) (by simp), Lib.join_one]

set_option maxHeartbeats 1000000 in
set_option maxRecDepth 100000 in
theorem rjoin_any (v : Value) (L : List ByteArray) (w : World) (hv : ArgStrs w v L) :
    Calls Tryd.prog 20 #[v] w fun e w' => RJoin (tx L) e ∧ w' = w := by
  have HV := Lib.hid hv
  obtain ⟨A, c, rfl, hc, hcs⟩ := hv
  clear hcs
  go_enter Tryd.func20, Tryd.ntmps20
  by_cases h4 : L.length ≤ 4
  · have h4' : ¬ (4 : Int) < (L.length : Int) := by omega
    go_wp2
    go_loopw [5, 4] (fun i p wr => ∃ k : Nat, k ≤ L.length ∧ i = .int .i64 k ∧ wr = w ∧ ((tx L).take k).all segB = true ∧ ∃ P : ByteArray, p = .string P ∧ P.data.toList = Lib.join ((tx L).take k) [47]) (fun i _ _ => L.length - (intOf i).toNat)
    case atStart => exact ⟨0, Nat.zero_le _, rfl, rfl, by simp, ⟨#[]⟩, rfl, by simp [Lib.join, List.intercalate]⟩
    case round =>
      obtain ⟨k, hk, rfl, rfl, hF, P, rfl, hP⟩ := hrel
      have hPl := join_len _ hF
      have hPs : P.size ≤ 28 := by
        have e : P.data.toList.length = P.size := by simp
        have : ((tx L).take k).length ≤ 4 := by rw [List.length_take, tx_length]; omega
        rw [← hP, e] at hPl; omega
      have HF := Lib.hid hF; have HP := Lib.hid hP; clear hF hP hPl
      by_cases hlt : k < L.length
      · have hk0 : (0 : Int) ≤ (k : Int) := by omega
        have hk1 : (k : Int) < (L.length : Int) := by omega
        obtain ⟨g, o, c', e1, hxx⟩ := HV.out.at_ hlt
        have hx := hxx k _ (List.getElem?_eq_getElem hlt)
        clear hxx
        injection e1 with e1 _ e1c
        subst e1 e1c
        have hat : (tx L)[k]'(by rw [tx_length]; exact hlt) = L[k].data.toList := by simp [tx]
        have hst := all_take (L := tx L) (k := k) (by rw [tx_length]; exact hlt)
        have hjs := join_snoc (L := tx L) (k := k) (by rw [tx_length]; exact hlt)
        rw [hat] at hst hjs
        have HN := Lib.hid (show segB L[k].data.toList = false → joinL (tx L) = none from fun h1 => by
          unfold joinL; rw [if_neg]; rintro ⟨_, h2⟩
          have := List.all_eq_true.1 h2 _ (List.getElem_mem (l := tx L) (n := k) (by rw [tx_length]; exact hlt))
          rw [hat, h1] at this; cases this)
        have HST := Lib.hid hst; have HJS := Lib.hid hjs; clear hst hjs hat
        generalize L[k] = x at *
        go_wp2_with fail
        refine (segment_any x _).mono ?_
        rintro e w' ⟨rfl, rfl⟩
        cases hsg : segB x.data.toList with
        | false =>
          have HS := Lib.hid hsg; clear hsg
          go_wp2
          go_ret2
          refine ⟨?_, rfl⟩
          unfold RJoin; rw [HN.out HS.out]; rfl
        | true =>
          have hxs : x.size ≤ 6 := by
            have e : x.data.toList.length = x.size := by simp
            have := hsg
            simp only [segB, Bool.and_eq_true, decide_eq_true_eq] at this
            omega
          have HS := Lib.hid hsg; clear hsg
          by_cases hk00 : k = 0
          · subst hk00
            have hz : P = ⟨#[]⟩ := str_nil (by rw [HP.out]; simp [Lib.join, List.intercalate])
            subst hz
            rw [Nat.add_zero] at hx
            go_wp2
            go_roundw
            case rel => exact ⟨0 + 1, by omega, by go_num, by trivial, by rw [HST.out, HF.out, HS.out]; rfl, _, rfl, by rw [HJS.out]; simp⟩
            case measure => simp [intOf]; omega
          · have hk01 : (0 : Int) < (k : Int) := by omega
            have sz1 : ¬ 9223372036854775807 < P.size + 1 := by omega
            have sz2 : ¬ 9223372036854775807 < P.size + 1 + x.size := by omega
            go_wp2
            go_roundw
            case rel => exact ⟨k + 1, by omega, by go_num, by trivial, by rw [HST.out, HF.out, HS.out]; rfl, _, rfl, by rw [HJS.out, if_neg hk00]; simp [HP.out]⟩
            case measure => simp [intOf]; omega
      · have hk' : k = L.length := by omega
        have hk1 : ¬ (k : Int) < (L.length : Int) := by omega
        have hall : (tx L).all segB = true := by have := HF.out; rwa [List.take_of_length_le (by rw [tx_length]; omega)] at this
        have hj : joinL (tx L) = some P.data.toList := by unfold joinL; rw [if_pos ⟨by rw [tx_length]; exact h4, hall⟩, HP.out, List.take_of_length_le (by rw [tx_length]; omega)]
        have HJ := Lib.hid hj
        clear hj hall hk'
        go_wp2
        go_ret2
        refine ⟨?_, rfl⟩
        unfold RJoin; rw [HJ.out]; rfl
  · have h4' : (4 : Int) < (L.length : Int) := by omega
    go_wp2
    go_ret2
    refine ⟨?_, rfl⟩
    unfold RJoin joinL
    rw [if_neg (fun h => h4 (by rw [tx_length] at h; exact h.1))]; rfl
end Go.Proofs.YtfbajcgkcamnnaaDoor
