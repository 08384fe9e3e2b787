/- The program's functions on paths, by contracts. -/
import Derived.Test.YtbnpdghfbiacaaaIg
import Derived.Test.YtbnpdghfbiacaaaShelf
import Derived.Test.YtbnpdghfbiacaaaPl
import Derived.PlainAid
import Derived.Laws.Strings
import Derived.Deep.LoopGhost
import Derived.StillTailTactics
import Derived.Deep.RegionHeld3
import Derived.Deep.QuietTactic
import Derived.BigQuiet
import Derived.Lib.Hide
namespace Go.Proofs.Ytbnpdghfbiacaaa
open Go Go.RowKit Go.PlainAid

theorem fineL_step (l : List UInt8) (k n : Nat) (hk : k < l.length) : fineL (l.drop k) n = if l[k].toNat = 47 then (if n = 0 then false else fineL (l.drop (k + 1)) 0) else if okC l[k] then (if 6 ≤ n then false else fineL (l.drop (k + 1)) (n + 1)) else false := by
  rw [List.drop_eq_getElem_cons hk]; rfl

set_option maxRecDepth 100000 in
theorem fine_any (s : ByteArray) (w : World) (hs : s.size ≤ maxLen) :
    Calls Try.prog 93 #[.string s] w fun e w' => e = .returned (.bool (fineL s.data.toList 0)) ∧ w' = w := by
  have hb := get_bt s
  have hs' : (s.size : Int) ≤ 9223372036854775807 := by unfold maxLen at hs; omega
  go_enter Try.func93, Try.ntmps93
  go_wp2
  go_step3
  go_wp2
  go_step3
  go_wp2
  go_loopw [8, 3] (fun i n wr => ∃ k : Nat, k ≤ s.size ∧ i = .int .i64 k ∧ ∃ N : Nat, N ≤ 6 ∧ n = .int .i64 N ∧ wr = w ∧ fineL (s.data.toList.drop k) N = fineL s.data.toList 0) (fun i _ _ => s.size - (intOf i).toNat)
  case atStart => exact ⟨0, Nat.zero_le _, rfl, 0, Nat.zero_le _, rfl, rfl, by simp⟩
  case round =>
    obtain ⟨k, hk, rfl, N, hN, rfl, rfl, hF⟩ := hrel
    by_cases hlt : k < s.size
    · have hk0 : (0 : Int) ≤ (k : Int) := by omega
      have hk1 : (k : Int) < (s.size : Int) := by omega
      have hl : k < s.data.toList.length := by simpa using hlt
      have hc : bt s k = (((s.data.toList[k]'hl).toNat : Nat) : Int) := by
        rw [← hb k hlt]; simp [ByteArray.getElem_eq_getElem_data]
      rw [fineL_step _ _ _ hl] at hF
      generalize s.data.toList[k]'hl = c at *
      have hrng : c.toNat < 256 := c.toNat_lt
      have hok : okC c = true ↔ (97 ≤ c.toNat ∧ c.toNat ≤ 122) ∨ (48 ≤ c.toNat ∧ c.toNat ≤ 57) := by simp [okC]
      by_cases h47 : c.toNat = 47
      · have e47 : bt s k = 47 := by omega
        rw [if_pos h47] at hF
        clear hc hok
        by_cases hN0 : N = 0
        · subst hN0
          rw [if_pos rfl] at hF
          have HF := Lib.hid hF; clear hF
          go_wp2
          try rw [Exit.noGoto_ret]
          go_ret
          exact ⟨by rw [← HF.out]; rfl, rfl⟩
        · rw [if_neg hN0] at hF
          have n0 : ((N : Int) == 0) = false := by simp [hN0]
          have HF := Lib.hid hF; clear hF
          go_wp2
          go_roundw
          case rel => exact ⟨k + 1, by omega, by go_num, 0, by omega, by go_num, by trivial, HF.out⟩
          case measure => simp [intOf]; omega
      · have e47 : (bt s k == 47) = false := by simp; omega
        rw [if_neg h47] at hF
        rcases (by omega : (97 ≤ c.toNat ∧ c.toNat ≤ 122) ∨ (48 ≤ c.toNat ∧ c.toNat ≤ 57) ∨ c.toNat < 48 ∨ (57 < c.toNat ∧ c.toNat < 97) ∨ 122 < c.toNat) with ⟨c1, c2⟩ | ⟨c1, c2⟩ | c1 | ⟨c1, c2⟩ | c1
        · rw [if_pos (hok.2 (by omega))] at hF
          have f1 : 97 ≤ bt s k := by omega
          have f2 : bt s k ≤ 122 := by omega
          clear hc hok c1 c2
          by_cases h6 : 6 ≤ N
          · obtain rfl : N = 6 := by omega
            rw [if_pos (Nat.le_refl _)] at hF
            have HF := Lib.hid hF; clear hF
            go_wp2
            try rw [Exit.noGoto_ret]
            go_ret
            exact ⟨by rw [← HF.out]; rfl, rfl⟩
          · rw [if_neg h6] at hF
            have h6' : (N : Int) + 1 ≤ 6 := by omega
            have HF := Lib.hid hF; clear hF
            go_wp2
            go_roundw
            case rel => exact ⟨k + 1, by omega, by go_num, N + 1, by omega, by go_num, by trivial, HF.out⟩
            case measure => simp [intOf]; omega
        · rw [if_pos (hok.2 (by omega))] at hF
          have f1 : 48 ≤ bt s k := by omega
          have f2 : bt s k ≤ 57 := by omega
          have f3 : ¬ 97 ≤ bt s k := by omega
          clear hc hok c1 c2
          by_cases h6 : 6 ≤ N
          · obtain rfl : N = 6 := by omega
            rw [if_pos (Nat.le_refl _)] at hF
            have HF := Lib.hid hF; clear hF
            go_wp2
            try rw [Exit.noGoto_ret]
            go_ret
            exact ⟨by rw [← HF.out]; rfl, rfl⟩
          · rw [if_neg h6] at hF
            have h6' : (N : Int) + 1 ≤ 6 := by omega
            have HF := Lib.hid hF; clear hF
            go_wp2
            go_roundw
            case rel => exact ⟨k + 1, by omega, by go_num, N + 1, by omega, by go_num, by trivial, HF.out⟩
            case measure => simp [intOf]; omega
        · rw [if_neg (fun h => by have := hok.1 h; omega)] at hF
          have f1 : ¬ 48 ≤ bt s k := by omega
          have f3 : ¬ 97 ≤ bt s k := by omega
          clear hc hok c1
          have HF := Lib.hid hF; clear hF
          go_wp2
          try rw [Exit.noGoto_ret]
          go_ret
          exact ⟨by rw [← HF.out]; rfl, rfl⟩
        · rw [if_neg (fun h => by have := hok.1 h; omega)] at hF
          have f1 : 48 ≤ bt s k := by omega
          have f2 : ¬ bt s k ≤ 57 := by omega
          have f3 : ¬ 97 ≤ bt s k := by omega
          clear hc hok c1 c2
          have HF := Lib.hid hF; clear hF
          go_wp2
          try rw [Exit.noGoto_ret]
          go_ret
          exact ⟨by rw [← HF.out]; rfl, rfl⟩
        · rw [if_neg (fun h => by have := hok.1 h; omega)] at hF
          have f1 : 97 ≤ bt s k := by omega
          have f2 : ¬ bt s k ≤ 122 := by omega
          have f3 : 48 ≤ bt s k := by omega
          have f4 : ¬ bt s k ≤ 57 := by omega
          clear hc hok c1
          have HF := Lib.hid hF; clear hF
          go_wp2
          try rw [Exit.noGoto_ret]
          go_ret
          exact ⟨by rw [← HF.out]; rfl, rfl⟩
    · have hk' : k = s.size := by omega
      have hd : s.data.toList.drop k = [] := List.drop_eq_nil_of_le (by subst hk'; simp)
      rw [hd] at hF
      by_cases hN0 : 0 < N
      · have h1 : (0 : Int) < (N : Int) := by omega
        have h2 : (N : Int) ≤ 6 := by omega
        have HF := Lib.hid hF; clear hF
        go_wp2
        try rw [Exit.noGoto_ret]
        go_ret
        exact ⟨by rw [← HF.out, fineL, decide_eq_true ⟨hN0, hN⟩]; rfl, rfl⟩
      · obtain rfl : N = 0 := by omega
        have HF := Lib.hid hF; clear hF
        go_wp2
        try rw [Exit.noGoto_ret]
        go_ret
        exact ⟨by rw [← HF.out]; rfl, rfl⟩

theorem str_nil {s : ByteArray} (h : s.data.toList = []) : s = ⟨#[]⟩ := by
  obtain ⟨⟨l⟩⟩ := s
  simp at h; subst h; rfl
theorem str_ne {s : ByteArray} (h : s.data.toList ≠ []) : ¬ s.toList = [] := by rw [ByteArray.toList_eq]; exact h

theorem str_em {s : ByteArray} (h : s.data.toList ≠ []) : s.toList.isEmpty = false := by
  rw [ByteArray.toList_eq]; cases hl : s.data.toList with
  | nil => exact absurd hl h
  | cons a r => rfl
theorem str_inj {a b : ByteArray} (h : a.data.toList = b.data.toList) : a = b := by
  obtain ⟨⟨l⟩⟩ := a
  obtain ⟨⟨m⟩⟩ := b
  simp at h; subst h; rfl
theorem valid_any (s : ByteArray) (w : World) (hs : s.size ≤ maxLen) :
    Calls Try.prog 80 #[.string s] w fun e w' => e = .returned (.bool (path s.data.toList).isSome) ∧ w' = w := by
  go_enter Try.func80, Try.ntmps80
  by_cases h0 : s.data.toList = []
  · obtain rfl := str_nil h0
    go_wp2
    go_ret
    exact ⟨rfl, rfl⟩
  · have n0 := str_ne h0
    have HI := Lib.hid (path_isSome_iff h0)
    have HN := Lib.hid h0
    clear h0
    go_wp2_with fail
    refine (fine_any _ _ hs).mono ?_
    rintro e w' ⟨rfl, rfl⟩
    cases hf : fineL s.data.toList 0 with
    | false =>
      have HF := Lib.hid hf; clear hf
      go_wp2
      go_ret
      refine ⟨?_, rfl⟩
      have : (path s.data.toList).isSome = false := by rw [Bool.eq_false_iff]; intro h; have := (HI.out.1 h).1; rw [HF.out] at this; cases this
      exact ret_bool rfl (by rw [this]; simp [n0])
    | true =>
      have HF := Lib.hid hf; clear hf
      go_wp2_with fail
      refine (Try.strings_Count_one s 47 _).mono ?_
      rintro e w' ⟨rfl, rfl⟩
      have hc : Lib.countByte s.data.toList 47 = s.data.toList.count 47 := rfl
      rw [hc]
      generalize hn : s.data.toList.count 47 = n
      have HC := Lib.hid hn; clear hn hc
      by_cases h4 : n < 4
      · have h4' : (n : Int) < 4 := by omega
        go_wp2
        go_ret
        refine ⟨?_, rfl⟩
        have : (path s.data.toList).isSome = true := HI.out.2 ⟨HF.out, by rw [HC.out]; exact h4⟩
        exact ret_bool rfl (by rw [this]; try simp [n0, h4'])
      · have h4' : ¬ (n : Int) < 4 := by omega
        go_wp2
        go_ret
        refine ⟨?_, rfl⟩
        have : (path s.data.toList).isSome = false := by rw [Bool.eq_false_iff]; intro h; have := (HI.out.1 h).2; rw [HC.out] at this; exact h4 this
        exact ret_bool rfl (by rw [this]; try simp [n0, h4'])
end Go.Proofs.Ytbnpdghfbiacaaa
