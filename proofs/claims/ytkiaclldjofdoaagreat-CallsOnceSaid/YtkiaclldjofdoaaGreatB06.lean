/- Several texts of this claim in one. No condition beyond what each theorem states. -/
import Derived.Test.YtkiaclldjofdoaaGreatB02
import Derived.PlainAid
import Derived.Deep.QuietTactic
import Derived.BigQuiet
import Derived.Outline
import Derived.Test.YtkiaclldjofdoaaGreatShelf
import Derived.Test.YtkiaclldjofdoaaGreatB04
import Derived.Laws.Strings
import Derived.Deep.LoopGhost
import Derived.StillTailTactics
import Derived.Deep.RegionHeld3
import Derived.Lib.Hide
import Derived.Test.YtkiaclldjofdoaaGreatB05
import Derived.Deep.RegionLaw
/- Plain laws on stamps: no condition beyond what each theorem states. -/
namespace Go.Proofs.YtkiaclldjofdoaaGreat
open Go Go.RowKit

/-! plain -/
def okN (n : Int) : Bool := decide (1 ≤ n ∧ n ≤ 1099511627776)
def validS (L : List Int) : Bool := decide (L.length ≤ 4) && L.all okN
def cmpI (a b : Int) : Int := if a < b then -1 else if b < a then 1 else 0
def cmpS : List Int → List Int → Int
  | [], [] => 0
  | [], _ :: _ => -1
  | _ :: _, [] => 1
  | a :: L, b :: M => if a < b then -1 else if b < a then 1 else cmpS L M
def underS (L M : List Int) : Bool := decide (L.length ≤ M.length) && decide (cmpS L (M.take L.length) = 0)
def laterS (L M : List Int) : List Int := if cmpS L M < 0 then M else L
def extS (L : List Int) (n : Int) : List Int × Int := if validS L = false then ([], 13) else if L.length = 4 then ([], 14) else if okN n = false then ([], 66) else (L ++ [n], 0)
def nextS (L : List Int) : List Int × Int := if L = [] ∨ validS L = false then ([], 13) else if L.getLast? = some 1099511627776 then ([], 66) else (L.set (L.length - 1) (L.getD (L.length - 1) 0 + 1), 0)

theorem cmpS_step {L M : List Int} {k : Nat} (h1 : k < L.length) (h2 : k < M.length) : cmpS (L.drop k) (M.drop k) = if L[k] < M[k] then -1 else if M[k] < L[k] then 1 else cmpS (L.drop (k + 1)) (M.drop (k + 1)) := by
  rw [List.drop_eq_getElem_cons h1, List.drop_eq_getElem_cons h2]; rfl
theorem cmpS_end1 {L M : List Int} {k : Nat} (h1 : L.length ≤ k) (h2 : k < M.length) : cmpS (L.drop k) (M.drop k) = -1 := by
  rw [List.drop_eq_nil_of_le h1, List.drop_eq_getElem_cons h2]; rfl
theorem cmpS_end2 {L M : List Int} {k : Nat} (h1 : k < L.length) (h2 : M.length ≤ k) : cmpS (L.drop k) (M.drop k) = 1 := by
  rw [List.drop_eq_nil_of_le h2, List.drop_eq_getElem_cons h1]; rfl
theorem cmpS_end0 {L M : List Int} {k : Nat} (h1 : L.length ≤ k) (h2 : M.length ≤ k) : cmpS (L.drop k) (M.drop k) = 0 := by
  rw [List.drop_eq_nil_of_le h2, List.drop_eq_nil_of_le h1]; rfl
theorem all_take {L : List Int} {k : Nat} (p : Int → Bool) (hk : k < L.length) : (L.take (k + 1)).all p = ((L.take k).all p && p L[k]) := by
  rw [List.take_succ_eq_append_getElem hk, List.all_append]; simp
end Go.Proofs.YtkiaclldjofdoaaGreat

/- The program's stamps: counts, Valid, inOrder, Compare, by contracts. No condition beyond what each theorem states. -/
namespace Go.Proofs.YtkiaclldjofdoaaGreat
open Go Go.RowKit Go.PlainAid

theorem counts_any (n : Int) (w : World) : Calls Tryz.prog 137 #[.int .i64 n] w fun e w' => e = .returned (.bool (okN n)) ∧ w = w' := by
  go_enter Tryz.func137, Tryz.ntmps137
  by_cases h1 : 1 ≤ n <;> by_cases h2 : n ≤ 1099511627776
  all_goals
    have HS := Lib.hid (show okN n = decide (1 ≤ n ∧ n ≤ 1099511627776) from rfl)
    go_wp2
    go_ret
    exact ⟨ret_bool rfl (by rw [HS.out]; simp [h1, h2]), rfl⟩
theorem vf_any (n : Int) (w : World) : Calls Tryz.prog 136 #[.int .i64 n] w fun e w' => e = .returned (.bool (!okN n)) ∧ w = w' := by
  go_enter Tryz.func136, Tryz.ntmps136
  go_wp2_with fail
  refine (counts_any _ _).mono ?_
  rintro e w' ⟨rfl, rfl⟩
  go_wp2
  go_ret
  exact ⟨rfl, rfl⟩
set_option maxHeartbeats 1000000 in
theorem indexF_any (A : Option Addr) (c : Nat) (L : List Int) (w : World) (hv : ArgInts w (.slice A L.length c) L) (hl : L.length ≤ maxLen) :
    Calls Tryz.prog 148 #[.slice A L.length c, .func (.func 136) #[] #[]] w fun e w' => (∃ r : Int, e = .returned (.int .i64 r) ∧ decide (0 ≤ r) = !(L.all okN)) ∧ w = w' := by
  have HV := Lib.hid hv; clear hv
  unfold maxLen at hl
  go_enter Tryz.func148, Tryz.ntmps148
  go_wp2
  go_loopw [8] (fun i wr => ∃ k : Nat, k ≤ L.length ∧ i = .int .i64 k ∧ wr = w ∧ (L.take k).all okN = true) (fun i _ => L.length - (intOf i).toNat)
  case atStart => exact ⟨0, Nat.zero_le _, rfl, rfl, by simp⟩
  case round =>
    obtain ⟨k, hk, rfl, rfl, hF⟩ := hrel
    have HF := Lib.hid hF; clear hF
    by_cases hlt : k < L.length
    · have hk0 : (0 : Int) ≤ (k : Int) := by omega
      have hk1 : (k : Int) < (L.length : Int) := by omega
      obtain ⟨g, o, c', e1, hxx⟩ := HV.out.at_ hlt
      have hx := hxx k _ (List.getElem?_eq_getElem hlt)
      clear hxx
      injection e1 with e1 _ e1c
      subst e1 e1c
      have HT := Lib.hid (all_take okN hlt)
      have HM := Lib.hid (show okN L[k] = false → L.all okN = false from fun h => by
        rw [Bool.eq_false_iff]; intro ha
        have := List.all_eq_true.1 ha _ (List.getElem_mem hlt)
        rw [h] at this; cases this)
      generalize L[k] = x at *
      go_wp2_with fail
      refine (vf_any x _).mono ?_
      rintro e w' ⟨rfl, rfl⟩
      cases hok : okN x with
      | false =>
        have HO := Lib.hid hok; clear hok
        go_wp2
        go_ret
        exact ⟨⟨k, rfl, by rw [HM.out HO.out]; simp⟩, rfl⟩
      | true =>
        have HO := Lib.hid hok; clear hok
        go_wp2
        go_roundw
        case rel => exact ⟨k + 1, by omega, by go_num, by trivial, by rw [HT.out, HF.out, HO.out]; rfl⟩
        case measure => simp [intOf]; omega
    · have hk' : k = L.length := by omega
      have hall : L.all okN = true := by have := HF.out; rwa [hk', List.take_length] at this
      have HA := Lib.hid hall; clear hall hk'
      have hk1 : ¬ (k : Int) < (L.length : Int) := by omega
      go_wp2
      go_ret
      exact ⟨⟨-1, rfl, by rw [HA.out]; rfl⟩, rfl⟩
theorem containsF_any (A : Option Addr) (c : Nat) (L : List Int) (w : World) (hv : ArgInts w (.slice A L.length c) L) (hl : L.length ≤ maxLen) :
    Calls Tryz.prog 135 #[.slice A L.length c, .func (.func 136) #[] #[]] w fun e w' => e = .returned (.bool (!(L.all okN))) ∧ w = w' := by
  go_enter Tryz.func135, Tryz.ntmps135
  go_wp2_with fail
  refine (indexF_any _ _ _ _ hv hl).mono ?_
  rintro e w' ⟨⟨r, rfl, hr⟩, rfl⟩
  have HR := Lib.hid hr; clear hr hv
  go_wp2
  go_ret
  exact ⟨ret_bool rfl HR.out, rfl⟩
theorem validS_any (v : Value) (L : List Int) (w : World) (hv : ArgInts w v L) (hl : L.length ≤ maxLen) :
    Calls Tryz.prog 109 #[v] w fun e w' => e = .returned (.bool (validS L)) ∧ w = w' := by
  have HV := Lib.hid hv
  obtain ⟨A, c, rfl, hc, _⟩ := hv
  go_enter Tryz.func109, Tryz.ntmps109
  by_cases h4 : L.length ≤ 4
  · have h4' : (L.length : Int) ≤ 4 := by omega
    have HS := Lib.hid (show validS L = L.all okN by unfold validS; rw [decide_eq_true h4]; simp)
    go_wp2_with fail
    refine (containsF_any _ _ _ _ HV.out hl).mono ?_
    rintro e w' ⟨rfl, rfl⟩
    generalize L.all okN = b at *
    cases b
    all_goals
      go_wp2
      go_ret
      exact ⟨ret_bool rfl (by rw [HS.out]), rfl⟩
  · have h4' : ¬ (L.length : Int) ≤ 4 := by omega
    have HS := Lib.hid (show validS L = false by unfold validS; rw [decide_eq_false h4]; simp)
    go_wp2
    go_ret
    exact ⟨ret_bool rfl HS.out.symm, rfl⟩

end Go.Proofs.YtkiaclldjofdoaaGreat

/- The program's functions on paths, by contracts. -/
namespace Go.Proofs.YtkiaclldjofdoaaGreat
open Go Go.RowKit Go.PlainAid

theorem fineL_step (l : List UInt8) (k n : Nat) (hk : k < l.length) : fineL (l.drop k) n = if l[k].toNat = 47 then (if n = 0 then false else fineL (l.drop (k + 1)) 0) else if okC l[k] then (if 6 ≤ n then false else fineL (l.drop (k + 1)) (n + 1)) else false := by
  rw [List.drop_eq_getElem_cons hk]; rfl

set_option maxRecDepth 100000 in
theorem fine_any (s : ByteArray) (w : World) (hs : s.size ≤ maxLen) :
    Calls Tryz.prog 140 #[.string s] w fun e w' => e = .returned (.bool (fineL s.data.toList 0)) ∧ w' = w := by
  have hb := get_bt s
  have hs' : (s.size : Int) ≤ 9223372036854775807 := by unfold maxLen at hs; omega
  go_enter Tryz.func140, Tryz.ntmps140
  go_wp2
  go_step3
  go_wp2
  go_step3
  go_wp2
  go_loopw [8, 3] (fun i n wr => ∃ k : Nat, k ≤ s.size ∧ i = .int .i64 k ∧ ∃ N : Nat, N ≤ 6 ∧ n = .int .i64 N ∧ wr = w ∧ fineL (s.data.toList.drop k) N = fineL s.data.toList 0) (fun i _ _ => s.size - (intOf i).toNat)
  case atStart => exact ⟨0, Nat.zero_le _, rfl, 0, Nat.zero_le _, rfl, rfl, by simp⟩
  case round =>
    obtain ⟨k, hk, rfl, N, hN, rfl, rfl, hF⟩ := hrel
    by_cases hlt : k < s.size
    · have hk0 : (0 : Int) ≤ (k : Int) := by omega
      have hk1 : (k : Int) < (s.size : Int) := by omega
      have hl : k < s.data.toList.length := by simpa using hlt
      have hc : bt s k = (((s.data.toList[k]'hl).toNat : Nat) : Int) := by
        rw [← hb k hlt]; simp [ByteArray.getElem_eq_getElem_data]
      rw [fineL_step _ _ _ hl] at hF
      generalize s.data.toList[k]'hl = c at *
      have hrng : c.toNat < 256 := c.toNat_lt
      have hok : okC c = true ↔ (97 ≤ c.toNat ∧ c.toNat ≤ 122) ∨ (48 ≤ c.toNat ∧ c.toNat ≤ 57) := by simp [okC]
      by_cases h47 : c.toNat = 47
      · have e47 : bt s k = 47 := by omega
        rw [if_pos h47] at hF
        clear hc hok
        by_cases hN0 : N = 0
        · subst hN0
          rw [if_pos rfl] at hF
          have HF := Lib.hid hF; clear hF
          go_wp2
          try rw [Exit.noGoto_ret]
          go_ret
          exact ⟨by rw [← HF.out]; rfl, rfl⟩
        · rw [if_neg hN0] at hF
          have n0 : ((N : Int) == 0) = false := by simp [hN0]
          have HF := Lib.hid hF; clear hF
          go_wp2
          go_roundw
          case rel => exact ⟨k + 1, by omega, by go_num, 0, by omega, by go_num, by trivial, HF.out⟩
          case measure => simp [intOf]; omega
      · have e47 : (bt s k == 47) = false := by simp; omega
        rw [if_neg h47] at hF
        rcases (by omega : (97 ≤ c.toNat ∧ c.toNat ≤ 122) ∨ (48 ≤ c.toNat ∧ c.toNat ≤ 57) ∨ c.toNat < 48 ∨ (57 < c.toNat ∧ c.toNat < 97) ∨ 122 < c.toNat) with ⟨c1, c2⟩ | ⟨c1, c2⟩ | c1 | ⟨c1, c2⟩ | c1
        · rw [if_pos (hok.2 (by omega))] at hF
          have f1 : 97 ≤ bt s k := by omega
          have f2 : bt s k ≤ 122 := by omega
          clear hc hok c1 c2
          by_cases h6 : 6 ≤ N
          · obtain rfl : N = 6 := by omega
            rw [if_pos (Nat.le_refl _)] at hF
            have HF := Lib.hid hF; clear hF
            go_wp2
            try rw [Exit.noGoto_ret]
            go_ret
            exact ⟨by rw [← HF.out]; rfl, rfl⟩
          · rw [if_neg h6] at hF
            have h6' : (N : Int) + 1 ≤ 6 := by omega
            have HF := Lib.hid hF; clear hF
            go_wp2
            go_roundw
            case rel => exact ⟨k + 1, by omega, by go_num, N + 1, by omega, by go_num, by trivial, HF.out⟩
            case measure => simp [intOf]; omega
        · rw [if_pos (hok.2 (by omega))] at hF
          have f1 : 48 ≤ bt s k := by omega
          have f2 : bt s k ≤ 57 := by omega
          have f3 : ¬ 97 ≤ bt s k := by omega
          clear hc hok c1 c2
          by_cases h6 : 6 ≤ N
          · obtain rfl : N = 6 := by omega
            rw [if_pos (Nat.le_refl _)] at hF
            have HF := Lib.hid hF; clear hF
            go_wp2
            try rw [Exit.noGoto_ret]
            go_ret
            exact ⟨by rw [← HF.out]; rfl, rfl⟩
          · rw [if_neg h6] at hF
            have h6' : (N : Int) + 1 ≤ 6 := by omega
            have HF := Lib.hid hF; clear hF
            go_wp2
            go_roundw
            case rel => exact ⟨k + 1, by omega, by go_num, N + 1, by omega, by go_num, by trivial, HF.out⟩
            case measure => simp [intOf]; omega
        · rw [if_neg (fun h => by have := hok.1 h; omega)] at hF
          have f1 : ¬ 48 ≤ bt s k := by omega
          have f3 : ¬ 97 ≤ bt s k := by omega
          clear hc hok c1
          have HF := Lib.hid hF; clear hF
          go_wp2
          try rw [Exit.noGoto_ret]
          go_ret
          exact ⟨by rw [← HF.out]; rfl, rfl⟩
        · rw [if_neg (fun h => by have := hok.1 h; omega)] at hF
          have f1 : 48 ≤ bt s k := by omega
          have f2 : ¬ bt s k ≤ 57 := by omega
          have f3 : ¬ 97 ≤ bt s k := by omega
          clear hc hok c1 c2
          have HF := Lib.hid hF; clear hF
          go_wp2
          try rw [Exit.noGoto_ret]
          go_ret
          exact ⟨by rw [← HF.out]; rfl, rfl⟩
        · rw [if_neg (fun h => by have := hok.1 h; omega)] at hF
          have f1 : 97 ≤ bt s k := by omega
          have f2 : ¬ bt s k ≤ 122 := by omega
          have f3 : 48 ≤ bt s k := by omega
          have f4 : ¬ bt s k ≤ 57 := by omega
          clear hc hok c1
          have HF := Lib.hid hF; clear hF
          go_wp2
          try rw [Exit.noGoto_ret]
          go_ret
          exact ⟨by rw [← HF.out]; rfl, rfl⟩
    · have hk' : k = s.size := by omega
      have hd : s.data.toList.drop k = [] := List.drop_eq_nil_of_le (by subst hk'; simp)
      rw [hd] at hF
      by_cases hN0 : 0 < N
      · have h1 : (0 : Int) < (N : Int) := by omega
        have h2 : (N : Int) ≤ 6 := by omega
        have HF := Lib.hid hF; clear hF
        go_wp2
        try rw [Exit.noGoto_ret]
        go_ret
        exact ⟨by rw [← HF.out, fineL, decide_eq_true ⟨hN0, hN⟩]; rfl, rfl⟩
      · obtain rfl : N = 0 := by omega
        have HF := Lib.hid hF; clear hF
        go_wp2
        try rw [Exit.noGoto_ret]
        go_ret
        exact ⟨by rw [← HF.out]; rfl, rfl⟩

theorem str_nil {s : ByteArray} (h : s.data.toList = []) : s = ⟨#[]⟩ := by
  obtain ⟨⟨l⟩⟩ := s
  simp at h; subst h; rfl
theorem str_ne {s : ByteArray} (h : s.data.toList ≠ []) : ¬ s.toList = [] := by rw [ByteArray.toList_eq]; exact h

theorem str_em {s : ByteArray} (h : s.data.toList ≠ []) : s.toList.isEmpty = false := by
  rw [ByteArray.toList_eq]; cases hl : s.data.toList with
  | nil => exact absurd hl h
  | cons a r => rfl
theorem str_inj {a b : ByteArray} (h : a.data.toList = b.data.toList) : a = b := by
  obtain ⟨⟨l⟩⟩ := a
  obtain ⟨⟨m⟩⟩ := b
  simp at h; subst h; rfl
theorem valid_any (s : ByteArray) (w : World) (hs : s.size ≤ maxLen) :
    Calls Tryz.prog 115 #[.string s] w fun e w' => e = .returned (.bool (path s.data.toList).isSome) ∧ w' = w := by
  go_enter Tryz.func115, Tryz.ntmps115
  by_cases h0 : s.data.toList = []
  · obtain rfl := str_nil h0
    go_wp2
    go_ret
    exact ⟨rfl, rfl⟩
  · have n0 := str_ne h0
    have HI := Lib.hid (path_isSome_iff h0)
    have HN := Lib.hid h0
    clear h0
    go_wp2_with fail
    refine (fine_any _ _ hs).mono ?_
    rintro e w' ⟨rfl, rfl⟩
    cases hf : fineL s.data.toList 0 with
    | false =>
      have HF := Lib.hid hf; clear hf
      go_wp2
      go_ret
      refine ⟨?_, rfl⟩
      have : (path s.data.toList).isSome = false := by rw [Bool.eq_false_iff]; intro h; have := (HI.out.1 h).1; rw [HF.out] at this; cases this
      exact ret_bool rfl (by rw [this]; simp [n0])
    | true =>
      have HF := Lib.hid hf; clear hf
      go_wp2_with fail
      refine (Tryz.strings_Count_one s 47 _).mono ?_
      rintro e w' ⟨rfl, rfl⟩
      have hc : Lib.countByte s.data.toList 47 = s.data.toList.count 47 := rfl
      rw [hc]
      generalize hn : s.data.toList.count 47 = n
      have HC := Lib.hid hn; clear hn hc
      by_cases h4 : n < 4
      · have h4' : (n : Int) < 4 := by omega
        go_wp2
        go_ret
        refine ⟨?_, rfl⟩
        have : (path s.data.toList).isSome = true := HI.out.2 ⟨HF.out, by rw [HC.out]; exact h4⟩
        exact ret_bool rfl (by rw [this]; try simp [n0, h4'])
      · have h4' : ¬ (n : Int) < 4 := by omega
        go_wp2
        go_ret
        refine ⟨?_, rfl⟩
        have : (path s.data.toList).isSome = false := by rw [Bool.eq_false_iff]; intro h; have := (HI.out.1 h).2; rw [HC.out] at this; exact h4 this
        exact ret_bool rfl (by rw [this]; try simp [n0, h4'])
end Go.Proofs.YtkiaclldjofdoaaGreat

/- What may be in a field, by contract (wire). No condition beyond what each theorem states. -/
namespace Go.Proofs.YtkiaclldjofdoaaGreat
open Go Go.RowKit Go.PlainAid

theorem tlegal_any (n : Int) (w : World) : Calls Tryz.prog 105 #[.int .i64 n] w fun e w' => e = .returned (.bool (decide (termI n))) ∧ w = w' := by
  go_enter Tryz.func105, Tryz.ntmps105
  by_cases h1 : 4 ≤ n <;> by_cases h2 : n ≤ 1048576
  all_goals
    have HS := Lib.hid (show decide (termI n) = decide (4 ≤ n ∧ n ≤ 1048576) from rfl)
    go_wp2
    go_ret
    exact ⟨ret_bool rfl (by rw [HS.out]; simp [h1, h2]), rfl⟩
theorem yes_any (x : Int) (w : World) : Calls Tryz.prog 61 #[.int .i64 x] w fun e w' => e = .returned (.bool true) ∧ w = w' := by
  go_enter Tryz.func61, Tryz.ntmps61
  go_wp2
  go_ret
  exact ⟨rfl, rfl⟩
theorem errOk_any (n : Int) (w : World) : Calls Tryz.prog 65 #[.int .i64 n] w fun e w' => e = .returned (.bool (decide (0 ≤ n ∧ n ≤ 99))) ∧ w = w' := by
  go_enter Tryz.func65, Tryz.ntmps65
  by_cases h1 : 0 ≤ n <;> by_cases h2 : n ≤ 99
  all_goals
    have HS := Lib.hid (show decide (0 ≤ n ∧ n ≤ 99) = (decide (0 ≤ n) && decide (n ≤ 99)) by simp)
    go_wp2
    go_ret
    exact ⟨ret_bool rfl (by simp [h1, h2]), rfl⟩
theorem isMode_any (n : Int) (w : World) : Calls Tryz.prog 77 #[.int .i64 n] w fun e w' => e = .returned (.bool (decide (modeI n))) ∧ w = w' := by
  have HS := Lib.hid (show decide (modeI n) = decide (n = 1 ∨ n = 2) from rfl)
  go_enter Tryz.func77, Tryz.ntmps77
  by_cases h1 : n = 1
  · subst h1
    go_wp2
    go_ret
    exact ⟨ret_bool rfl (by rw [HS.out]; simp), rfl⟩
  · by_cases h2 : n = 2
    · subst h2
      go_wp2
      go_ret
      exact ⟨ret_bool rfl (by rw [HS.out]; simp), rfl⟩
    · have d1 : (n == 1) = false := by rw [beq_eq_false_iff_ne]; exact h1
      have d2 : (n == 2) = false := by rw [beq_eq_false_iff_ne]; exact h2
      go_wp2
      go_ret
      exact ⟨ret_bool rfl (by rw [HS.out]; simp [h1, h2]), rfl⟩
theorem always_any (v : Value) (w : World) : Calls Tryz.prog 134 #[v] w fun e w' => e = .returned (.bool true) ∧ w = w' := by
  go_enter Tryz.func134, Tryz.ntmps134
  go_wp2
  go_ret
  exact ⟨rfl, rfl⟩
theorem never_any (v : Value) (w : World) : Calls Tryz.prog 101 #[v] w fun e w' => e = .returned (.bool false) ∧ w = w' := by
  go_enter Tryz.func101, Tryz.ntmps101
  go_wp2
  go_ret
  exact ⟨rfl, rfl⟩
theorem legal_any (g : Nat) (m : Msg) (sv : Value) (W : World) (hm : MsgB W g m sv) : Calls Tryz.prog 97 #[.pointer (some ⟨g, 0, none⟩)] W fun e w' => e = .returned (.bool (decide (termI m.term))) ∧ Kp No W w' := by
  have z9 : W.cell? ⟨g, 9, none⟩ = some (.int .i64 m.term) := hm.1.cell 9
  clear hm
  go_enter Tryz.func97, Tryz.ntmps97
  go_wp2_with (go_at_call 105; refine (tlegal_any _ _).mono ?_; rintro e w' ⟨rfl, rfl⟩)
  go_ret
  exact ⟨rfl, Kp.refl _ _⟩
theorem orig4_any (g : Nat) (m : Msg) (sv : Value) (W : World) (hm : MsgB W g m sv) : Calls Tryz.prog 72 #[.pointer (some ⟨g, 0, none⟩)] W fun e w' => e = .returned (.bool (decide (nodeI m.origin))) ∧ Kp No W w' := by
  have z9 : W.cell? ⟨g, 14, none⟩ = some (.int .i64 m.origin) := hm.1.cell 14
  clear hm
  go_enter Tryz.func72, Tryz.ntmps72
  go_wp2_with (go_at_call 36; refine (isNode_any _ _).mono ?_; rintro e w' ⟨rfl, rfl⟩)
  go_ret
  exact ⟨rfl, Kp.refl _ _⟩
theorem orig5_any (g : Nat) (m : Msg) (sv : Value) (W : World) (hm : MsgB W g m sv) : Calls Tryz.prog 74 #[.pointer (some ⟨g, 0, none⟩)] W fun e w' => e = .returned (.bool (decide (nodeI m.origin))) ∧ Kp No W w' := by
  have z9 : W.cell? ⟨g, 14, none⟩ = some (.int .i64 m.origin) := hm.1.cell 14
  clear hm
  go_enter Tryz.func74, Tryz.ntmps74
  go_wp2_with (go_at_call 36; refine (isNode_any _ _).mono ?_; rintro e w' ⟨rfl, rfl⟩)
  go_ret
  exact ⟨rfl, Kp.refl _ _⟩
set_option maxRecDepth 100000 in
set_option maxHeartbeats 1000000 in
theorem within_any (g : Nat) (m : Msg) (sv : Value) (W : World) (hm : MsgB W g m sv) : Calls Tryz.prog 53 #[.pointer (some ⟨g, 0, none⟩)] W fun e w' => e = .returned (.bool (decide (1 ≤ m.low ∧ m.low ≤ m.seq))) ∧ Kp No W w' := by
  have z5 : W.cell? ⟨g, 5, none⟩ = some (.int .i64 m.low) := hm.1.cell 5
  have z4 : W.cell? ⟨g, 4, none⟩ = some (.int .i64 m.seq) := hm.1.cell 4
  clear hm
  generalize m.low = x at *
  generalize m.seq = y at *
  by_cases h1 : 1 ≤ x
  · by_cases h2 : x ≤ y
    · have HS := Lib.hid (show decide (1 ≤ x ∧ x ≤ y) = true by simp [h1, h2])
      go_enter Tryz.func53, Tryz.ntmps53
      go_wp2
      go_quiet (fail)
      go_wp2
      go_ret
      exact ⟨ret_bool rfl (by rw [HS.out]; try simp [h2]), (Kp.refl _ _).drewN _⟩
    · have HS := Lib.hid (show decide (1 ≤ x ∧ x ≤ y) = false by simp [h2])
      have d2 : decide (x ≤ y) = false := by simpa using h2
      go_enter Tryz.func53, Tryz.ntmps53
      go_wp2
      go_quiet (fail)
      go_wp2
      go_ret
      exact ⟨ret_bool rfl (by rw [HS.out]; try simp [h2]), (Kp.refl _ _).drewN _⟩
  · have HS := Lib.hid (show decide (1 ≤ x ∧ x ≤ y) = false by simp [h1])
    have d1 : decide (1 ≤ x) = false := by simpa using h1
    go_enter Tryz.func53, Tryz.ntmps53
    go_wp2
    go_quiet (fail)
    go_wp2
    go_ret
    exact ⟨ret_bool rfl (by rw [HS.out]; try simp [h1]), (Kp.refl _ _).drewN _⟩
set_option maxRecDepth 100000 in
set_option maxHeartbeats 1000000 in
theorem granted_any (g : Nat) (m : Msg) (sv : Value) (W : World) (hm : MsgB W g m sv) : Calls Tryz.prog 68 #[.pointer (some ⟨g, 0, none⟩)] W fun e w' => e = .returned (.bool (decide (termI m.term ∧ m.stamp ≠ [] ∨ m.term = 0 ∧ m.stamp = []))) ∧ Kp No W w' := by
  obtain ⟨A, c, rfl, hc⟩ : ∃ A c, sv = .slice A m.stamp.length c ∧ m.stamp.length ≤ c := by obtain ⟨A, c, e, hc, _⟩ := hm.2; exact ⟨A, c, e, hc⟩
  have z9 : W.cell? ⟨g, 9, none⟩ = some (.int .i64 m.term) := hm.1.cell 9
  have z13 : W.cell? ⟨g, 13, none⟩ = some (.slice A m.stamp.length c) := hm.1.cell 13
  clear hm
  have HE := Lib.hid (show m.stamp = [] ↔ m.stamp.length = 0 by simp)
  generalize m.term = t at *
  by_cases h1 : termI t
  · have HT := Lib.hid (show decide (termI t) = true by simpa using h1)
    have h0 : (t == 0) = false := by rw [beq_eq_false_iff_ne]; unfold termI at h1; omega
    have H0 := Lib.hid (show t ≠ 0 by unfold termI at h1; omega)
    have H1 := Lib.hid h1; clear h1
    by_cases h2 : 0 < m.stamp.length
    · have HS := Lib.hid (show decide (termI t ∧ m.stamp ≠ [] ∨ t = 0 ∧ m.stamp = []) = true by
        rw [decide_eq_true_iff]; exact .inl ⟨H1.out, fun e => by have := HE.out.1 e; omega⟩)
      have h3 : (0 : Int) < (m.stamp.length : Int) := by omega
      go_enter Tryz.func68, Tryz.ntmps68
      go_wp2_with (go_at_call 105; refine (tlegal_any _ _).mono ?_; rintro e w' ⟨rfl, rfl⟩; rw [HT.out])
      go_ret
      exact ⟨ret_bool rfl (by rw [HS.out]; try simp [h2]), Kp.refl _ _⟩
    · have HS := Lib.hid (show decide (termI t ∧ m.stamp ≠ [] ∨ t = 0 ∧ m.stamp = []) = false by
        rw [decide_eq_false_iff_not]
        rintro (⟨_, h⟩ | ⟨h, _⟩)
        · exact h (HE.out.2 (by omega))
        · exact H0.out h)
      have e0 : m.stamp.length = 0 := by omega
      rw [e0] at z13
      clear e0
      go_enter Tryz.func68, Tryz.ntmps68
      go_wp2_with (go_at_call 105; refine (tlegal_any _ _).mono ?_; rintro e w' ⟨rfl, rfl⟩; rw [HT.out])
      go_ret
      exact ⟨ret_bool rfl (by rw [HS.out]; try simp [h2]), Kp.refl _ _⟩
  · have HT := Lib.hid (show decide (termI t) = false by simpa using h1)
    have H1 := Lib.hid h1; clear h1
    by_cases h0 : t = 0
    · subst h0
      by_cases h2 : m.stamp.length = 0
      · have HS := Lib.hid (show decide (termI 0 ∧ m.stamp ≠ [] ∨ (0 : Int) = 0 ∧ m.stamp = []) = true by
          rw [decide_eq_true_iff]; exact .inr ⟨rfl, HE.out.2 h2⟩)
        rw [h2] at z13
        clear h2
        go_enter Tryz.func68, Tryz.ntmps68
        go_wp2_with (go_at_call 105; refine (tlegal_any _ _).mono ?_; rintro e w' ⟨rfl, rfl⟩; rw [HT.out])
        go_ret
        exact ⟨ret_bool rfl (by rw [HS.out]), Kp.refl _ _⟩
      · have HS := Lib.hid (show decide (termI 0 ∧ m.stamp ≠ [] ∨ (0 : Int) = 0 ∧ m.stamp = []) = false by
          rw [decide_eq_false_iff_not]
          rintro (⟨h, _⟩ | ⟨_, h⟩)
          · exact H1.out h
          · exact h2 (HE.out.1 h))
        have d2 : ((m.stamp.length : Int) == 0) = false := by rw [beq_eq_false_iff_ne]; omega
        clear h2
        go_enter Tryz.func68, Tryz.ntmps68
        go_wp2_with (go_at_call 105; refine (tlegal_any _ _).mono ?_; rintro e w' ⟨rfl, rfl⟩; rw [HT.out])
        go_ret
        exact ⟨ret_bool rfl (by rw [HS.out]; try simp [d2]), Kp.refl _ _⟩
    · have HS := Lib.hid (show decide (termI t ∧ m.stamp ≠ [] ∨ t = 0 ∧ m.stamp = []) = false by
        rw [decide_eq_false_iff_not]
        rintro (⟨h, _⟩ | ⟨h, _⟩)
        · exact H1.out h
        · exact h0 h)
      have d0 : (t == 0) = false := by rw [beq_eq_false_iff_ne]; exact h0
      clear h0
      go_enter Tryz.func68, Tryz.ntmps68
      go_wp2_with (go_at_call 105; refine (tlegal_any _ _).mono ?_; rintro e w' ⟨rfl, rfl⟩; rw [HT.out])
      go_ret
      exact ⟨ret_bool rfl (by rw [HS.out]), Kp.refl _ _⟩
theorem validS_stamp (L : List Int) : validS L = decide (stampI L) := by
  rw [Bool.eq_iff_iff, decide_eq_true_iff]
  unfold validS stampI
  simp [okN, cntI]
theorem stampOk_any (g : Nat) (m : Msg) (sv : Value) (W : World) (hm : MsgB W g m sv) (hl : Short maxLen m) : Calls Tryz.prog 108 #[.pointer (some ⟨g, 0, none⟩)] W fun e w' => e = .returned (.bool (decide (stampI m.stamp))) ∧ Kp No W w' := by
  have pv := validS_any sv m.stamp W hm.2.arg hl.2
  have z13 : W.cell? ⟨g, 13, none⟩ = some sv := hm.1.cell 13
  rw [validS_stamp] at pv
  clear hm hl
  go_enter Tryz.func108, Tryz.ntmps108
  go_wp2_with (go_at_call 109; refine pv.mono ?_; rintro e w' ⟨rfl, rfl⟩)
  go_ret
  exact ⟨rfl, Kp.refl _ _⟩
theorem pathOk_any (g : Nat) (m : Msg) (sv : Value) (W : World) (hm : MsgB W g m sv) (hl : Short maxLen m) : Calls Tryz.prog 114 #[.pointer (some ⟨g, 0, none⟩)] W fun e w' => e = .returned (.bool (vpP m.path)) ∧ Kp No W w' := by
  have pv := valid_any ⟨m.path.toArray⟩ W (by simpa [ByteArray.size] using hl.1)
  have z7 : W.cell? ⟨g, 7, none⟩ = some (.string ⟨m.path.toArray⟩) := hm.1.cell 7
  have e : (path (⟨m.path.toArray⟩ : ByteArray).data.toList).isSome = vpP m.path := rfl
  rw [e] at pv
  clear hm hl e
  go_enter Tryz.func114, Tryz.ntmps114
  go_wp2_with (go_at_call 115; refine pv.mono ?_; rintro e w' ⟨rfl, rfl⟩)
  go_ret
  exact ⟨rfl, Kp.refl _ _⟩
end Go.Proofs.YtkiaclldjofdoaaGreat

/- The fields that are texts and flags, by contract (wire). No condition beyond what each theorem states. -/
namespace Go.Proofs.YtkiaclldjofdoaaGreat
open Go Go.RowKit Go.PlainAid

theorem entP1 : Ent 112 := enters_of Tryz.func112 (by kernel_rfl) rfl
theorem entP2 : Ent 113 := enters_of Tryz.func113 (by kernel_rfl) rfl
theorem entP3 : Ent 114 := enters_of Tryz.func114 (by kernel_rfl) rfl
set_option maxRecDepth 100000 in
set_option maxHeartbeats 1000000 in
theorem path1_any (pc : Nat) (W : World) (hp : Bk W pc 129 [.func (.func 110) #[] #[]])
    (g : Nat) (m : Msg) (sv : Value) (b B : Nat) (u : Value) (l : List UInt8) (hm : MsgB W g m sv) (hs : (textS m.path).length ≤ 10000) (hw : WrB W b B u l) (hB : B ≤ W.heap.size) (hl : l.length ≤ 100000) :
    Calls Tryz.prog 112 #[.pointer (some ⟨b, 0, none⟩), .pointer (some ⟨g, 0, none⟩), .pointer (some ⟨pc, 0, none⟩)] W fun e w' => e = .returned (.tuple #[]) ∧ WrAft W b B u (l ++ textS m.path) w' := by
  have hsz : (⟨m.path.toArray⟩ : ByteArray).size = m.path.length := by simp [ByteArray.size]
  have pn := wtext_any b B u l ⟨m.path.toArray⟩ W.drew hw hB (by omega) (by rw [hsz]; simp only [textS, List.length_append] at hs; omega)
  have hq : ∀ w', WrAft W.drew b B u (l ++ numS (⟨m.path.toArray⟩ : ByteArray).size ++ (⟨m.path.toArray⟩ : ByteArray).data.toList) w' → WrAft W b B u (l ++ textS m.path) w' := fun w' h => by
    rw [hsz] at h
    have e : l ++ textS m.path = l ++ numS m.path.length ++ (⟨m.path.toArray⟩ : ByteArray).data.toList := by simp [textS]
    rw [e]
    exact WrAft.then_ ((Kp.refl _ W).drew) (fun _ h => .inl h) h
  have z1 : W.cell? ⟨pc, 0, none⟩ = some (.func (.func 110) #[] #[]) := hp.cell 0
  have z3 : W.cell? ⟨g, 7, none⟩ = some (.string ⟨m.path.toArray⟩) := hm.1.cell 7
  have HQ := Lib.hid hq
  clear hq hsz hp hm hs hw
  generalize (⟨m.path.toArray⟩ : ByteArray) = S at *
  go_enter Tryz.func112, Tryz.ntmps112
  go_still_tail 6, (by kernel_rfl)
  change wpList _ _ _ _ _ W.drew
  generalize W.drew = W2 at *
  go_wp2_with fail
  refine pn.mono ?_
  rintro e w' ⟨rfl, h2⟩
  have H2 := Lib.hid (HQ.out _ h2)
  clear h2 pn
  go_wp2
  go_end0
  exact ⟨rfl, H2.out⟩
set_option maxRecDepth 100000 in
set_option maxHeartbeats 1000000 in
theorem path2_any (tc : Nat) (W : World) (hp : Bk W tc 131 [.func (.func 111) #[] #[]])
    (g : Nat) (m : Msg) (sv : Value) (b B : Nat) (s0 : Rd) (hm : Bk W g 50 (mcells m sv)) (ho : W.ownsRow B 3 1 sv m.stamp.length (ints m.stamp)) (hr : RdS W b s0) (hl : s0.1.length ≤ 1000) :
    Calls Tryz.prog 113 #[.pointer (some ⟨b, 0, none⟩), .pointer (some ⟨g, 0, none⟩), .pointer (some ⟨tc, 0, none⟩)] W fun e w' => e = .returned (.tuple #[]) ∧ RdAft W g sv b B { m with path := (rdText 200 s0).1 } (rdText 200 s0).2 w' := by
  have pn := rd_text b s0 200 W hr (by unfold maxLen; omega)
  rw [show ((200 : Nat) : Int) = 200 from rfl] at pn
  have z1 : W.cell? ⟨tc, 0, none⟩ = some (.func (.func 111) #[] #[]) := hp.cell 0
  have HM := Lib.hid hm; have HO := Lib.hid ho; have H0 := Lib.hid hr
  have hgb : g ≠ b := by obtain ⟨cs, hb⟩ := hr.rdr; exact hm.ne_ hb (by decide)
  have HN := Lib.hid hgb
  clear hm ho hr hp hgb
  go_enter Tryz.func113, Tryz.ntmps113
  go_wp2_with fail
  refine pn.mono ?_
  rintro e w' ⟨rfl, h2, K2⟩
  have B2 := HM.out.kp K2 HN.out
  have z3 : w'.cell? ⟨g, 7, none⟩ = some (.string ⟨m.path.toArray⟩) := B2.cell 7
  have zf := B2.frozen 7
  have H2 := Lib.hid h2; have HK2 := Lib.hid K2
  clear h2 pn B2 K2
  go_wp2
  go_end0
  exact ⟨rfl, rdAft_mk HM.out HO.out H0.out HK2.out H2.out rfl rfl⟩
set_option maxRecDepth 100000 in
set_option maxHeartbeats 1000000 in
theorem path_any (W : World) : Calls Tryz.prog 70 #[] W (MkF W (fPath vpP)) := by
  have hmf : ∀ (fn : Fn) (first cap : Array Value) (w : World), (Instr.makeFunc fn first cap).run Tryz.prog w = .ok (.func fn first cap) w := fun _ _ _ _ => rfl
  go_enter Tryz.func70, Tryz.ntmps70
  go_wp2
  refine bodyPost_ret (v := .agg #[.func (.func 112) #[] #[.pointer (some ⟨W.heap.size + 1, 0, none⟩)], .func (.func 113) #[] #[.pointer (some ⟨W.heap.size + 1 + 1, 0, none⟩)], .func (.func 114) #[] #[]]) (by simp [results, Tryz.results70, go_sem]) rfl ?_
  have K := (((Kp.refl No W).alloc (.cells #[.func (.func 112) #[] #[.pointer (some ⟨W.heap.size + 1, 0, none⟩)], .func (.func 113) #[] #[.pointer (some ⟨W.heap.size + 1 + 1, 0, none⟩)], .func (.func 114) #[] #[]] 83)).alloc (.cells #[.func (.func 110) #[] #[]] 129)).alloc (.cells #[.func (.func 111) #[] #[]] 131)
  refine ⟨⟨_, _, _, _, _, _⟩, rfl, ?_, K⟩
  have h1 : Bk (((W.alloc (.cells #[.func (.func 112) #[] #[.pointer (some ⟨W.heap.size + 1, 0, none⟩)], .func (.func 113) #[] #[.pointer (some ⟨W.heap.size + 1 + 1, 0, none⟩)], .func (.func 114) #[] #[]] 83)).alloc (.cells #[.func (.func 110) #[] #[]] 129)).alloc (.cells #[.func (.func 111) #[] #[]] 131)) (W.heap.size + 1) 129 [.func (.func 110) #[] #[]] := (Bk.new' (by simp) rfl).alloc _
  have h2 : Bk (((W.alloc (.cells #[.func (.func 112) #[] #[.pointer (some ⟨W.heap.size + 1, 0, none⟩)], .func (.func 113) #[] #[.pointer (some ⟨W.heap.size + 1 + 1, 0, none⟩)], .func (.func 114) #[] #[]] 83)).alloc (.cells #[.func (.func 110) #[] #[]] 129)).alloc (.cells #[.func (.func 111) #[] #[]] 131)) (W.heap.size + 1 + 1) 131 [.func (.func 111) #[] #[]] := Bk.new' (by simp) rfl
  exact ⟨entP1, entP2, entP3,
    fun W2 hs g m sv b B u l hm _ hsh hw hB hl => path1_any _ W2 (hs.bk h1 (by decide)) g m sv b B u l hm hsh hw hB hl,
    fun W2 hs g m sv b s0 B hm ho hr hB hl _ => path2_any _ W2 (hs.bk h2 (by decide)) g m sv b B s0 hm ho hr hl,
    fun W2 hs g m sv hm hl => pathOk_any g m sv W2 hm hl⟩

theorem entF1 : Ent 132 := enters_of Tryz.func132 (by kernel_rfl) rfl
theorem entF2 : Ent 133 := enters_of Tryz.func133 (by kernel_rfl) rfl
theorem entF3 : Ent 134 := enters_of Tryz.func134 (by kernel_rfl) rfl
set_option maxRecDepth 100000 in
set_option maxHeartbeats 1000000 in
theorem fresh1_any (W : World) (g : Nat) (m : Msg) (sv : Value) (b B : Nat) (u : Value) (l : List UInt8) (hm : MsgB W g m sv) (hw : WrB W b B u l) (hB : B ≤ W.heap.size) (hl : l.length ≤ 100000) :
    Calls Tryz.prog 132 #[.pointer (some ⟨b, 0, none⟩), .pointer (some ⟨g, 0, none⟩)] W fun e w' => e = .returned (.tuple #[]) ∧ WrAft W b B u (l ++ nS (if m.fresh then 1 else 0)) w' := by
  have pn := wnum_any b B u l (if m.fresh then 1 else 0) W hw hB (by omega) (by split <;> omega)
  have z3 : W.cell? ⟨g, 11, none⟩ = some (.bool m.fresh) := hm.1.cell 11
  clear hm hw
  cases hf : m.fresh <;> rw [hf] at pn z3 <;> simp only [if_true, Bool.false_eq_true, if_false] at pn
  all_goals
    clear hf
    go_enter Tryz.func132, Tryz.ntmps132
    go_wp2_with (go_at_call 83; refine pn.mono ?_; rintro e w' ⟨rfl, h2⟩; have H2 := Lib.hid h2; clear h2)
    go_end0
    exact ⟨rfl, H2.out⟩
set_option maxRecDepth 100000 in
set_option maxHeartbeats 1000000 in
theorem fresh2_any (W : World) (g : Nat) (m : Msg) (sv : Value) (b B : Nat) (s0 : Rd) (hm : Bk W g 50 (mcells m sv)) (ho : W.ownsRow B 3 1 sv m.stamp.length (ints m.stamp)) (hr : RdS W b s0) (hl : s0.1.length ≤ 1000) :
    Calls Tryz.prog 133 #[.pointer (some ⟨b, 0, none⟩), .pointer (some ⟨g, 0, none⟩)] W fun e w' => e = .returned (.tuple #[]) ∧ RdAft W g sv b B { m with fresh := decide ((rdNum s0).1 = 1) } (rdNum s0).2 w' := by
  have pn := rd_num b s0 W hr (by unfold maxLen; omega)
  have HM := Lib.hid hm; have HO := Lib.hid ho; have H0 := Lib.hid hr
  have hgb : g ≠ b := by obtain ⟨cs, hb⟩ := hr.rdr; exact hm.ne_ hb (by decide)
  have HN := Lib.hid hgb
  clear hm ho hr hgb
  have HX := Lib.hid (show ∀ W1 : World, Kp (One b) W W1 → RdS W1 b (rdNum s0).2 → RdAft W g sv b B { m with fresh := decide ((rdNum s0).1 = 1) } (rdNum s0).2 (W1.setCell ⟨g, 11, none⟩ (.bool (((rdNum s0).1 : Int) == 1))) from fun W1 k1 r1 => by
    have e : (((rdNum s0).1 : Int) == 1) = decide ((rdNum s0).1 = 1) := by
      rw [Bool.eq_iff_iff, beq_iff_eq, decide_eq_true_iff]; omega
    rw [e]
    exact rdAft_mk HM.out HO.out H0.out k1 r1 rfl rfl)
  go_enter Tryz.func133, Tryz.ntmps133
  go_wp2_with fail
  refine pn.mono ?_
  rintro e w' ⟨rfl, h2, K2⟩
  have B2 := HM.out.kp K2 HN.out
  have z3 : w'.cell? ⟨g, 11, none⟩ = some (.bool m.fresh) := B2.cell 11
  have zf := B2.frozen 11
  have H2 := Lib.hid h2; have HK2 := Lib.hid K2
  clear h2 pn B2 K2
  by_cases h1 : (rdNum s0).1 = 1
  all_goals
    first
      | (have d1 : (((rdNum s0).1 : Int) == 1) = true := by rw [beq_iff_eq]; omega)
      | (have d1 : (((rdNum s0).1 : Int) == 1) = false := by rw [beq_eq_false_iff_ne]; omega)
    have HY := Lib.hid (HX.out _ HK2.out H2.out)
    rw [d1] at HY
    clear h1
    go_wp2
    go_end0
    exact ⟨rfl, HY.out⟩
set_option maxRecDepth 100000 in
set_option maxHeartbeats 1000000 in
theorem fresh_any (W : World) : Calls Tryz.prog 98 #[] W (MkF W fFresh) := by
  go_enter Tryz.func98, Tryz.ntmps98
  go_wp2
  refine bodyPost_ret (v := .agg #[.func (.func 132) #[] #[], .func (.func 133) #[] #[], .func (.func 134) #[] #[]]) (by simp [results, Tryz.results98, go_sem]) rfl ?_
  refine ⟨⟨_, _, _, _, _, _⟩, rfl, ?_, (Kp.refl No W).alloc _⟩
  exact ⟨entF1, entF2, entF3,
    fun W2 hs g m sv b B u l hm _ hsh hw hB hl => fresh1_any W2 g m sv b B u l hm hw hB hl,
    fun W2 hs g m sv b s0 B hm ho hr hB hl _ => fresh2_any W2 g m sv b B s0 hm ho hr hl,
    fun W2 hs g m sv hm hl => (always_any _ W2).mono fun e w' ⟨h, h2⟩ => ⟨h, by subst h2; exact Kp.refl _ _⟩⟩
theorem entA1 : Ent 99 := enters_of Tryz.func99 (by kernel_rfl) rfl
theorem entA2 : Ent 100 := enters_of Tryz.func100 (by kernel_rfl) rfl
theorem entA3 : Ent 101 := enters_of Tryz.func101 (by kernel_rfl) rfl
theorem asked1_any (x y : Value) (w : World) : Calls Tryz.prog 99 #[x, y] w fun e w' => e = .returned (.tuple #[]) ∧ w = w' := by
  go_enter Tryz.func99, Tryz.ntmps99
  go_wp2
  go_end0
  exact ⟨rfl, rfl⟩
theorem asked2_any (x y : Value) (w : World) : Calls Tryz.prog 100 #[x, y] w fun e w' => e = .returned (.tuple #[]) ∧ w = w' := by
  go_enter Tryz.func100, Tryz.ntmps100
  go_wp2
  go_end0
  exact ⟨rfl, rfl⟩
/-- the field of a verb that is none -/
theorem none_ok (w : World) : FOk w ⟨99, #[], 100, #[], 101, #[]⟩ fNone :=
  ⟨entA1, entA2, entA3,
    fun W2 hs g m sv b B u l hm _ hsh hw hB hl => (asked1_any _ _ W2).mono fun e w' ⟨h, h2⟩ => ⟨h, by subst h2; simpa [fNone] using WrAft.start hw⟩,
    fun W2 hs g m sv b s0 B hm ho hr hB hl _ => (asked2_any _ _ W2).mono fun e w' ⟨h, h2⟩ => ⟨h, by subst h2; exact ⟨sv, hm, ho, hr, Kp.refl _ _, fun k e => .inl e⟩⟩,
    fun W2 hs g m sv hm hl => (never_any _ W2).mono fun e w' ⟨h, h2⟩ => ⟨h, by subst h2; exact Kp.refl _ _⟩⟩
end Go.Proofs.YtkiaclldjofdoaaGreat

/- The field that is a list of numbers, by contract (wire). No condition beyond what each theorem states. -/
namespace Go.Proofs.YtkiaclldjofdoaaGreat
open Go Go.RowKit Go.PlainAid

/-- numbers' forms, one behind the other -/
def outI (L : List Int) : List UInt8 := ((L.map Int.toNat).map numS).flatten
theorem cS_out (L : List Int) : cS L = numS L.length ++ outI L := by simp [cS, cntsS, numsS, outI]
theorem outI_snoc {L : List Int} {k : Nat} (h : k < L.length) : outI (L.take (k + 1)) = outI (L.take k) ++ numS (L[k]).toNat := by
  rw [List.take_succ_eq_append_getElem h]
  simp only [outI, List.map_append, List.flatten_append, List.map_cons, List.map_nil, List.flatten_cons, List.flatten_nil, List.append_nil]
theorem outI_ge : ∀ (L : List Int), L.length ≤ (outI L).length
  | [] => by simp [outI]
  | x :: L => by
    have h1 := outI_ge L
    have h2 := numS_pos x.toNat
    simp only [outI, List.map_cons, List.flatten_cons, List.length_append, List.length_cons] at h1 ⊢
    omega
theorem outI_len : ∀ (L : List Int), (∀ x ∈ L, x < 9223372036854775808) → (outI L).length ≤ 9 * L.length
  | [], _ => by simp [outI]
  | x :: L, h => by
    have h1 := outI_len L fun y hy => h y (List.mem_cons_of_mem _ hy)
    have h2 := numS_len 8 x.toNat (by have := h x (List.mem_cons_self ..); omega)
    simp only [outI, List.map_cons, List.flatten_cons, List.length_append, List.length_cons] at h1 ⊢
    simp only [List.map_map] at h1 ⊢
    omega
theorem Tryz.infoI : (Tryz.prog.info? 3).map (fun i => (i.zero, i.size, i.bytes)) = some (some (.int .i64 0), 1, 8) := by kernel_rfl
theorem entS1 : Ent 106 := enters_of Tryz.func106 (by kernel_rfl) rfl
theorem entS2 : Ent 107 := enters_of Tryz.func107 (by kernel_rfl) rfl
theorem entS3 : Ent 108 := enters_of Tryz.func108 (by kernel_rfl) rfl
theorem WrAft.msg {W w' : World} {b B g : Nat} {u sv : Value} {l l' : List UInt8} {m : Msg} (h : WrAft W b B u l' w') (hw : WrB W b B u l) (hm : MsgB W g m sv) : MsgB w' g m sv := by
  obtain ⟨v', _, hk, _⟩ := h
  exact hm.tys hk (wrm_tys hw) (by decide) (by decide)
set_option maxRecDepth 100000 in
set_option maxHeartbeats 1000000 in
theorem stamp1_any (W : World) (g : Nat) (m : Msg) (sv : Value) (b B : Nat) (u : Value) (l : List UInt8) (hm : MsgB W g m sv) (hr : Rng m) (hs : (cS m.stamp).length ≤ 10000) (hw : WrB W b B u l) (hB : B ≤ W.heap.size) (hl : l.length ≤ 100000) :
    Calls Tryz.prog 106 #[.pointer (some ⟨b, 0, none⟩), .pointer (some ⟨g, 0, none⟩)] W fun e w' => e = .returned (.tuple #[]) ∧ WrAft W b B u (l ++ cS m.stamp) w' := by
  obtain ⟨A, c, rfl, hc⟩ : ∃ A c, sv = .slice A m.stamp.length c ∧ m.stamp.length ≤ c := by obtain ⟨A, c, e, hc, _⟩ := hm.2; exact ⟨A, c, e, hc⟩
  have hsl : m.stamp.length ≤ 10000 := by have := outI_ge m.stamp; rw [cS_out, List.length_append] at hs; omega
  have pn := wnum_any b B u l (m.stamp.length : Int) W hw hB (by omega) (by omega)
  rw [Int.toNat_natCast] at pn
  have z13 : W.cell? ⟨g, 13, none⟩ = some (.slice A m.stamp.length c) := hm.1.cell 13
  have HM := Lib.hid hm; have HR := Lib.hid hr.2; have HW := Lib.hid hw; have HL := Lib.hid hl
  have hnl : (numS m.stamp.length).length ≤ 9 := numS_len 8 _ (by omega)
  have HNL := Lib.hid hnl
  clear hm hr hw hs hl hnl
  go_enter Tryz.func106, Tryz.ntmps106
  go_wp2_with fail
  refine pn.mono ?_
  rintro e w1 ⟨rfl, h1⟩
  have M1 := h1.msg HW.out HM.out
  have y13 : w1.cell? ⟨g, 13, none⟩ = some (.slice A m.stamp.length c) := M1.1.cell 13
  have H1 := Lib.hid h1
  clear h1 pn z13 M1
  go_wp2
  go_loopw [18] (fun i wr => ∃ k : Nat, k ≤ m.stamp.length ∧ i = .int .i64 k ∧ WrAft W b B u (l ++ numS m.stamp.length ++ outI (m.stamp.take k)) wr) (fun i _ => m.stamp.length - (intOf i).toNat)
  case atStart => exact ⟨0, Nat.zero_le _, rfl, by simpa [outI] using H1.out⟩
  case round =>
    obtain ⟨k, hk, rfl, hF⟩ := hrel
    by_cases hlt : k < m.stamp.length
    · have hk0 : (0 : Int) ≤ (k : Int) := by omega
      have hk1 : (k : Int) < (m.stamp.length : Int) := by omega
      have Mr := hF.msg HW.out HM.out
      obtain ⟨g', o, c', e1, hxx⟩ := Mr.2.arg.at_ hlt
      have hx := hxx k _ (List.getElem?_eq_getElem hlt)
      clear hxx Mr
      injection e1 with e1 _ e1c
      subst e1 e1c
      have HT := Lib.hid (outI_snoc hlt)
      have HX := Lib.hid (HR.out _ (List.getElem_mem hlt))
      have hol := outI_len (m.stamp.take k) fun x hx => HR.out x (List.mem_of_mem_take hx)
      rw [List.length_take] at hol
      generalize m.stamp[k] = x at *
      obtain ⟨va, hwa, hka, hna⟩ := hF
      have pa := wnum_any b B va (l ++ numS m.stamp.length ++ outI (m.stamp.take k)) x wr hwa (Nat.le_trans hB hka.size) (by
        have := HL.out; have := HNL.out
        rw [List.length_append, List.length_append]; omega) HX.out
      have HK := Lib.hid hka; have HN := Lib.hid hna
      clear hka hna hwa hol
      go_wp2_with fail
      refine pa.mono ?_
      rintro e w' ⟨rfl, h2⟩
      have H2 := Lib.hid h2; clear h2 pa
      go_wp2
      go_roundw
      case rel => exact ⟨k + 1, by omega, by go_num, by rw [HT.out, ← List.append_assoc]; exact WrAft.then_ HK.out HN.out H2.out⟩
      case measure => simp [intOf]; omega
    · have hk' : k = m.stamp.length := by omega
      have hk1 : ¬ (k : Int) < (m.stamp.length : Int) := by omega
      have HF := Lib.hid (show WrAft W b B u (l ++ cS m.stamp) wr by rw [cS_out, ← List.append_assoc]; rw [hk', List.take_length] at hF; exact hF)
      clear hF hk'
      go_wp2
      go_end0
      exact ⟨rfl, HF.out⟩
theorem rdNums_snoc : ∀ (k : Nat) (s : Rd), (rdNums (k + 1) s).1 = (rdNums k s).1 ++ [(rdNum (rdNums k s).2).1] ∧ (rdNums (k + 1) s).2 = (rdNum (rdNums k s).2).2
  | 0, s => by simp [rdNums]
  | k + 1, s => by
    obtain ⟨h1, h2⟩ := rdNums_snoc k (rdNum s).2
    constructor
    · rw [show rdNums (k + 1 + 1) s = ((rdNum s).1 :: (rdNums (k + 1) (rdNum s).2).1, (rdNums (k + 1) (rdNum s).2).2) from rfl, show rdNums (k + 1) s = ((rdNum s).1 :: (rdNums k (rdNum s).2).1, (rdNums k (rdNum s).2).2) from rfl]
      simp [h1]
    · rw [show rdNums (k + 1 + 1) s = ((rdNum s).1 :: (rdNums (k + 1) (rdNum s).2).1, (rdNums (k + 1) (rdNum s).2).2) from rfl, show rdNums (k + 1) s = ((rdNum s).1 :: (rdNums k (rdNum s).2).1, (rdNums k (rdNum s).2).2) from rfl]
      simp [h2]
theorem rdNums_len : ∀ (k : Nat) (s : Rd), (rdNums k s).1.length = k ∧ (rdNums k s).2.1.length ≤ s.1.length
  | 0, s => ⟨rfl, Nat.le_refl _⟩
  | k + 1, s => by
    obtain ⟨h1, h2⟩ := rdNums_len k (rdNum s).2
    have := rdNum_le s
    refine ⟨?_, ?_⟩
    · show ((rdNum s).1 :: (rdNums k (rdNum s).2).1).length = k + 1
      simp [h1]
    · show (rdNums k (rdNum s).2).2.1.length ≤ _
      omega
theorem RdAft.then_ {W wr w' : World} {g b B : Nat} {sv sv1 : Value} {m2 : Msg} {s2 : Rd} (hk : Kp (RdM g sv b) W wr) (hn : ∀ k, sv1.ownBlock = some k → sv.ownBlock = some k ∨ W.heap.size ≤ k) (h : RdAft wr g sv1 b B m2 s2 w') : RdAft W g sv b B m2 s2 w' := by
  obtain ⟨sv2, h1, h2, h3, h4, h5⟩ := h
  refine ⟨sv2, h1, h2, h3, hk.then_ h4 ?_, ?_⟩
  · rintro i hi (e | e | e)
    · exact .inl e
    · exact .inr (.inl e)
    · rcases hn i e with e | e
      · exact .inr (.inr e)
      · omega
  · intro k e
    rcases h5 k e with e | e
    · exact hn k e
    · right; have := hk.size; omega
/-- a number more in the list -/
theorem rdAft_app {wr w1 w2 : World} {g b B g2 cap n : Nat} {sv1 : Value} {m1 : Msg} {s1 s2 : Rd} {x : Int} (hb : Bk wr g 50 (mcells m1 sv1)) (ho : wr.ownsRow B 3 1 sv1 m1.stamp.length (ints m1.stamp)) (hr : RdS wr b s1)
    (k1 : Kp (One b) wr w1) (hr2 : RdS w1 b s2) (hn : n = m1.stamp.length) (hown : w2.ownsRow B 3 1 (.slice (some ⟨g2, 0, none⟩) (n + 1) cap) (n + 1) (ints m1.stamp ++ [.int .i64 x])) (hk : Kp (fun k => sv1.ownBlock = some k) w1 w2) (hat : sv1.ownBlock = some g2 ∨ g2 = w1.heap.size) :
    RdAft wr g sv1 b B { m1 with stamp := m1.stamp ++ [x] } s2 (w2.setCell ⟨g, 13, none⟩ (.slice (some ⟨g2, 0, none⟩) (n + 1) cap)) := by
  subst hn
  obtain ⟨cs, hbb⟩ := hr.rdr
  have hgb : g ≠ b := hb.ne_ hbb (by decide)
  have hsb : ∀ k, sv1.ownBlock = some k → k ≠ b ∧ k ≠ g := fun k e => by
    obtain ⟨cs', h1⟩ := own_bk ho k e
    exact ⟨h1.ne_ hbb (by decide), h1.ne_ hb (by decide)⟩
  have b2 : Bk w2 g 50 (mcells m1 sv1) := (hb.kp k1 hgb).kp hk fun e => (hsb g e).2 rfl
  have k3 : Kp (One g) w2 (w2.setCell ⟨g, 13, none⟩ (.slice (some ⟨g2, 0, none⟩) (m1.stamp.length + 1) cap)) := (Kp.refl (One g) w2).set (.inl rfl) 13 _
  have hg2 : g2 ≠ g := by
    rintro rfl
    exact own_ne hown b2 (by decide) rfl
  refine ⟨.slice (some ⟨g2, 0, none⟩) (m1.stamp.length + 1) cap, b2.set_ 13 _, ?_, ?_, ?_, ?_⟩
  · have e : ints (m1.stamp ++ [x]) = ints m1.stamp ++ [.int .i64 x] := by simp [ints]
    have e2 : (m1.stamp ++ [x]).length = m1.stamp.length + 1 := by simp
    show World.ownsRow _ B 3 1 _ (m1.stamp ++ [x]).length (ints (m1.stamp ++ [x]))
    rw [e, e2]
    exact own_kp hown k3 fun k e h => by
      have e : g2 = k := by simpa [Value.ownBlock] using e
      exact hg2 (e.trans h)
  · have r2 : RdS w2 b s2 := hr2.kp hk (fun e => (hsb b e).1 rfl) fun k ⟨cs', ht⟩ e => by
      have hlt : k < wr.heap.size := by
        obtain ⟨cs2, h1⟩ := own_bk ho k e
        exact h1.lt
      obtain ⟨cs2, h1⟩ := own_bk ho k e
      exact (h1.kp k1 (hsb k e).1).ne_ ht (by decide) rfl
    exact r2.kp k3 (fun e => hgb (Eq.symm e)) fun k ⟨cs', ht⟩ e => ht.ne_ b2 (by decide) e
  · exact ((k1.mono fun k _ e => .inl e).then_ hk fun k _ e => .inr (.inr e)).then_ k3 fun k _ e => .inr (.inl e)
  · intro k e
    have e : g2 = k := by simpa [Value.ownBlock] using e
    subst e
    rcases hat with h | h
    · exact .inl h
    · right; have := k1.size; omega
set_option maxRecDepth 100000 in
set_option maxHeartbeats 2000000 in
theorem stamp2_any (W : World) (g : Nat) (m : Msg) (sv : Value) (b B : Nat) (s0 : Rd) (hm : Bk W g 50 (mcells m sv)) (ho : W.ownsRow B 3 1 sv m.stamp.length (ints m.stamp)) (hr : RdS W b s0) (hB : B ≤ W.heap.size) (hl : s0.1.length ≤ 1000) (hs : m.stamp.length ≤ 1000) :
    Calls Tryz.prog 107 #[.pointer (some ⟨b, 0, none⟩), .pointer (some ⟨g, 0, none⟩)] W fun e w' => e = .returned (.tuple #[]) ∧ RdAft W g sv b B { m with stamp := m.stamp ++ (rdCnts s0).1.map Int.ofNat } (rdCnts s0).2 w' := by
  have pn := rd_num b s0 W hr (by unfold maxLen; omega)
  have HM := Lib.hid hm; have HO := Lib.hid ho; have H0 := Lib.hid hr
  have hgb : g ≠ b := by obtain ⟨cs, hb⟩ := hr.rdr; exact hm.ne_ hb (by decide)
  have hsb : ∀ k, sv.ownBlock = some k → k ≠ b := fun k e => by
    obtain ⟨cs', h1⟩ := own_bk ho k e
    obtain ⟨cs, hb⟩ := hr.rdr
    exact h1.ne_ hb (by decide)
  have HN := Lib.hid hgb; have HSB := Lib.hid hsb
  have HC := Lib.hid (show rdCnts s0 = rdNums (min (rdNum s0).1 5) (rdNum s0).2 from rfl)
  have hle := rdNum_le s0
  have hn63 := rdNum_lt s0
  clear hm ho hr hgb hsb
  generalize (rdNum s0).1 = n at *
  generalize (rdNum s0).2 = s1 at *
  go_enter Tryz.func107, Tryz.ntmps107
  go_wp2_with fail
  refine pn.mono ?_
  rintro e w1 ⟨rfl, h1, K1⟩
  have HS := Lib.hid (show RdAft W g sv b B m s1 w1 from ⟨sv, HM.out.kp K1 HN.out, own_kp HO.out K1 fun k e => HSB.out k e, h1, K1.mono fun k _ e => .inl e, fun k e => .inl e⟩)
  clear h1 K1 pn
  obtain ⟨J, hJ, hJ5⟩ : ∃ J : Nat, min n 5 = J ∧ J ≤ 5 := ⟨_, rfl, by omega⟩
  have hJi : min (n : Int) 5 = (J : Int) := by omega
  have HJ := Lib.hid hJ; clear hJ
  go_wp2
  go_loopw [7] (fun i wr => ∃ k : Nat, k ≤ J ∧ i = .int .i64 k ∧ RdAft W g sv b B { m with stamp := m.stamp ++ (rdNums k s1).1.map Int.ofNat } (rdNums k s1).2 wr) (fun i _ => J - (intOf i).toNat)
  case atStart => exact ⟨0, Nat.zero_le _, rfl, by simpa [rdNums] using HS.out⟩
  case round =>
    obtain ⟨k, hk, rfl, hF⟩ := hrel
    by_cases hlt : k < J
    · have hk0 : (0 : Int) ≤ (k : Int) := by omega
      have hk1 : (k : Int) < (J : Int) := by omega
      obtain ⟨hN1, hN2⟩ := rdNums_snoc k s1
      obtain ⟨hL1, hL2⟩ := rdNums_len k s1
      have hE : ({ m with stamp := m.stamp ++ (rdNums (k + 1) s1).1.map Int.ofNat } : Msg) = { ({ m with stamp := m.stamp ++ (rdNums k s1).1.map Int.ofNat } : Msg) with stamp := ({ m with stamp := m.stamp ++ (rdNums k s1).1.map Int.ofNat } : Msg).stamp ++ [((rdNum (rdNums k s1).2).1 : Int)] } := by
        simp [hN1]
      have hsl : ({ m with stamp := m.stamp ++ (rdNums k s1).1.map Int.ofNat } : Msg).stamp.length ≤ 1010 := by simp [hL1]; omega
      have hsl2 : (rdNums k s1).2.1.length ≤ 1000 := by omega
      have HE := Lib.hid hE; have HN2 := Lib.hid hN2
      clear hN1 hN2 hL1 hL2 hE
      generalize ({ m with stamp := m.stamp ++ (rdNums k s1).1.map Int.ofNat } : Msg) = m1 at *
      generalize (rdNums k s1).2 = sk at *
      obtain ⟨sv1, b1, o1, r1, k1, n1⟩ := hF
      obtain ⟨A, c, rfl⟩ : ∃ A c, sv1 = .slice A m1.stamp.length c := by obtain ⟨A, c, h, _⟩ := own_len o1; exact ⟨A, c, h⟩
      have qn : ∀ W2, Kp No wr W2 → Calls Tryz.prog 82 #[.pointer (some ⟨b, 0, none⟩)] W2 fun e w' => e = .returned (.int .i64 ((rdNum sk).1 : Int)) ∧ RdS w' b (rdNum sk).2 ∧ Kp (One b) wr w' := fun W2 kk => by
        refine (rd_num b sk W2 (r1.no kk) (by unfold maxLen; omega)).mono ?_
        rintro e w' ⟨h, h2, h3⟩
        exact ⟨h, h2, (kk.mono fun k _ e => e.elim).trans h3⟩
      have x63 := rdNum_lt sk
      generalize (rdNum sk).1 = x at *
      have hsz : B ≤ wr.heap.size := Nat.le_trans hB k1.size
      have hob : ∀ k, (Value.slice A m1.stamp.length c).ownBlock = some k → k ≠ b := fun k e => by
        obtain ⟨cs', h1⟩ := own_bk o1 k e
        obtain ⟨cs, hb⟩ := r1.rdr
        exact h1.ne_ hb (by decide)
      have hog : (Value.slice A m1.stamp.length c).ownBlock ≠ some g := own_ne o1 b1 (by decide)
      have z13 : wr.cell? ⟨g, 13, none⟩ = some (.slice A m1.stamp.length c) := b1.cell 13
      have HB1 := Lib.hid b1; have HO1 := Lib.hid o1; have HR1 := Lib.hid r1; have HK1 := Lib.hid k1; have HN1 := Lib.hid n1; have HOB := Lib.hid hob; have HOG := Lib.hid hog
      clear b1 o1 r1 k1 n1 hob hog
      have zk : ∀ W2, Kp (One b) wr W2 → W2.cell? ⟨g, 13, none⟩ = some (.slice A m1.stamp.length c) := fun W2 kk => (HB1.out.kp kk HN.out).cell 13
      have zz : ∀ W3 W4 o, Kp (fun k => (Value.slice A m1.stamp.length c).ownBlock = some k) (W3.alloc o) W4 → Kp (One b) wr W3 → W4.cell? ⟨g, 13, none⟩ = some (.slice A m1.stamp.length c) := fun W3 W4 o h4 h3 => (Bk.kp (Bk.alloc (HB1.out.kp h3 HN.out) _) h4 (fun e => HOG.out e)).cell 13
      go_upto_region 2 with (fail)
      go_region_law ((first | (refine step_app1 _ rfl _ _ 48 rfl B 3 _ 1 8 Tryz.underlying48 Tryz.infoI rfl (by omega) _ m1.stamp.length (ints m1.stamp) rfl (own_kp HO1.out (Kp.alloc (by assumption) _) HOB.out) _ _ _ rfl (Bk.new' (by simp) rfl) rfl (by simp [Value.oneCell']) (by omega) (by omega) (by simp; omega) ?_; intro g2 cap2 w4 hown4 hk4' hat4'; have hk4 : Kp (fun k => (Value.slice A m1.stamp.length c).ownBlock = some k) _ w4 := hk4'; have hat4 : (Value.slice A m1.stamp.length c).ownBlock = some g2 ∨ g2 = _ := hat4'; clear hk4' hat4'; have B4 := Bk.kp (Bk.alloc (HB1.out.kp k3 HN.out) _) hk4 (fun e => HOG.out e); have z4 : w4.cell? ⟨g, 13, none⟩ = some (.slice A m1.stamp.length c) := B4.cell 13; have zf4 := B4.frozen 13; clear B4) | (go_simp; go_at_call 82; (with_reducible refine (qn _ (by with_reducible repeat (first | assumption | exact Kp.refl _ _ | refine Kp.drew ?_ | refine Kp.drewN ?_ _ | refine Kp.alloc ?_ _))).mono ?_); rintro e w3 ⟨rfl, h3, k3⟩; have q3 := k3.size; have y13 := zk _ k3; have y14 : ∀ o, (w3.alloc o).cell? ⟨g, 13, none⟩ = some (.slice A m1.stamp.length c) := fun o => (Bk.alloc (HB1.out.kp k3 HN.out) o).cell 13)))
      all_goals
        have HA := Lib.hid (rdAft_app HB1.out HO1.out HR1.out (k3.alloc _) (h3.kp ((Kp.refl No w3).alloc _) (fun m => m) (fun _ _ m => m)) rfl hown4 hk4 hat4)
        clear hown4 hk4 hat4 y13 y14 z4 zf4 zk zz qn z13 h3 k3
        go_wp2
        go_roundw
        case rel => exact ⟨k + 1, by omega, by go_num, by rw [HE.out, HN2.out]; exact RdAft.then_ HK1.out HN1.out HA.out⟩
        case measure => simp [intOf]; omega
    · have hk' : k = J := by omega
      have hk1 : ¬ (k : Int) < (J : Int) := by omega
      have HF := Lib.hid (show RdAft W g sv b B { m with stamp := m.stamp ++ (rdCnts s0).1.map Int.ofNat } (rdCnts s0).2 wr by rw [HC.out, HJ.out, ← hk']; exact hF)
      clear hF hk'
      go_wp2
      go_end0
      exact ⟨rfl, HF.out⟩
theorem stampF_any (W : World) : Calls Tryz.prog 69 #[] W (MkF W fStamp) := by
  go_enter Tryz.func69, Tryz.ntmps69
  go_wp2
  refine bodyPost_ret (v := .agg #[.func (.func 106) #[] #[], .func (.func 107) #[] #[], .func (.func 108) #[] #[]]) (by simp [results, Tryz.results69, go_sem]) rfl ?_
  refine ⟨⟨_, _, _, _, _, _⟩, rfl, ?_, (Kp.refl No W).alloc _⟩
  exact ⟨entS1, entS2, entS3,
    fun W2 hs g m sv b B u l hm hr hsh hw hB hl => stamp1_any W2 g m sv b B u l hm hr hsh hw hB hl,
    fun W2 hs g m sv b s0 B hm ho hr hB hl hsh => stamp2_any W2 g m sv b B s0 hm ho hr hB hl hsh.2,
    fun W2 hs g m sv hm hl => stampOk_any g m sv W2 hm hl⟩
end Go.Proofs.YtkiaclldjofdoaaGreat
