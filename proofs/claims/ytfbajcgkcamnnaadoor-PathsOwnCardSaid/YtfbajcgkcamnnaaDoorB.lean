/- The program's pure functions on two paths, by contracts. -/
import Derived.Test.YtfbajcgkcamnnaaDoorA
namespace Go.Proofs.YtfbajcgkcamnnaaDoor
open Go Go.RowKit Go.PlainAid

def depthL (l : Bytes) : Int := match path l with | none => -1 | some L => L.length
def coversL (p q : Bytes) : Bool := (path p).isSome && (path q).isSome && (p.isEmpty || p == q || (p ++ [47]).isPrefixOf q)

theorem depth_any (s : ByteArray) (w : World) (hs : s.size ≤ maxLen) :
    Calls Tryd.prog 17 #[.string s] w fun e w' => e = .returned (.int .i64 (depthL s.data.toList)) ∧ w' = w := by
  go_enter Tryd.func17, Tryd.ntmps17
  go_wp2_with fail
  refine (valid_any _ _ hs).mono ?_
  rintro e w' ⟨rfl, rfl⟩
  cases hp : path s.data.toList with
  | none =>
    have HP := Lib.hid hp; clear hp
    rw [Option.isSome_none]
    go_wp2
    go_ret
    refine ⟨?_, rfl⟩
    exact ret_int rfl (by unfold depthL; rw [HP.out])
  | some L =>
    have HP := Lib.hid hp; clear hp
    rw [Option.isSome_some]
    by_cases h0 : s.data.toList = []
    · obtain rfl := str_nil h0
      go_wp2
      go_ret
      exact ⟨rfl, rfl⟩
    · have n0 := str_ne h0
      have e0 := str_em h0
      have hL : (L.length : Int) = (s.data.toList.count 47 : Int) + 1 ∧ (s.data.toList.count 47 : Int) < 4 := by
        have := HP.out
        rw [path_ne h0] at this
        split at this
        · rename_i h; obtain rfl := Option.some.inj this; rw [segs_length]; omega
        · cases this
      have HL := Lib.hid hL
      clear hL h0
      go_wp2_with fail
      refine (Tryd.strings_Count_one s 47 _).mono ?_
      rintro e w' ⟨rfl, rfl⟩
      have hc : Lib.countByte s.data.toList 47 = s.data.toList.count 47 := rfl
      rw [hc]
      obtain ⟨hL1, hL2⟩ := HL.out
      generalize s.data.toList.count 47 = n at *
      have HC := Lib.hid hL1; clear hL1 hc HL
      have h4 : (n : Int) + 1 ≤ 9223372036854775807 := by omega
      go_wp2
      go_ret
      refine ⟨?_, rfl⟩
      exact ret_int rfl (by unfold depthL; rw [HP.out]; simp only; rw [HC.out])

theorem covers_any (s t : ByteArray) (w : World) (hs : s.size ≤ maxLen) (ht : t.size ≤ maxLen) :
    Calls Tryd.prog 23 #[.string s, .string t] w fun e w' => e = .returned (.bool (coversL s.data.toList t.data.toList)) ∧ w' = w := by
  go_enter Tryd.func23, Tryd.ntmps23
  go_wp2_with fail
  refine (valid_any _ _ hs).mono ?_
  rintro e w' ⟨rfl, rfl⟩
  cases hp : (path s.data.toList).isSome with
  | false =>
    have HP := Lib.hid hp; clear hp
    go_wp2
    go_ret
    refine ⟨?_, rfl⟩
    exact ret_bool rfl (by unfold coversL; rw [HP.out]; simp)
  | true =>
    have HP := Lib.hid hp; clear hp
    go_wp2_with fail
    refine (valid_any _ _ ht).mono ?_
    rintro e w' ⟨rfl, rfl⟩
    cases hq : (path t.data.toList).isSome with
    | false =>
      have HQ := Lib.hid hq; clear hq
      go_wp2
      go_ret
      refine ⟨?_, rfl⟩
      exact ret_bool rfl (by unfold coversL; rw [HP.out, HQ.out]; simp)
    | true =>
      have HQ := Lib.hid hq; clear hq
      by_cases h0 : s.data.toList = []
      · obtain rfl := str_nil h0
        go_wp2
        go_ret
        refine ⟨?_, rfl⟩
        exact ret_bool rfl (by unfold coversL; rw [HP.out, HQ.out]; simp)
      · have n0 := str_ne h0
        have e0 := str_em h0
        have sz : s.size ≤ 27 := by have := path_len HP.out; simpa using this
        have sz1 : ¬ 9223372036854775807 < s.size + 1 := by omega
        by_cases h1 : s.data.toList = t.data.toList
        · obtain rfl := str_inj h1
          have H0 := Lib.hid h0; clear h1 h0
          go_wp2
          go_ret
          refine ⟨?_, rfl⟩
          exact ret_bool rfl (by unfold coversL; rw [HP.out]; simp)
        · have n1 : ¬ s.toList = t.toList := by rw [ByteArray.toList_eq, ByteArray.toList_eq]; exact h1
          have HB := Lib.hid (show (s.toList == t.toList) = false ∧ (s.data.toList == t.data.toList) = false ∧ s.data.toList.isEmpty = false from ⟨beq_eq_false_iff_ne.2 n1, beq_eq_false_iff_ne.2 h1, by rw [← ByteArray.toList_eq]; exact e0⟩)
          clear h1 h0
          go_wp2_with fail
          have hx : Lib.hasPrefix t.data.toList (s ++ (⟨#[47]⟩ : ByteArray)).data.toList = (s.data.toList ++ [47]).isPrefixOf t.data.toList := by
            unfold Lib.hasPrefix; simp
          generalize s ++ (⟨#[47]⟩ : ByteArray) = ss at *
          refine (Tryd.strings_HasPrefix t ss _).mono ?_
          rintro e w' ⟨rfl, rfl⟩
          rw [hx]
          cases hpre : (s.data.toList ++ [47]).isPrefixOf t.data.toList with
          | false =>
            have HX := Lib.hid hpre; clear hpre hx
            go_wp2
            go_ret
            refine ⟨?_, rfl⟩
            exact ret_bool rfl (by unfold coversL; rw [HP.out, HQ.out, HX.out, HB.out.2.1, HB.out.2.2]; simp only [e0, HB.out.1, Bool.or_false, Bool.false_or, Bool.and_self, Bool.and_true, Bool.and_false, Bool.or_true])
          | true =>
            have HX := Lib.hid hpre; clear hpre hx
            go_wp2
            go_ret
            refine ⟨?_, rfl⟩
            exact ret_bool rfl (by unfold coversL; rw [HP.out, HQ.out, HX.out, HB.out.2.1, HB.out.2.2]; simp only [e0, HB.out.1, Bool.or_false, Bool.false_or, Bool.and_self, Bool.and_true, Bool.and_false, Bool.or_true])

def overlapL (p q : Bytes) : Bool := coversL p q || coversL q p

theorem overlap_any (s t : ByteArray) (w : World) (hs : s.size ≤ maxLen) (ht : t.size ≤ maxLen) :
    Calls Tryd.prog 25 #[.string s, .string t] w fun e w' => e = .returned (.bool (overlapL s.data.toList t.data.toList)) ∧ w' = w := by
  go_enter Tryd.func25, Tryd.ntmps25
  go_wp2_with fail
  refine (covers_any _ _ _ hs ht).mono ?_
  rintro e w' ⟨rfl, rfl⟩
  cases hp : coversL s.data.toList t.data.toList with
  | true =>
    have HP := Lib.hid hp; clear hp
    go_wp2
    go_ret
    refine ⟨?_, rfl⟩
    exact ret_bool rfl (by unfold overlapL; rw [HP.out]; rfl)
  | false =>
    have HP := Lib.hid hp; clear hp
    go_wp2_with fail
    refine (covers_any _ _ _ ht hs).mono ?_
    rintro e w' ⟨rfl, rfl⟩
    generalize hx : coversL t.data.toList s.data.toList = x
    have HX := Lib.hid hx; clear hx
    go_wp2
    go_ret
    refine ⟨?_, rfl⟩
    exact ret_bool rfl (by unfold overlapL; rw [HP.out, HX.out]; rfl)

/-- what Meet answers -/
def meetB (s t : ByteArray) : ByteArray := if overlapL s.data.toList t.data.toList = true then (if t.size < s.size then s else t) else ⟨#[]⟩

theorem meet_any (s t : ByteArray) (w : World) (hs : s.size ≤ maxLen) (ht : t.size ≤ maxLen) :
    Calls Tryd.prog 21 #[.string s, .string t] w fun e w' => e = .returned (.tuple #[.string (meetB s t), .bool (overlapL s.data.toList t.data.toList)]) ∧ w' = w := by
  go_enter Tryd.func21, Tryd.ntmps21
  go_wp2_with fail
  refine (overlap_any _ _ _ hs ht).mono ?_
  rintro e w' ⟨rfl, rfl⟩
  cases hp : overlapL s.data.toList t.data.toList with
  | false =>
    have HP := Lib.hid hp; clear hp
    go_wp2
    go_ret2
    exact ⟨by unfold meetB; rw [HP.out]; rfl, rfl⟩
  | true =>
    have HP := Lib.hid hp; clear hp
    by_cases hl : t.size < s.size
    · have hl' : (t.size : Int) < (s.size : Int) := by omega
      go_wp2
      go_ret2
      exact ⟨by unfold meetB; rw [HP.out, if_pos rfl, if_pos hl]; rfl, rfl⟩
    · have hl' : ¬ (t.size : Int) < (s.size : Int) := by omega
      go_wp2
      go_ret2
      exact ⟨by unfold meetB; rw [HP.out, if_pos rfl, if_neg hl]; rfl, rfl⟩

theorem compare_any (s t : ByteArray) (w : World) :
    Calls Tryd.prog 27 #[.string s, .string t] w fun e w' => e = .returned (.int .i64 (Lib.compareBytes s.data.toList t.data.toList)) ∧ w' = w := by
  go_enter Tryd.func27, Tryd.ntmps27
  go_wp2_with fail
  refine (Tryd.strings_Compare s t _).mono ?_
  rintro e w' ⟨rfl, rfl⟩
  generalize hx : Lib.compareBytes s.data.toList t.data.toList = x
  have HX := Lib.hid hx; clear hx
  go_wp2
  go_ret
  exact ⟨ret_int rfl HX.out.symm, rfl⟩
end Go.Proofs.YtfbajcgkcamnnaaDoor
