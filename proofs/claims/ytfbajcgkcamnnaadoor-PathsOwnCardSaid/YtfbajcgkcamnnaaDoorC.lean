/- Split and Join, by contracts. -/
import Derived.Test.YtfbajcgkcamnnaaDoorB
namespace Go.Proofs.YtfbajcgkcamnnaaDoor
open Go Go.RowKit Go.PlainAid

/-- the library's variable holds some number -/
def Mx (w : World) : Prop := ∃ m, w.cell? ⟨0, 0, none⟩ = some (.int .i64 m)
theorem Mx.kp {w w' : World} {M : Nat → Prop} (h : Mx w) (hk : Kp M w w') (hM : ¬ M 0) : Mx w' := by
  obtain ⟨m, hm⟩ := h
  exact ⟨m, by rw [World.cell?_of_block (w := w) (hk.block 0 (World.block_lt_of_cell? w _ hm) hM)]; exact hm⟩
theorem Mx.no {w w' : World} (h : Mx w) (hk : Kp No w w') : Mx w' := h.kp hk (fun m => m)

/-- texts as lists of bytes -/
def tx (L : List ByteArray) : List Bytes := L.map (·.data.toList)
theorem tx_length (L : List ByteArray) : (tx L).length = L.length := by simp [tx]
/-- what a slice of texts holds -/
def ArgStrs (w : World) (v : Value) (L : List ByteArray) : Prop := ∃ A c, v = .slice A L.length c ∧ L.length ≤ c ∧ Cs w A (L.map Value.string)
theorem ArgStrs.kp {w w' : World} {v : Value} {L : List ByteArray} {M : Nat → Prop} (h : ArgStrs w v L) (hk : Kp M w w') (hM : ∀ g o n c, v = .slice (some ⟨g, o, none⟩) n c → ¬ M g) : ArgStrs w' v L := by
  obtain ⟨A, c, rfl, hc, h⟩ := h
  refine ⟨A, c, rfl, hc, fun hx => ?_⟩
  obtain ⟨g, o, rfl, hr⟩ := h hx
  exact ⟨g, o, rfl, range_kp hr hk (hM g o _ _ rfl)⟩
theorem ArgStrs.no {w w' : World} {v : Value} {L : List ByteArray} (h : ArgStrs w v L) (hk : Kp No w w') : ArgStrs w' v L := h.kp hk fun _ _ _ _ _ m => m
theorem ArgStrs.nil (w : World) (A : Option Addr) (c : Nat) : ArgStrs w (.slice A 0 c) [] := ⟨A, c, rfl, Nat.zero_le _, fun h => absurd rfl h⟩

/-- Split's answer: nothing, or a list of its own -/
def SplitAns (w w' : World) (l : Bytes) (e : Ending) : Prop :=
  match path l with
  | none => e = .returned (.tuple #[.slice none 0 0, .int .i64 10]) ∧ w' = w
  | some [] => e = .returned (.tuple #[.slice none 0 0, .int .i64 0]) ∧ w' = w
  | some (x :: t) => ∃ L g, e = .returned (.tuple #[.slice (some ⟨g, 0, none⟩) L.length L.length, .int .i64 0]) ∧ tx L = x :: t ∧ Bk w' g 9 (L.map Value.string) ∧ w.heap.size ≤ g ∧ Kp No w w'

theorem split_any (s : ByteArray) (w : World) (hs : s.size ≤ maxLen) (hm : Mx w) :
    Calls Tryd.prog 13 #[.string s] w fun e w' => SplitAns w w' s.data.toList e := by
  go_enter Tryd.func13, Tryd.ntmps13
  go_wp2_with fail
  refine (valid_any _ _ hs).mono ?_
  rintro e w' ⟨rfl, rfl⟩
  cases hp : path s.data.toList with
  | none =>
    have HP := Lib.hid hp; clear hp
    rw [Option.isSome_none]
    go_wp2
    go_ret2
    unfold SplitAns; rw [HP.out]; exact ⟨rfl, rfl⟩
  | some L =>
    have HP := Lib.hid hp; clear hp
    rw [Option.isSome_some]
    by_cases h0 : s.data.toList = []
    · obtain rfl := str_nil h0
      go_wp2
      go_ret2
      unfold SplitAns; exact ⟨rfl, rfl⟩
    · have n0 := str_ne h0
      have e0 := str_em h0
      have H0 := Lib.hid h0; clear h0
      have HM := Lib.hid hm; clear hm
      go_wp2_with fail
      obtain ⟨m, hm⟩ := HM.out
      have hsz := path_len (by rw [HP.out]; rfl : (path s.data.toList).isSome = true)
      refine (Tryd.strings_Split s ⟨#[47]⟩ m _ (by simp at hsz; omega) hm (by decide)).mono ?_
      rintro e w1 ⟨rfl, rfl⟩
      have hcnt : Lib.countB s ⟨#[47]⟩ = s.data.toList.count 47 := Lib.count_one 47 _
      have htx : tx (Lib.splitB ⟨#[47]⟩ 0 (Lib.countB s ⟨#[47]⟩) s) = segs s.data.toList := by
        unfold tx; rw [Lib.splitB_data, hcnt]; exact splitK_segs _
      have hlen : Lib.countB s ⟨#[47]⟩ + 1 = (Lib.splitB ⟨#[47]⟩ 0 (Lib.countB s ⟨#[47]⟩) s).length := by
        rw [← tx_length, htx, segs_length, hcnt]
      rw [hlen]
      generalize Lib.splitB ⟨#[47]⟩ 0 (Lib.countB s ⟨#[47]⟩) s = LL at *
      have HT := Lib.hid htx
      clear htx hlen hcnt
      go_wp2
      go_ret2
      have hpp := HP.out
      rw [path_ne H0.out] at hpp
      split at hpp
      · obtain rfl := Option.some.inj hpp
        unfold SplitAns; rw [HP.out]
        cases hx : segs s.data.toList with
        | nil => exact absurd hx (segs_ne _)
        | cons x t =>
          exact ⟨LL, _, rfl, by rw [HT.out, hx], Bk.new _ _ _, Nat.le_refl _, (Kp.refl _ _).alloc _⟩
      · cases hpp

/-- what Join answers -/
def joinL (L : List Bytes) : Option Bytes := if L.length ≤ 4 ∧ L.all segB = true then some (Lib.join L [47]) else none
def JoinAns (w w' : World) (L : List Bytes) (e : Ending) : Prop :=
  match joinL L with
  | none => e = .returned (.tuple #[.string ⟨#[]⟩, .int .i64 10]) ∧ w' = w
  | some x => e = .returned (.tuple #[.string ⟨x.toArray⟩, .int .i64 0]) ∧ Kp No w w'

theorem all_take {L : List Bytes} {k : Nat} (hk : k < L.length) : (L.take (k + 1)).all segB = ((L.take k).all segB && segB L[k]) := by
  rw [List.take_succ_eq_append_getElem hk, List.all_append]; simp
theorem join_len : ∀ (L : List Bytes), L.all segB = true → (Lib.join L [47]).length ≤ 7 * L.length
  | [], _ => by simp [Lib.join, List.intercalate]
  | [x], h => by
    simp only [List.all_cons, List.all_nil, Bool.and_true, segB, Bool.and_eq_true, decide_eq_true_eq] at h
    rw [Lib.join_one]; simp; omega
  | x :: y :: t, h => by
    have hx : segB x = true := by simp at h; exact h.1
    have hr : (y :: t).all segB = true := by simp at h ⊢; exact h.2
    have e : Lib.join (x :: y :: t) [47] = x ++ 47 :: Lib.join (y :: t) [47] := by simp [Lib.join, List.intercalate]
    have ih := join_len (y :: t) hr
    simp only [segB, Bool.and_eq_true, decide_eq_true_eq] at hx
    rw [e]; simp only [List.length_append, List.length_cons] at ih ⊢; omega

set_option maxRecDepth 100000 in
theorem join_any (v : Value) (L : List ByteArray) (w : World) (hv : ArgStrs w v L) (hs : ∀ x ∈ L, x.size ≤ maxLen) :
    Calls Tryd.prog 19 #[v] w fun e w' => JoinAns w w' (tx L) e := by
  obtain ⟨A, c, rfl, hc, hcs⟩ := hv
  have HC := Lib.hid hcs; clear hcs
  have HS := Lib.hid hs; clear hs
  go_enter Tryd.func19, Tryd.ntmps19
  by_cases h4 : L.length ≤ 4
  · have h4' : ¬ (4 : Int) < (L.length : Int) := by omega
    go_wp2
    go_loopw [11] (fun i wr => ∃ k : Nat, k ≤ L.length ∧ i = .int .i64 k ∧ wr = w ∧ ((tx L).take k).all segB = true) (fun i _ => L.length - (intOf i).toNat)
    case atStart => exact ⟨0, Nat.zero_le _, rfl, rfl, by simp⟩
    case round =>
      obtain ⟨k, hk, rfl, rfl, hF⟩ := hrel
      have HF := Lib.hid hF; clear hF
      by_cases hlt : k < L.length
      · have hk0 : (0 : Int) ≤ (k : Int) := by omega
        have hk1 : (k : Int) < (L.length : Int) := by omega
        obtain ⟨g, o, rfl, hr⟩ := HC.out (by intro e; simp at e; subst e; simp at hlt)
        have hcell : wr.cell? ⟨g, o + k, none⟩ = some (.string L[k]) := hr k _ (by rw [List.getElem?_map, List.getElem?_eq_getElem hlt]; rfl)
        have hsz := HS.out L[k] (List.getElem_mem hlt)
        have hat : (tx L)[k]'(by rw [tx_length]; exact hlt) = L[k].data.toList := by simp [tx]
        have HA := Lib.hid hat; clear hat hr
        generalize hx : L[k] = x at *
        clear hx
        go_wp2_with fail
        refine (Tryd.strings_Contains_one x 47 _).mono ?_
        rintro e w' ⟨rfl, rfl⟩
        have hbad : segB x.data.toList = false → (tx L).all segB = true → False := by
          intro h1 h2
          have := List.all_eq_true.1 h2 _ (List.getElem_mem (l := tx L) (n := k) (by rw [tx_length]; exact hlt))
          rw [HA.out, h1] at this; cases this
        have hnone : segB x.data.toList = false → joinL (tx L) = none := fun h1 => by
          unfold joinL; rw [if_neg]; rintro ⟨_, h2⟩; exact hbad h1 h2
        have HN := Lib.hid hnone; clear hnone hbad
        have hseg := segB_fine x.data.toList
        have hmem := indexByte_mem 47 x.data.toList
        have HG := Lib.hid hseg; clear hseg
        by_cases hin : (47 : UInt8) ∈ x.data.toList
        · have hd : decide (0 ≤ Lib.indexByte x.data.toList 47) = true := decide_eq_true (hmem.2 hin)
          rw [hd]
          have HI := Lib.hid hin
          clear hd hin hmem
          go_wp2
          go_ret2
          unfold JoinAns; rw [HN.out (by rw [HG.out]; simp [HI.out])]; exact ⟨rfl, rfl⟩
        · have hd : decide (0 ≤ Lib.indexByte x.data.toList 47) = false := decide_eq_false fun h => hin (hmem.1 h)
          rw [hd]
          have HI := Lib.hid hin
          clear hd hin hmem
          go_wp2_with fail
          refine (fine_any _ _ hsz).mono ?_
          rintro e w' ⟨rfl, rfl⟩
          cases hf : fineL x.data.toList 0 with
          | false =>
            have HX := Lib.hid hf; clear hf
            go_wp2
            go_ret2
            unfold JoinAns; rw [HN.out (by rw [HG.out, HX.out]; simp)]; exact ⟨rfl, rfl⟩
          | true =>
            have HX := Lib.hid hf; clear hf
            go_wp2
            go_roundw
            case rel => exact ⟨k + 1, by omega, by go_num, by trivial, by rw [all_take (by rw [tx_length]; exact hlt), HF.out, HA.out, HG.out, HX.out]; simp [HI.out]⟩
            case measure => simp [intOf]; omega
      · have hk' : k = L.length := by omega
        have hall : (tx L).all segB = true := by have := HF.out; rwa [List.take_of_length_le (by rw [tx_length]; omega)] at this
        have hj : joinL (tx L) = some (Lib.join (tx L) [47]) := by unfold joinL; rw [if_pos ⟨by rw [tx_length]; exact h4, hall⟩]
        have HJ := Lib.hid hj
        have HL := Lib.hid hall
        clear hj hall
        go_wp2_with fail
        by_cases h0 : L = []
        · subst h0
          refine (Tryd.strings_Join_none _ _ _ _).mono ?_
          rintro e w' ⟨rfl, rfl⟩
          go_wp2
          go_ret2
          unfold JoinAns; rw [HJ.out]; exact ⟨rfl, Kp.refl _ _⟩
        · obtain ⟨g, o, rfl, hr⟩ := HC.out (by intro e; simp at e; exact h0 e)
          have hlen := join_len _ HL.out
          rw [tx_length] at hlen
          refine (Tryd.strings_Join g o c L ⟨#[47]⟩ _ (fun j x hx => hr j _ (by rw [List.getElem?_map, hx]; rfl)) (range_lt hr (by rw [List.length_map]; exact List.length_pos_iff.2 h0)) (by omega) hc (by have : (Lib.join (L.map (·.data.toList)) [47]).length ≤ 7 * L.length := hlen; show (Lib.join (L.map (·.data.toList)) [47]).length ≤ _; omega)).mono ?_
          rintro e w' ⟨rfl, bel⟩
          have KB := Lib.hid (Kp.of_below bel); clear bel
          have he : Lib.join (L.map (·.data.toList)) (⟨#[47]⟩ : ByteArray).data.toList = Lib.join (tx L) [47] := rfl
          rw [he]
          generalize Lib.join (tx L) [47] = z at *
          clear he hlen
          go_wp2
          go_ret2
          unfold JoinAns; rw [HJ.out]; exact ⟨rfl, KB.out⟩
  · have h4' : (4 : Int) < (L.length : Int) := by omega
    go_wp2
    go_ret2
    unfold JoinAns joinL
    rw [if_neg (fun h => h4 (by rw [tx_length] at h; exact h.1))]; exact ⟨rfl, rfl⟩
end Go.Proofs.YtfbajcgkcamnnaaDoor
