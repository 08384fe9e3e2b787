/- Several texts of this claim in one. No condition beyond what each theorem states. -/
import Derived.Test.YtkiaclldjofdoaaGreatB02
import Derived.Test.YtkiaclldjofdoaaGreatB06
import Derived.Test.YtkiaclldjofdoaaGreatB04
/- The document's small tests, and lists of numbers, by contract. No condition beyond what each theorem states. -/
namespace Go.Proofs.YtkiaclldjofdoaaGreat
open Go Go.RowKit Go.PlainAid

theorem rnode_any (n : Int) (w : World) : Calls Tryz.prog 43 #[.int .i64 n] w fun e w' => e = .returned (.bool (decide (nodeI n))) ∧ w = w' := by
  go_enter Tryz.func43, Tryz.ntmps43
  by_cases h1 : 0 ≤ n <;> by_cases h2 : n < 8
  all_goals
    have HS := Lib.hid (show decide (nodeI n) = decide (0 ≤ n ∧ n < 8) from rfl)
    go_wp2
    go_ret
    exact ⟨ret_bool rfl (by rw [HS.out]; simp [h1, h2]), rfl⟩
theorem rcounter_any (n : Int) (w : World) : Calls Tryz.prog 49 #[.int .i64 n] w fun e w' => e = .returned (.bool (decide (cntI n))) ∧ w = w' := by
  go_enter Tryz.func49, Tryz.ntmps49
  by_cases h1 : 1 ≤ n <;> by_cases h2 : n ≤ 1099511627776
  all_goals
    have HS := Lib.hid (show decide (cntI n) = decide (1 ≤ n ∧ n ≤ 1099511627776) from rfl)
    go_wp2
    go_ret
    exact ⟨ret_bool rfl (by rw [HS.out]; simp [h1, h2]), rfl⟩
theorem rlegal_any (n : Int) (w : World) : Calls Tryz.prog 86 #[.int .i64 n] w fun e w' => e = .returned (.bool (decide (termI n))) ∧ w = w' := by
  go_enter Tryz.func86, Tryz.ntmps86
  by_cases h1 : 4 ≤ n <;> by_cases h2 : n ≤ 1048576
  all_goals
    have HS := Lib.hid (show decide (termI n) = decide (4 ≤ n ∧ n ≤ 1048576) from rfl)
    go_wp2
    go_ret
    exact ⟨ret_bool rfl (by rw [HS.out]; simp [h1, h2]), rfl⟩
theorem rmode_any (n : Int) (w : World) : Calls Tryz.prog 45 #[.int .i64 n] w fun e w' => e = .returned (.bool (decide (modeI n))) ∧ w = w' := by
  have HS := Lib.hid (show decide (modeI n) = decide (n = 1 ∨ n = 2) from rfl)
  go_enter Tryz.func45, Tryz.ntmps45
  by_cases h1 : n = 1
  · subst h1
    go_wp2
    go_ret
    exact ⟨ret_bool rfl (by rw [HS.out]; simp), rfl⟩
  · by_cases h2 : n = 2
    · subst h2
      go_wp2
      go_ret
      exact ⟨ret_bool rfl (by rw [HS.out]; simp), rfl⟩
    · have d1 : (n == 1) = false := by rw [beq_eq_false_iff_ne]; exact h1
      have d2 : (n == 2) = false := by rw [beq_eq_false_iff_ne]; exact h2
      go_wp2
      go_ret
      exact ⟨ret_bool rfl (by rw [HS.out]; simp [h1, h2]), rfl⟩
set_option maxHeartbeats 1000000 in
theorem rstamp_any (v : Value) (L : List Int) (w : World) (hv : ArgInts w v L) (hl : L.length ≤ maxLen) :
    Calls Tryz.prog 46 #[v] w fun e w' => e = .returned (.bool (decide (stampI L))) ∧ w = w' := by
  have HV := Lib.hid hv
  obtain ⟨A, c, rfl, _, _⟩ := hv
  unfold maxLen at hl
  go_enter Tryz.func46, Tryz.ntmps46
  by_cases h4 : L.length ≤ 4
  · have h4' : ¬ (4 : Int) < (L.length : Int) := by omega
    go_wp2
    go_loopw [3] (fun i wr => ∃ k : Nat, k ≤ L.length ∧ i = .int .i64 k ∧ wr = w ∧ ∀ x ∈ L.take k, cntI x) (fun i _ => L.length - (intOf i).toNat)
    case atStart => exact ⟨0, Nat.zero_le _, rfl, rfl, by simp⟩
    case round =>
      obtain ⟨k, hk, rfl, rfl, hF⟩ := hrel
      have HF := Lib.hid hF; clear hF
      by_cases hlt : k < L.length
      · have hk0 : (0 : Int) ≤ (k : Int) := by omega
        have hk1 : (k : Int) < (L.length : Int) := by omega
        obtain ⟨g, o, c', e1, hxx⟩ := HV.out.at_ hlt
        have hx := hxx k _ (List.getElem?_eq_getElem hlt)
        clear hxx
        injection e1 with e1 _ e1c
        subst e1 e1c
        have HT := Lib.hid (show L.take (k + 1) = L.take k ++ [L[k]] from List.take_succ_eq_append_getElem hlt)
        have HM := Lib.hid (List.getElem_mem hlt)
        generalize L[k] = x at *
        by_cases hok : cntI x
        · have hok' : 1 ≤ x ∧ x ≤ 1099511627776 := hok
          obtain ⟨a1, a2⟩ := hok'
          have HO := Lib.hid hok; clear hok
          go_wp2
          go_roundw
          case rel => exact ⟨k + 1, by omega, by go_num, by trivial, fun y hy => by
            rw [HT.out, List.mem_append] at hy
            rcases hy with hy | hy
            · exact HF.out y hy
            · simp at hy; subst hy; exact HO.out⟩
          case measure => simp [intOf]; omega
        · have HS := Lib.hid (show decide (stampI L) = false by rw [decide_eq_false_iff_not]; intro h; exact hok (h.2 x HM.out))
          have hd : x < 1 ∨ (1 ≤ x ∧ 1099511627776 < x) := by unfold cntI at hok; omega
          clear hok
          rcases hd with a1 | ⟨a1, a2⟩
          all_goals
            go_wp2
            go_ret
            exact ⟨ret_bool rfl HS.out.symm, rfl⟩
      · have hk' : k = L.length := by omega
        have HS := Lib.hid (show decide (stampI L) = true by
          rw [decide_eq_true_iff]
          have h := HF.out
          rw [hk', List.take_length] at h
          exact ⟨h4, h⟩)
        have hk1 : ¬ (k : Int) < (L.length : Int) := by omega
        clear hk'
        go_wp2
        go_ret
        exact ⟨ret_bool rfl HS.out.symm, rfl⟩
  · have h4' : (4 : Int) < (L.length : Int) := by omega
    have HS := Lib.hid (show decide (stampI L) = false by rw [decide_eq_false_iff_not]; intro h; exact h4 h.1)
    go_wp2
    go_ret
    exact ⟨ret_bool rfl HS.out.symm, rfl⟩
end Go.Proofs.YtkiaclldjofdoaaGreat

/- The reference's segment, Split and Valid of paths, by contracts. No condition beyond what each theorem states. -/
namespace Go.Proofs.YtkiaclldjofdoaaGreat
open Go Go.RowKit Go.PlainAid

/-- texts as lists of bytes -/
def tx (L : List ByteArray) : List Bytes := L.map (·.data.toList)
theorem tx_length (L : List ByteArray) : (tx L).length = L.length := by simp [tx]
/-- what a slice of texts holds -/
def ArgStrs (w : World) (v : Value) (L : List ByteArray) : Prop := ∃ A c, v = .slice A L.length c ∧ L.length ≤ c ∧ Cs w A (L.map Value.string)
theorem ArgStrs.kp {w w' : World} {v : Value} {L : List ByteArray} {M : Nat → Prop} (h : ArgStrs w v L) (hk : Kp M w w') (hM : ∀ g o n c, v = .slice (some ⟨g, o, none⟩) n c → ¬ M g) : ArgStrs w' v L := by
  obtain ⟨A, c, rfl, hc, h⟩ := h
  refine ⟨A, c, rfl, hc, fun hx => ?_⟩
  obtain ⟨g, o, rfl, hr⟩ := h hx
  exact ⟨g, o, rfl, range_kp hr hk (hM g o _ _ rfl)⟩
theorem ArgStrs.no {w w' : World} {v : Value} {L : List ByteArray} (h : ArgStrs w v L) (hk : Kp No w w') : ArgStrs w' v L := h.kp hk fun _ _ _ _ _ m => m
theorem ArgStrs.nil (w : World) (A : Option Addr) (c : Nat) : ArgStrs w (.slice A 0 c) [] := ⟨A, c, rfl, Nat.zero_le _, fun h => absurd rfl h⟩


theorem take_all_okC {l : Bytes} {k : Nat} (hk : k < l.length) : (l.take (k + 1)).all okC = ((l.take k).all okC && okC l[k]) := by
  rw [List.take_succ_eq_append_getElem hk, List.all_append]; simp

set_option maxRecDepth 100000 in
theorem segment_any (s : ByteArray) (w : World) :
    Calls Tryz.prog 120 #[.string s] w fun e w' => e = .returned (.bool (segB s.data.toList)) ∧ w' = w := by
  have hb := get_bt s
  go_enter Tryz.func120, Tryz.ntmps120
  by_cases h1 : s.size < 1
  · have HS := Lib.hid (show segB s.data.toList = false by unfold segB; have : s.data.toList.length = s.size := by simp
                                                           rw [decide_eq_false (by omega)]; simp)
    have h1' : (s.size : Int) < 1 := by omega
    go_wp2
    go_ret
    exact ⟨ret_bool rfl HS.out.symm, rfl⟩
  · by_cases h6 : 6 < s.size
    · have HS := Lib.hid (show segB s.data.toList = false by unfold segB; have : s.data.toList.length = s.size := by simp
                                                             rw [decide_eq_false (p := s.data.toList.length ≤ 6) (by omega)]; simp)
      have h1' : ¬ (s.size : Int) < 1 := by omega
      have h6' : 6 < (s.size : Int) := by omega
      go_wp2
      go_ret
      exact ⟨ret_bool rfl HS.out.symm, rfl⟩
    · have h1' : ¬ (s.size : Int) < 1 := by omega
      have h6' : ¬ 6 < (s.size : Int) := by omega
      have HS := Lib.hid (show segB s.data.toList = s.data.toList.all okC by
        unfold segB; have : s.data.toList.length = s.size := by simp
        rw [decide_eq_true (by omega), decide_eq_true (by omega)]; simp)
      go_wp2
      go_loopw [3] (fun i wr => ∃ k : Nat, k ≤ s.size ∧ i = .int .i64 k ∧ wr = w ∧ (s.data.toList.take k).all okC = true) (fun i _ => s.size - (intOf i).toNat)
      case atStart => exact ⟨0, Nat.zero_le _, rfl, rfl, by simp⟩
      case round =>
        obtain ⟨k, hk, rfl, rfl, hF⟩ := hrel
        have HF := Lib.hid hF; clear hF
        by_cases hlt : k < s.size
        · have hk0 : (0 : Int) ≤ (k : Int) := by omega
          have hk1 : (k : Int) < (s.size : Int) := by omega
          have hl : k < s.data.toList.length := by simpa using hlt
          have hc : bt s k = (((s.data.toList[k]'hl).toNat : Nat) : Int) := by
            rw [← hb k hlt]; simp [ByteArray.getElem_eq_getElem_data]
          have hT := take_all_okC hl
          have hM : okC (s.data.toList[k]'hl) = false → s.data.toList.all okC = false := fun h => by
            rw [Bool.eq_false_iff]; intro ha
            have := List.all_eq_true.1 ha _ (List.getElem_mem hl)
            rw [h] at this; cases this
          generalize s.data.toList[k]'hl = c at *
          have hok : okC c = true ↔ (97 ≤ c.toNat ∧ c.toNat ≤ 122) ∨ (48 ≤ c.toNat ∧ c.toNat ≤ 57) := by simp [okC]
          rcases (by omega : (97 ≤ c.toNat ∧ c.toNat ≤ 122) ∨ (48 ≤ c.toNat ∧ c.toNat ≤ 57) ∨ c.toNat < 48 ∨ (57 < c.toNat ∧ c.toNat < 97) ∨ 122 < c.toNat) with ⟨c1, c2⟩ | ⟨c1, c2⟩ | c1 | ⟨c1, c2⟩ | c1
          · have f1 : ¬ bt s k < 97 := by omega
            have f2 : ¬ 122 < bt s k := by omega
            have HT := Lib.hid (hT.trans (by rw [HF.out, hok.2 (by omega)]))
            clear hc hok c1 c2 hM hT
            go_wp2
            go_roundw
            case rel => exact ⟨k + 1, by omega, by go_num, by trivial, HT.out⟩
            case measure => simp [intOf]; omega
          · have f1 : bt s k < 97 := by omega
            have f2 : ¬ bt s k < 48 := by omega
            have f3 : ¬ 57 < bt s k := by omega
            have HT := Lib.hid (hT.trans (by rw [HF.out, hok.2 (by omega)]))
            clear hc hok c1 c2 hM hT
            go_wp2
            go_roundw
            case rel => exact ⟨k + 1, by omega, by go_num, by trivial, HT.out⟩
            case measure => simp [intOf]; omega
          · have f1 : bt s k < 97 := by omega
            have f2 : bt s k < 48 := by omega
            have HX := Lib.hid (hM (by rw [Bool.eq_false_iff]; intro h; have := hok.1 h; omega))
            clear hc hok c1 hM hT
            go_wp2
            go_ret
            exact ⟨ret_bool rfl (by rw [HS.out, HX.out]), rfl⟩
          · have f1 : bt s k < 97 := by omega
            have f2 : ¬ bt s k < 48 := by omega
            have f3 : 57 < bt s k := by omega
            have HX := Lib.hid (hM (by rw [Bool.eq_false_iff]; intro h; have := hok.1 h; omega))
            clear hc hok c1 c2 hM hT
            go_wp2
            go_ret
            exact ⟨ret_bool rfl (by rw [HS.out, HX.out]), rfl⟩
          · have f1 : ¬ bt s k < 97 := by omega
            have f2 : 122 < bt s k := by omega
            have f4 : ¬ bt s k < 48 := by omega
            have f3 : 57 < bt s k := by omega
            have HX := Lib.hid (hM (by rw [Bool.eq_false_iff]; intro h; have := hok.1 h; omega))
            clear hc hok c1 hM hT
            go_wp2
            go_ret
            exact ⟨ret_bool rfl (by rw [HS.out, HX.out]), rfl⟩
        · have hk' : k = s.size := by omega
          have HX := Lib.hid (show s.data.toList.all okC = true by have := HF.out; rwa [List.take_of_length_le (by simp; omega)] at this)
          go_wp2
          go_ret
          exact ⟨ret_bool rfl (by rw [HS.out, HX.out]), rfl⟩

theorem own_arg {w : World} {B : Nat} {v : Value} {L : List ByteArray} {n : Nat} (hown : w.ownsRow B 9 1 v n (L.map Value.string)) : ArgStrs w v L := by
  have hl : L.length = n := by have := hown.1; simp at this; omega
  subst hl
  rcases hown.2 with ⟨rfl, h0⟩ | ⟨g, cap, cur, rfl, hb, hh, h1, h2, h3, h4⟩
  · exact ⟨Option.none, 0, by rw [h0], by omega, fun hx => absurd (List.eq_nil_of_length_eq_zero (by simp [h0])) hx⟩
  · refine ⟨_, cap, rfl, by omega, fun hx => ⟨g, 0, rfl, fun j v hv => ?_⟩⟩
    have := hown.cells (g := g) rfl j v hv
    rwa [Addr.add_mid] at this

/-- the reference's answer -/
def RSplit (w w' : World) (l : Bytes) (e : Ending) : Prop :=
  Kp No w w' ∧ match path l with
  | none => e = .returned (.tuple #[.slice none 0 0, .int .i64 10])
  | some P => ∃ v D, e = .returned (.tuple #[v, .int .i64 0]) ∧ tx D = P ∧ ArgStrs w' v D

/-- the loop's state: k letters looked at, f where the piece begins -/
def RInv (l : Bytes) (D : List ByteArray) (f k : Nat) : Prop :=
  (tx D).all segB = true ∧ D.length ≤ 4 ∧ ((f ≤ k ∧ k ≤ l.length ∧ tx D ++ segs (l.drop f) = segs l ∧ (47 : UInt8) ∉ (l.drop f).take (k - f)) ∨ (k = l.length + 1 ∧ f = k ∧ tx D = segs l))

theorem rinv_go {l : Bytes} {D : List ByteArray} {f k : Nat} (h : RInv l D f k) (hk : k < l.length) (hc : l[k] ≠ 47) : RInv l D f (k + 1) := by
  obtain ⟨h1, h2, h3 | h3⟩ := h
  · obtain ⟨h3, h4, h5, h6⟩ := h3
    refine ⟨h1, h2, .inl ⟨by omega, by omega, h5, ?_⟩⟩
    have : k + 1 - f = (k - f) + 1 := by omega
    rw [this, List.take_succ_eq_append_getElem (by simp; omega)]
    simp only [List.mem_append, List.mem_singleton, not_or]
    refine ⟨h6, fun e => hc ?_⟩
    rw [List.getElem_drop] at e
    have e2 : f + (k - f) = k := by omega
    simp only [e2] at e
    exact e.symm
  · omega
/-- the piece at its end -/
theorem rinv_piece {l : Bytes} {D : List ByteArray} {f k : Nat} (h : RInv l D f k) (hk : k ≤ l.length) (hc : k = l.length ∨ ∃ h : k < l.length, l[k] = 47) :
    f ≤ k ∧ ∃ R, segs l = tx D ++ (l.drop f).take (k - f) :: R ∧ ((k = l.length ∧ R = []) ∨ (k < l.length ∧ R = segs (l.drop (k + 1)))) := by
  obtain ⟨h1, h2, h3 | h3⟩ := h
  · obtain ⟨h3, h4, h5, h6⟩ := h3
    refine ⟨h3, ?_⟩
    rcases hc with rfl | ⟨hlt, hc⟩
    · refine ⟨[], ?_, .inl ⟨rfl, rfl⟩⟩
      have e : (l.drop f).take (l.length - f) = l.drop f := List.take_of_length_le (by simp)
      rw [e] at h6 ⊢
      rw [← h5, segs_none h6]
    · refine ⟨segs (l.drop (k + 1)), ?_, .inr ⟨hlt, rfl⟩⟩
      have e : l.drop f = (l.drop f).take (k - f) ++ 47 :: l.drop (k + 1) := by
        conv => lhs; rw [← List.take_append_drop (k - f) (l.drop f)]
        rw [List.drop_drop, show f + (k - f) = k by omega, List.drop_eq_getElem_cons hlt, hc]
      rw [← h5]
      conv => lhs; rw [e]
      rw [segs_append _ h6]
  · omega
theorem rinv_next {l : Bytes} {D : List ByteArray} {f k : Nat} {x : ByteArray} (h : RInv l D f k) (hk : k ≤ l.length) (hc : k = l.length ∨ ∃ h : k < l.length, l[k] = 47)
    (hx : x.data.toList = (l.drop f).take (k - f)) (hs : segB x.data.toList = true) (hD : D.length ≠ 4) : RInv l (D ++ [x]) (k + 1) (k + 1) := by
  obtain ⟨hf, R, e, hR⟩ := rinv_piece h hk hc
  obtain ⟨h1, h2, _⟩ := h
  have ht : tx (D ++ [x]) = tx D ++ [(l.drop f).take (k - f)] := by simp [tx, hx]
  refine ⟨by rw [ht, List.all_append, h1, ← hx]; simp [hs], by simp; omega, ?_⟩
  rcases hR with ⟨rfl, rfl⟩ | ⟨hlt, rfl⟩
  · exact .inr ⟨rfl, rfl, by rw [ht, e]⟩
  · exact .inl ⟨Nat.le_refl _, by omega, by rw [ht, e]; simp, by simp⟩
/-- a bad piece, or one too many: no path -/
theorem rinv_bad {l : Bytes} {D : List ByteArray} {f k : Nat} (hl : l ≠ []) (h : RInv l D f k) (hk : k ≤ l.length) (hc : k = l.length ∨ ∃ h : k < l.length, l[k] = 47)
    (hb : D.length = 4 ∨ segB ((l.drop f).take (k - f)) = false) : path l = none := by
  obtain ⟨hf, R, e, hR⟩ := rinv_piece h hk hc
  unfold path
  rw [if_neg hl, if_neg]
  rw [e]
  intro hh
  simp only [Bool.and_eq_true, decide_eq_true_eq, List.all_append, List.all_cons, List.length_append, List.length_cons] at hh
  rcases hb with hb | hb
  · have := hh.2; rw [tx_length, hb] at this; omega
  · rw [hh.1.2.1] at hb; cases hb
theorem rinv_end {l : Bytes} {D : List ByteArray} {f k : Nat} (hl : l ≠ []) (h : RInv l D f k) (hk : l.length < k) : path l = some (tx D) := by
  obtain ⟨h1, h2, h3 | h3⟩ := h
  · omega
  · obtain ⟨_, _, h3⟩ := h3
    unfold path
    rw [if_neg hl, ← h3, if_pos]
    rw [h1, tx_length]; simp [h2]

theorem ext_list (s : ByteArray) (f k : Nat) : (s.extract f k).data.toList = (s.data.toList.drop f).take (k - f) := by
  simp [ByteArray.data_extract]

theorem Tryz.infoStr : (Tryz.prog.info? 9).map (fun i => (i.zero, i.size, i.bytes)) = some (some (.string ⟨#[]⟩), 1, 16) := by kernel_rfl

set_option maxHeartbeats 2000000 in
set_option maxRecDepth 100000 in
theorem rsplit_any (s : ByteArray) (w : World) (hs : s.size < 9223372036854775807) :
    Calls Tryz.prog 85 #[.string s] w fun e w' => RSplit w w' s.data.toList e := by
  have hb := get_bt s
  go_enter Tryz.func85, Tryz.ntmps85
  by_cases h0 : s.data.toList = []
  · obtain rfl := str_nil h0
    go_wp2
    go_ret2
    exact ⟨Kp.refl _ _, _, [], rfl, rfl, ArgStrs.nil _ _ _⟩
  · have n0 := str_ne h0
    have e0 := str_em h0
    have hlen : s.data.toList.length = s.size := by simp
    have H0 := Lib.hid h0; clear h0
    go_wp2
    go_loopw [6, 4, 5] (fun i out fr wr => ∃ k : Nat, k ≤ s.size + 1 ∧ i = .int .i64 k ∧ Kp No w wr ∧ ∃ (D : List ByteArray) (f : Nat), fr = .int .i64 f ∧ wr.ownsRow w.heap.size 9 1 out D.length (D.map Value.string) ∧ RInv s.data.toList D f k) (fun i _ _ _ => s.size + 1 - (intOf i).toNat)
    case atStart => exact ⟨0, Nat.zero_le _, rfl, Kp.refl _ _, [], 0, rfl, World.ownsRow_nil _ _ _ _, rfl, by simp, .inl ⟨Nat.le_refl _, Nat.zero_le _, by simp [tx], by simp⟩⟩
    case round =>
      obtain ⟨k, hk, rfl, hkp, D, f, rfl, hown, hR⟩ := hrel
      have HR := Lib.hid hR; clear hR
      by_cases hle : k ≤ s.size
      · have hk0 : (0 : Int) ≤ (k : Int) := by omega
        have hk1 : (k : Int) ≤ (s.size : Int) := by omega
        by_cases hgo : ∃ h : k < s.data.toList.length, s.data.toList[k] ≠ 47
        · obtain ⟨hl, hne⟩ := hgo
          have hlt : k < s.size := by omega
          have hk2 : (k : Int) < (s.size : Int) := by omega
          have hc : bt s k = (((s.data.toList[k]'hl).toNat : Nat) : Int) := by
            rw [← hb k hlt]; simp [ByteArray.getElem_eq_getElem_data]
          have e47 : (bt s k == 47) = false := by
            rw [hc]
            refine beq_eq_false_iff_ne.2 fun e => hne (UInt8.toNat_inj.1 ?_)
            show (s.data.toList[k]'hl).toNat = 47
            omega
          have HN := Lib.hid (rinv_go HR.out hl hne)
          clear hc hne
          go_wp2
          go_roundw
          case rel => exact ⟨k + 1, by omega, by go_num, hkp, D, f, rfl, hown, HN.out⟩
          case measure => simp [intOf]; omega
        · have hC : k = s.data.toList.length ∨ ∃ h : k < s.data.toList.length, s.data.toList[k] = 47 := by
            by_cases h : k < s.data.toList.length
            · right; exact ⟨h, Classical.byContradiction fun hne => hgo ⟨h, hne⟩⟩
            · left; omega
          have hpc := rinv_piece HR.out (by omega) hC
          have hf := hpc.1
          have hf0 : (0 : Int) ≤ (f : Int) := by omega
          have hf1 : (f : Int) ≤ (k : Int) := by omega
          have hg : (k < s.size ∧ bt s k = 47) ∨ k = s.size := by
            rcases hC with h | ⟨h, e⟩
            · right; omega
            · left
              refine ⟨by omega, ?_⟩
              rw [← hb k (by omega)]
              have : (s[k]'(by omega)) = s.data.toList[k] := by simp [ByteArray.getElem_eq_getElem_data]
              rw [this, e]; rfl
          have HC := Lib.hid hC
          have HB := Lib.hid (rinv_bad H0.out HR.out (by omega) hC)
          clear hC hgo hpc
          have hx := ext_list s f k
          have HX := Lib.hid hx
          have hD4 : D.length ≤ 4 := HR.out.2.1
          have hll := tx_length D
          have HNX : Hid (segB (s.extract f k).data.toList = true → D.length ≠ 4 → RInv s.data.toList (D ++ [s.extract f k]) (k + 1) (k + 1)) := rinv_next HR.out (by omega) HC.out hx
          clear hx
          obtain ⟨A, c, rfl, hcap, _⟩ := own_arg hown
          rcases hg with ⟨hlt, e47⟩ | hkn
          · have hk2 : (k : Int) < (s.size : Int) := by omega
            by_cases h4 : D.length = 4
            · have h4' : ((D.length : Int) == 4) = true := by rw [h4]; rfl
              go_wp2
              go_ret2
              refine ⟨hkp, ?_⟩
              rw [HB.out (.inl h4)]; rfl
            · have h4' : ((D.length : Int) == 4) = false := by simp; omega
              go_wp2_with fail
              refine (segment_any (s.extract f k) _).mono ?_
              rintro e w' ⟨rfl, rfl⟩
              cases hsg : segB (s.extract f k).data.toList with
              | false =>
                have HS := Lib.hid hsg; clear hsg
                go_wp2
                go_ret2
                refine ⟨hkp, ?_⟩
                rw [HB.out (.inr (by rw [← HX.out]; exact HS.out))]; rfl
              | true =>
                have HS := Lib.hid hsg; clear hsg
                go_wp2_with (at_builtin; refine wpList_app1 _ rfl _ _ 117 rfl w.heap.size 9 _ 1 16 Tryz.underlying117 Tryz.infoStr rfl (by omega) _ D.length (D.map Value.string) rfl (hown.alloc _) _ _ _ rfl (Bk.new' (by simp) rfl) rfl (by simp [Value.oneCell']) (by omega) (by omega) (by simp; have := hkp.size; omega) ?_; intro g1 cap1 w1 hown1 hk1 hat1)
                have hkp1 : Kp No w w1 := (hkp.alloc _).then_ hk1 fun i hi e => by have := hown.lt i e; omega
                go_roundw
                case rel => exact ⟨k + 1, by omega, by go_num, hkp1, D ++ [s.extract f k], k + 1, by go_num, by simpa using hown1, HNX HS.out h4⟩
                case measure => simp [intOf]; omega
          · have hk2 : ¬ (k : Int) < (s.size : Int) := by omega
            have hk3 : f ≤ s.size := by omega
            clear hkn
            by_cases h4 : D.length = 4
            · have h4' : ((D.length : Int) == 4) = true := by rw [h4]; rfl
              go_wp2
              go_ret2
              refine ⟨hkp, ?_⟩
              rw [HB.out (.inl h4)]; rfl
            · have h4' : ((D.length : Int) == 4) = false := by simp; omega
              go_wp2_with fail
              refine (segment_any (s.extract f k) _).mono ?_
              rintro e w' ⟨rfl, rfl⟩
              cases hsg : segB (s.extract f k).data.toList with
              | false =>
                have HS := Lib.hid hsg; clear hsg
                go_wp2
                go_ret2
                refine ⟨hkp, ?_⟩
                rw [HB.out (.inr (by rw [← HX.out]; exact HS.out))]; rfl
              | true =>
                have HS := Lib.hid hsg; clear hsg
                go_wp2_with (at_builtin; refine wpList_app1 _ rfl _ _ 117 rfl w.heap.size 9 _ 1 16 Tryz.underlying117 Tryz.infoStr rfl (by omega) _ D.length (D.map Value.string) rfl (hown.alloc _) _ _ _ rfl (Bk.new' (by simp) rfl) rfl (by simp [Value.oneCell']) (by omega) (by omega) (by simp; have := hkp.size; omega) ?_; intro g1 cap1 w1 hown1 hk1 hat1)
                have hkp1 : Kp No w w1 := (hkp.alloc _).then_ hk1 fun i hi e => by have := hown.lt i e; omega
                go_roundw
                case rel => exact ⟨k + 1, by omega, by go_num, hkp1, D ++ [s.extract f k], k + 1, by go_num, by simpa using hown1, HNX HS.out h4⟩
                case measure => simp [intOf]; omega
      · have hk' : k = s.size + 1 := by omega
        have hk2 : (s.size : Int) < (k : Int) := by omega
        have HE := Lib.hid (rinv_end H0.out HR.out (by omega))
        have HA := Lib.hid (own_arg hown)
        go_wp2
        go_ret2
        refine ⟨hkp, ?_⟩
        rw [HE.out]
        exact ⟨_, D, rfl, rfl, HA.out⟩

theorem RSplit.cases {w w' : World} {l : Bytes} {e : Ending} (h : RSplit w w' l e) : Kp No w w' ∧ ((path l = none ∧ e = .returned (.tuple #[.slice none 0 0, .int .i64 10])) ∨ ∃ P v D, path l = some P ∧ e = .returned (.tuple #[v, .int .i64 0]) ∧ tx D = P ∧ ArgStrs w' v D) := by
  obtain ⟨hk, h⟩ := h
  refine ⟨hk, ?_⟩
  split at h
  · rename_i hp; exact .inl ⟨hp, h⟩
  · rename_i P hp
    obtain ⟨v, D, h1, h2, h3⟩ := h
    exact .inr ⟨P, v, D, hp, h1, h2, h3⟩

theorem rvalid_any (s : ByteArray) (w : World) (hs : s.size < 9223372036854775807) :
    Calls Tryz.prog 44 #[.string s] w fun e w' => e = .returned (.bool (path s.data.toList).isSome) ∧ Kp No w w' := by
  go_enter Tryz.func44, Tryz.ntmps44
  go_wp2_with fail
  refine (rsplit_any _ _ hs).mono ?_
  rintro e w1 hR
  obtain ⟨hk, ⟨hp, rfl⟩ | ⟨P, v, D, hp, rfl, hD, hA⟩⟩ := hR.cases
  · have HP := Lib.hid hp; clear hp hR
    go_wp2
    go_ret
    exact ⟨ret_bool rfl (by rw [HP.out]; rfl), hk⟩
  · have HP := Lib.hid hp; clear hp hR hD hA
    go_wp2
    go_ret
    exact ⟨ret_bool rfl (by rw [HP.out]; rfl), hk⟩

end Go.Proofs.YtkiaclldjofdoaaGreat

/- The document's asks and replies by contract. No condition beyond what each theorem states. -/
namespace Go.Proofs.YtkiaclldjofdoaaGreat
open Go Go.RowKit Go.PlainAid

def askP (m : Msg) : Prop := cntI m.boot ∧ cntI m.seq ∧ 1 ≤ m.low ∧ m.low ≤ m.seq ∧ (if m.verb = 1 then vpP m.path = true ∧ modeI m.mode ∧ termI m.term else if m.verb = 2 then cntI m.id ∧ termI m.term else if m.verb = 3 then cntI m.id else False)
def repP (m : Msg) : Prop := cntI m.boot ∧ cntI m.seq ∧ 0 ≤ m.code ∧ m.code ≤ 99 ∧ (m.code = 0 → cntI m.id ∧ stampI m.stamp ∧ (m.term = 0 ∧ m.stamp = [] ∨ termI m.term ∧ m.stamp ≠ []))
instance (m : Msg) : Decidable (askP m) := by unfold askP; infer_instance
instance (m : Msg) : Decidable (repP m) := by unfold repP; infer_instance
theorem rpath_any (l : List UInt8) (hl : l.length ≤ 140737488355328) (w : World) : Calls Tryz.prog 44 #[.string ⟨l.toArray⟩] w fun e w' => e = .returned (.bool (vpP l)) ∧ Kp No w w' := by
  have h := rvalid_any ⟨l.toArray⟩ w (by show l.toArray.size < _; rw [List.size_toArray]; omega)
  simpa [vpP] using h
set_option maxRecDepth 100000 in
set_option maxHeartbeats 4000000 in
theorem rasks_any (m : Msg) (A : Option Addr) (c : Nat) (W : World) (hp : m.path.length ≤ 140737488355328) :
    Calls Tryz.prog 47 #[.agg (mcells m (.slice A m.stamp.length c)).toArray] W fun e w' => e = .returned (.bool (decide (askP m))) ∧ Kp No W w' := by
  have HP := Lib.hid (rpath_any m.path hp)
  have HK0 := Lib.hid (show Kp No W (W.alloc (.cells (mcells m (.slice A m.stamp.length c)).toArray 50)) from (Kp.refl No W).alloc _)
  have HB0 := Lib.hid (show Bk (W.alloc (.cells (mcells m (.slice A m.stamp.length c)).toArray 50)) W.heap.size 50 (mcells m (.slice A m.stamp.length c)) from Bk.new' rfl rfl)
  have HD := Lib.hid (show askP m ↔ (cntI m.boot ∧ cntI m.seq ∧ 1 ≤ m.low ∧ m.low ≤ m.seq ∧ (if m.verb = 1 then vpP m.path = true ∧ modeI m.mode ∧ termI m.term else if m.verb = 2 then cntI m.id ∧ termI m.term else if m.verb = 3 then cntI m.id else False)) from Iff.rfl)
  clear hp
  unfold mcells
  go_enter Tryz.func47, Tryz.ntmps47
  have HE1 : Hid (cntI m.boot ∨ ¬ cntI m.boot) := Lib.hid (Decidable.em _)
  rcases HE1.out with h1 | h1
  rotate_left
  · have d1 : decide (cntI m.boot) = false := by simpa using h1
    have H1 := Lib.hid h1; clear h1
    have HX := Lib.hid (show decide (askP m) = false by rw [decide_eq_false_iff_not, HD.out]; exact fun h => H1.out h.1)
    go_wp2_with ((first | (go_at_call 49; refine (rcounter_any _ _).mono ?_; rintro e w' ⟨rfl, rfl⟩)); first | rw [d1] | skip)
    go_ret
    exact ⟨ret_bool rfl (by first | exact HX.out.symm | (rw [HX.out]; exact dgn)), HK0.out⟩
  have d1 : decide (cntI m.boot) = true := by simpa using h1
  have H1 := Lib.hid h1; clear h1
  have HE2 : Hid (cntI m.seq ∨ ¬ cntI m.seq) := Lib.hid (Decidable.em _)
  rcases HE2.out with h2 | h2
  rotate_left
  · have d2 : decide (cntI m.seq) = false := by simpa using h2
    have H2 := Lib.hid h2; clear h2
    have HX := Lib.hid (show decide (askP m) = false by rw [decide_eq_false_iff_not, HD.out]; exact fun h => H2.out h.2.1)
    go_wp2_with ((first | (go_at_call 49; refine (rcounter_any _ _).mono ?_; rintro e w' ⟨rfl, rfl⟩)); first | rw [d1] | rw [d2] | skip)
    go_ret
    exact ⟨ret_bool rfl (by first | exact HX.out.symm | (rw [HX.out]; exact dgn)), HK0.out⟩
  have d2 : decide (cntI m.seq) = true := by simpa using h2
  have H2 := Lib.hid h2; clear h2
  by_cases h3 : m.low < 1
  · have d3 : decide (m.low < 1) = true := by simpa using h3
    have HX := Lib.hid (show decide (askP m) = false by rw [decide_eq_false_iff_not, HD.out]; intro h; omega)
    go_wp2_with ((first | (go_at_call 49; refine (rcounter_any _ _).mono ?_; rintro e w' ⟨rfl, rfl⟩)); first | rw [d1] | rw [d2] | skip)
    go_ret
    exact ⟨ret_bool rfl (by first | exact HX.out.symm | (rw [HX.out]; exact dgn)), HK0.out⟩
  have d3 : decide (m.low < 1) = false := by simpa using h3
  by_cases h4 : m.seq < m.low
  · have d4 : decide (m.seq < m.low) = true := by simpa using h4
    have HX := Lib.hid (show decide (askP m) = false by rw [decide_eq_false_iff_not, HD.out]; intro h; omega)
    go_wp2_with ((first | (go_at_call 49; refine (rcounter_any _ _).mono ?_; rintro e w' ⟨rfl, rfl⟩)); first | rw [d1] | rw [d2] | skip)
    go_ret
    exact ⟨ret_bool rfl (by first | exact HX.out.symm | (rw [HX.out]; exact dgn)), HK0.out⟩
  have d4 : decide (m.seq < m.low) = false := by simpa using h4
  have HL := Lib.hid (show 1 ≤ m.low ∧ m.low ≤ m.seq by omega)
  by_cases v1 : m.verb = 1
  · have dv : (m.verb == 1) = true := by simpa using v1
    have HV := Lib.hid v1; clear v1
    cases dp : vpP m.path
    · have HX := Lib.hid (show decide (askP m) = false by rw [decide_eq_false_iff_not, HD.out]; rw [if_pos HV.out]; rintro ⟨_, _, _, _, h, _⟩; rw [dp] at h; cases h)
      go_wp2_with ((first | (go_at_call 49; refine (rcounter_any _ _).mono ?_; rintro e w' ⟨rfl, rfl⟩) | (go_at_call 45; refine (rmode_any _ _).mono ?_; rintro e w' ⟨rfl, rfl⟩) | (go_at_call 86; refine (rlegal_any _ _).mono ?_; rintro e w' ⟨rfl, rfl⟩) | (go_at_call 44; refine (HP.out _).mono ?_; rintro e w1 ⟨rfl, k1⟩; have HB1 := Lib.hid (HB0.out.no k1); have HK1 := Lib.hid (HK0.out.trans k1); have z8 := HB1.out.cell 8; have z9 := HB1.out.cell 9; simp only [mcells, List.getElem?_cons_zero, List.getElem?_cons_succ] at z8 z9; clear k1)); first | rw [d1] | rw [d2] | rw [dp] | skip)
      go_ret
      exact ⟨ret_bool rfl (by first | exact HX.out.symm | (rw [HX.out]; exact dgn)), HK1.out⟩
    have HPV := Lib.hid dp
    have HE5 : Hid (modeI m.mode ∨ ¬ modeI m.mode) := Lib.hid (Decidable.em _)
    rcases HE5.out with h5 | h5
    rotate_left
    · have dm : decide (modeI m.mode) = false := by simpa using h5
      have H5 := Lib.hid h5; clear h5
      have HX := Lib.hid (show decide (askP m) = false by rw [decide_eq_false_iff_not, HD.out]; rw [if_pos HV.out]; rintro ⟨_, _, _, _, _, h, _⟩; exact H5.out h)
      go_wp2_with ((first | (go_at_call 49; refine (rcounter_any _ _).mono ?_; rintro e w' ⟨rfl, rfl⟩) | (go_at_call 45; refine (rmode_any _ _).mono ?_; rintro e w' ⟨rfl, rfl⟩) | (go_at_call 86; refine (rlegal_any _ _).mono ?_; rintro e w' ⟨rfl, rfl⟩) | (go_at_call 44; refine (HP.out _).mono ?_; rintro e w1 ⟨rfl, k1⟩; have HB1 := Lib.hid (HB0.out.no k1); have HK1 := Lib.hid (HK0.out.trans k1); have z8 := HB1.out.cell 8; have z9 := HB1.out.cell 9; simp only [mcells, List.getElem?_cons_zero, List.getElem?_cons_succ] at z8 z9; clear k1)); first | rw [d1] | rw [d2] | rw [dp] | rw [dm] | skip)
      go_ret
      exact ⟨ret_bool rfl (by first | exact HX.out.symm | (rw [HX.out]; exact dgn)), HK1.out⟩
    have dm : decide (modeI m.mode) = true := by simpa using h5
    have H5 := Lib.hid h5; clear h5
    have HE6 : Hid (termI m.term ∨ ¬ termI m.term) := Lib.hid (Decidable.em _)
    rcases HE6.out with h6 | h6
    rotate_left
    · have dt : decide (termI m.term) = false := by simpa using h6
      have H6 := Lib.hid h6; clear h6
      have HX := Lib.hid (show decide (askP m) = false by rw [decide_eq_false_iff_not, HD.out]; rw [if_pos HV.out]; rintro ⟨_, _, _, _, _, _, h⟩; exact H6.out h)
      go_wp2_with ((first | (go_at_call 49; refine (rcounter_any _ _).mono ?_; rintro e w' ⟨rfl, rfl⟩) | (go_at_call 45; refine (rmode_any _ _).mono ?_; rintro e w' ⟨rfl, rfl⟩) | (go_at_call 86; refine (rlegal_any _ _).mono ?_; rintro e w' ⟨rfl, rfl⟩) | (go_at_call 44; refine (HP.out _).mono ?_; rintro e w1 ⟨rfl, k1⟩; have HB1 := Lib.hid (HB0.out.no k1); have HK1 := Lib.hid (HK0.out.trans k1); have z8 := HB1.out.cell 8; have z9 := HB1.out.cell 9; simp only [mcells, List.getElem?_cons_zero, List.getElem?_cons_succ] at z8 z9; clear k1)); first | rw [d1] | rw [d2] | rw [dp] | rw [dm] | rw [dt] | skip)
      go_ret
      exact ⟨ret_bool rfl (by first | exact HX.out.symm | (rw [HX.out]; exact dgn)), HK1.out⟩
    have dt : decide (termI m.term) = true := by simpa using h6
    have H6 := Lib.hid h6; clear h6
    have HX := Lib.hid (show decide (askP m) = true by rw [decide_eq_true_iff, HD.out]; rw [if_pos HV.out]; exact ⟨H1.out, H2.out, HL.out.1, HL.out.2, HPV.out, H5.out, H6.out⟩)
    go_wp2_with ((first | (go_at_call 49; refine (rcounter_any _ _).mono ?_; rintro e w' ⟨rfl, rfl⟩) | (go_at_call 45; refine (rmode_any _ _).mono ?_; rintro e w' ⟨rfl, rfl⟩) | (go_at_call 86; refine (rlegal_any _ _).mono ?_; rintro e w' ⟨rfl, rfl⟩) | (go_at_call 44; refine (HP.out _).mono ?_; rintro e w1 ⟨rfl, k1⟩; have HB1 := Lib.hid (HB0.out.no k1); have HK1 := Lib.hid (HK0.out.trans k1); have z8 := HB1.out.cell 8; have z9 := HB1.out.cell 9; simp only [mcells, List.getElem?_cons_zero, List.getElem?_cons_succ] at z8 z9; clear k1)); first | rw [d1] | rw [d2] | rw [dp] | rw [dm] | rw [dt] | skip)
    go_ret
    exact ⟨ret_bool rfl (by first | exact HX.out.symm | (rw [HX.out]; exact dgn)), HK1.out⟩
  have dv1 : (m.verb == 1) = false := by rw [beq_eq_false_iff_ne]; exact v1
  have HV1 := Lib.hid v1; clear v1
  have HE7 : Hid (cntI m.id ∨ ¬ cntI m.id) := Lib.hid (Decidable.em _)
  rcases HE7.out with h7 | h7
  · have di : decide (cntI m.id) = true := by simpa using h7
    have H7 := Lib.hid h7; clear h7
    by_cases v2 : m.verb = 2
    · have dv2 : (m.verb == 2) = true := by simpa using v2
      have HV2 := Lib.hid v2; clear v2
      have HE8 : Hid (termI m.term ∨ ¬ termI m.term) := Lib.hid (Decidable.em _)
      rcases HE8.out with h8 | h8
      rotate_left
      · have dt : decide (termI m.term) = false := by simpa using h8
        have H8 := Lib.hid h8; clear h8
        have HX := Lib.hid (show decide (askP m) = false by rw [decide_eq_false_iff_not, HD.out]; rw [if_neg HV1.out, if_pos HV2.out]; rintro ⟨_, _, _, _, _, h⟩; exact H8.out h)
        go_wp2_with ((first | (go_at_call 49; refine (rcounter_any _ _).mono ?_; rintro e w' ⟨rfl, rfl⟩) | (go_at_call 86; refine (rlegal_any _ _).mono ?_; rintro e w' ⟨rfl, rfl⟩)); first | rw [d1] | rw [d2] | rw [di] | rw [dt] | skip)
        go_ret
        exact ⟨ret_bool rfl (by first | exact HX.out.symm | (rw [HX.out]; exact dgn)), HK0.out⟩
      have dt : decide (termI m.term) = true := by simpa using h8
      have H8 := Lib.hid h8; clear h8
      have HX := Lib.hid (show decide (askP m) = true by rw [decide_eq_true_iff, HD.out]; rw [if_neg HV1.out, if_pos HV2.out]; exact ⟨H1.out, H2.out, HL.out.1, HL.out.2, H7.out, H8.out⟩)
      go_wp2_with ((first | (go_at_call 49; refine (rcounter_any _ _).mono ?_; rintro e w' ⟨rfl, rfl⟩) | (go_at_call 86; refine (rlegal_any _ _).mono ?_; rintro e w' ⟨rfl, rfl⟩)); first | rw [d1] | rw [d2] | rw [di] | rw [dt] | skip)
      go_ret
      exact ⟨ret_bool rfl (by first | exact HX.out.symm | (rw [HX.out]; exact dgn)), HK0.out⟩
    have dv2 : (m.verb == 2) = false := by rw [beq_eq_false_iff_ne]; exact v2
    have HV2 := Lib.hid v2; clear v2
    by_cases v3 : m.verb = 3
    · have dv3 : (m.verb == 3) = true := by simpa using v3
      have HV3 := Lib.hid v3; clear v3
      have HX := Lib.hid (show decide (askP m) = true by rw [decide_eq_true_iff, HD.out]; rw [if_neg HV1.out, if_neg HV2.out, if_pos HV3.out]; exact ⟨H1.out, H2.out, HL.out.1, HL.out.2, H7.out⟩)
      go_wp2_with ((first | (go_at_call 49; refine (rcounter_any _ _).mono ?_; rintro e w' ⟨rfl, rfl⟩) | (go_at_call 86; refine (rlegal_any _ _).mono ?_; rintro e w' ⟨rfl, rfl⟩)); first | rw [d1] | rw [d2] | rw [di] | skip)
      go_ret
      exact ⟨ret_bool rfl (by first | exact HX.out.symm | (rw [HX.out]; exact dgn)), HK0.out⟩
    have dv3 : (m.verb == 3) = false := by rw [beq_eq_false_iff_ne]; exact v3
    have HV3 := Lib.hid v3; clear v3
    have HX := Lib.hid (show decide (askP m) = false by rw [decide_eq_false_iff_not, HD.out]; rw [if_neg HV1.out, if_neg HV2.out, if_neg HV3.out]; exact fun h => h.2.2.2.2)
    go_wp2_with ((first | (go_at_call 49; refine (rcounter_any _ _).mono ?_; rintro e w' ⟨rfl, rfl⟩) | (go_at_call 86; refine (rlegal_any _ _).mono ?_; rintro e w' ⟨rfl, rfl⟩)); first | rw [d1] | rw [d2] | rw [di] | skip)
    go_ret
    exact ⟨ret_bool rfl (by first | exact HX.out.symm | (rw [HX.out]; exact dgn)), HK0.out⟩
  · have di : decide (cntI m.id) = false := by simpa using h7
    have H7 := Lib.hid h7; clear h7
    by_cases v2 : m.verb = 2
    · have dv2 : (m.verb == 2) = true := by simpa using v2
      have HV2 := Lib.hid v2; clear v2
      have HX := Lib.hid (show decide (askP m) = false by rw [decide_eq_false_iff_not, HD.out]; rw [if_neg HV1.out, if_pos HV2.out]; rintro ⟨_, _, _, _, h, _⟩; exact H7.out h)
      go_wp2_with ((first | (go_at_call 49; refine (rcounter_any _ _).mono ?_; rintro e w' ⟨rfl, rfl⟩) | (go_at_call 86; refine (rlegal_any _ _).mono ?_; rintro e w' ⟨rfl, rfl⟩)); first | rw [d1] | rw [d2] | rw [di] | skip)
      go_ret
      exact ⟨ret_bool rfl (by first | exact HX.out.symm | (rw [HX.out]; exact dgn)), HK0.out⟩
    have dv2 : (m.verb == 2) = false := by rw [beq_eq_false_iff_ne]; exact v2
    have HV2 := Lib.hid v2; clear v2
    by_cases v3 : m.verb = 3
    · have dv3 : (m.verb == 3) = true := by simpa using v3
      have HV3 := Lib.hid v3; clear v3
      have HX := Lib.hid (show decide (askP m) = false by rw [decide_eq_false_iff_not, HD.out]; rw [if_neg HV1.out, if_neg HV2.out, if_pos HV3.out]; rintro ⟨_, _, _, _, h⟩; exact H7.out h)
      go_wp2_with ((first | (go_at_call 49; refine (rcounter_any _ _).mono ?_; rintro e w' ⟨rfl, rfl⟩) | (go_at_call 86; refine (rlegal_any _ _).mono ?_; rintro e w' ⟨rfl, rfl⟩)); first | rw [d1] | rw [d2] | rw [di] | skip)
      go_ret
      exact ⟨ret_bool rfl (by first | exact HX.out.symm | (rw [HX.out]; exact dgn)), HK0.out⟩
    have dv3 : (m.verb == 3) = false := by rw [beq_eq_false_iff_ne]; exact v3
    have HV3 := Lib.hid v3; clear v3
    have HX := Lib.hid (show decide (askP m) = false by rw [decide_eq_false_iff_not, HD.out]; rw [if_neg HV1.out, if_neg HV2.out, if_neg HV3.out]; exact fun h => h.2.2.2.2)
    go_wp2_with ((first | (go_at_call 49; refine (rcounter_any _ _).mono ?_; rintro e w' ⟨rfl, rfl⟩) | (go_at_call 86; refine (rlegal_any _ _).mono ?_; rintro e w' ⟨rfl, rfl⟩)); first | rw [d1] | rw [d2] | rw [di] | skip)
    go_ret
    exact ⟨ret_bool rfl (by first | exact HX.out.symm | (rw [HX.out]; exact dgn)), HK0.out⟩
end Go.Proofs.YtkiaclldjofdoaaGreat

/- The document's replies by contract. No condition beyond what each theorem states. -/
namespace Go.Proofs.YtkiaclldjofdoaaGreat
open Go Go.RowKit Go.PlainAid

set_option maxRecDepth 100000 in
set_option maxHeartbeats 8000000 in
theorem rreplies_any (m : Msg) (A : Option Addr) (c : Nat) (W : World) (hs : ArgInts W (.slice A m.stamp.length c) m.stamp) (hl : m.stamp.length ≤ maxLen) :
    Calls Tryz.prog 48 #[.agg (mcells m (.slice A m.stamp.length c)).toArray] W fun e w' => e = .returned (.bool (decide (repP m))) ∧ Kp No W w' := by
  have HK0 := Lib.hid (show Kp No W (W.alloc (.cells (mcells m (.slice A m.stamp.length c)).toArray 50)) from (Kp.refl No W).alloc _)
  have HS := Lib.hid (rstamp_any _ m.stamp _ (hs.no HK0.out) hl)
  have HD := Lib.hid (show repP m ↔ (cntI m.boot ∧ cntI m.seq ∧ 0 ≤ m.code ∧ m.code ≤ 99 ∧ (m.code = 0 → cntI m.id ∧ stampI m.stamp ∧ (m.term = 0 ∧ m.stamp = [] ∨ termI m.term ∧ m.stamp ≠ []))) from Iff.rfl)
  clear hs hl
  unfold mcells at HS ⊢
  go_enter Tryz.func48, Tryz.ntmps48
  have HE1 : Hid (cntI m.boot ∨ ¬ cntI m.boot) := Lib.hid (Decidable.em _)
  rcases HE1.out with h1 | h1
  rotate_left
  · have d1 : decide (cntI m.boot) = false := by simpa using h1
    have H1 := Lib.hid h1; clear h1
    have HX := Lib.hid (show decide (repP m) = false by rw [decide_eq_false_iff_not, HD.out]; exact fun h => H1.out h.1)
    go_wp2_with ((first | (go_at_call 49; refine (rcounter_any _ _).mono ?_; rintro e w' ⟨rfl, rfl⟩)); first | rw [d1] | skip)
    go_ret
    exact ⟨ret_bool rfl (by first | exact HX.out.symm | (rw [HX.out]; exact dgn)), HK0.out⟩
  have d1 : decide (cntI m.boot) = true := by simpa using h1
  have H1 := Lib.hid h1; clear h1
  have HE2 : Hid (cntI m.seq ∨ ¬ cntI m.seq) := Lib.hid (Decidable.em _)
  rcases HE2.out with h2 | h2
  rotate_left
  · have d2 : decide (cntI m.seq) = false := by simpa using h2
    have H2 := Lib.hid h2; clear h2
    have HX := Lib.hid (show decide (repP m) = false by rw [decide_eq_false_iff_not, HD.out]; exact fun h => H2.out h.2.1)
    go_wp2_with ((first | (go_at_call 49; refine (rcounter_any _ _).mono ?_; rintro e w' ⟨rfl, rfl⟩)); first | rw [d1] | rw [d2] | skip)
    go_ret
    exact ⟨ret_bool rfl (by first | exact HX.out.symm | (rw [HX.out]; exact dgn)), HK0.out⟩
  have d2 : decide (cntI m.seq) = true := by simpa using h2
  have H2 := Lib.hid h2; clear h2
  by_cases h3 : m.code < 0
  · have d3 : decide (m.code < 0) = true := by simpa using h3
    have HX := Lib.hid (show decide (repP m) = false by rw [decide_eq_false_iff_not, HD.out]; intro h; omega)
    go_wp2_with ((first | (go_at_call 49; refine (rcounter_any _ _).mono ?_; rintro e w' ⟨rfl, rfl⟩)); first | rw [d1] | rw [d2] | skip)
    go_ret
    exact ⟨ret_bool rfl (by first | exact HX.out.symm | (rw [HX.out]; exact dgn)), HK0.out⟩
  have d3 : decide (m.code < 0) = false := by simpa using h3
  by_cases h4 : 99 < m.code
  · have d4 : decide (99 < m.code) = true := by simpa using h4
    have HX := Lib.hid (show decide (repP m) = false by rw [decide_eq_false_iff_not, HD.out]; intro h; omega)
    go_wp2_with ((first | (go_at_call 49; refine (rcounter_any _ _).mono ?_; rintro e w' ⟨rfl, rfl⟩)); first | rw [d1] | rw [d2] | skip)
    go_ret
    exact ⟨ret_bool rfl (by first | exact HX.out.symm | (rw [HX.out]; exact dgn)), HK0.out⟩
  have d4 : decide (99 < m.code) = false := by simpa using h4
  have HL := Lib.hid (show 0 ≤ m.code ∧ m.code ≤ 99 by omega)
  by_cases c0 : m.code = 0
  rotate_left
  · have dc : (m.code != 0) = true := by rw [bne_iff_ne]; exact c0
    have HC := Lib.hid c0; clear c0
    have HX := Lib.hid (show decide (repP m) = true by rw [decide_eq_true_iff, HD.out]; exact ⟨H1.out, H2.out, HL.out.1, HL.out.2, fun h => absurd h HC.out⟩)
    go_wp2_with ((first | (go_at_call 49; refine (rcounter_any _ _).mono ?_; rintro e w' ⟨rfl, rfl⟩)); first | rw [d1] | rw [d2] | skip)
    go_ret
    exact ⟨ret_bool rfl (by first | exact HX.out.symm | (rw [HX.out]; exact dgn)), HK0.out⟩
  have dc : (m.code != 0) = false := by simpa using c0
  have HC := Lib.hid c0; clear c0
  have HT : Hid ((m.term = 0 ∧ ¬ termI m.term) ∨ (m.term ≠ 0 ∧ termI m.term) ∨ (m.term ≠ 0 ∧ ¬ termI m.term)) := Lib.hid (by
    by_cases t0 : m.term = 0
    · exact .inl ⟨t0, by unfold termI; omega⟩
    · by_cases t1 : termI m.term
      · exact .inr (.inl ⟨t0, t1⟩)
      · exact .inr (.inr ⟨t0, t1⟩))
  have HE : Hid (m.stamp = [] ∨ m.stamp ≠ []) := Lib.hid (Decidable.em _)
  have HI : Hid (cntI m.id ∨ ¬ cntI m.id) := Lib.hid (Decidable.em _)
  have HV : Hid (stampI m.stamp ∨ ¬ stampI m.stamp) := Lib.hid (Decidable.em _)
  rcases HT.out with ⟨t0, t1⟩ | ⟨t0, t1⟩ | ⟨t0, t1⟩
  · have dz : (m.term == 0) = true := by simpa using t0
    have dl : decide (termI m.term) = false := by simpa using t1
    have T0 := Lib.hid t0; have T1 := Lib.hid t1; clear t0 t1
    rcases HE.out with e0 | e0
    · have e1 : m.stamp.length = 0 := by rw [e0]; rfl
      have de : ((m.stamp.length : Int) == 0) = true := by rw [e1]; rfl
      have dg : decide ((0 : Int) < (m.stamp.length : Int)) = false := by rw [decide_eq_false_iff_not]; omega
      have dgn : decide (0 < m.stamp.length) = false := by rw [decide_eq_false_iff_not]; omega
      have E0 := Lib.hid e0; clear e0 e1
      rcases HI.out with i0 | i0
      rotate_left
      · have di : decide (cntI m.id) = false := by simpa using i0
        have I0 := Lib.hid i0; clear i0
        have HX := Lib.hid (show decide (repP m) = false by rw [decide_eq_false_iff_not, HD.out]; exact fun h => I0.out (h.2.2.2.2 HC.out).1)
        go_wp2_with ((first | (go_at_call 49; refine (rcounter_any _ _).mono ?_; rintro e w' ⟨rfl, rfl⟩) | (go_at_call 86; refine (rlegal_any _ _).mono ?_; rintro e w' ⟨rfl, rfl⟩) | (go_at_call 46; refine HS.out.mono ?_; rintro e w' ⟨rfl, rfl⟩)); first | rw [d1] | rw [d2] | rw [di] | rw [dl] | skip)
        go_ret
        exact ⟨ret_bool rfl (by first | exact HX.out.symm | (rw [HX.out]; exact dgn)), HK0.out⟩
      have di : decide (cntI m.id) = true := by simpa using i0
      have I0 := Lib.hid i0; clear i0
      rcases HV.out with s0 | s0
      rotate_left
      · have ds : decide (stampI m.stamp) = false := by simpa using s0
        have S0 := Lib.hid s0; clear s0
        have HX := Lib.hid (show decide (repP m) = false by rw [decide_eq_false_iff_not, HD.out]; exact fun h => S0.out (h.2.2.2.2 HC.out).2.1)
        go_wp2_with ((first | (go_at_call 49; refine (rcounter_any _ _).mono ?_; rintro e w' ⟨rfl, rfl⟩) | (go_at_call 86; refine (rlegal_any _ _).mono ?_; rintro e w' ⟨rfl, rfl⟩) | (go_at_call 46; refine HS.out.mono ?_; rintro e w' ⟨rfl, rfl⟩)); first | rw [d1] | rw [d2] | rw [di] | rw [ds] | rw [dl] | skip)
        go_ret
        exact ⟨ret_bool rfl (by first | exact HX.out.symm | (rw [HX.out]; exact dgn)), HK0.out⟩
      have ds : decide (stampI m.stamp) = true := by simpa using s0
      have S0 := Lib.hid s0; clear s0
      have HX := Lib.hid (show decide (repP m) = true by rw [decide_eq_true_iff, HD.out]; exact ⟨H1.out, H2.out, HL.out.1, HL.out.2, fun _ => ⟨I0.out, S0.out, .inl ⟨T0.out, E0.out⟩⟩⟩)
      go_wp2_with ((first | (go_at_call 49; refine (rcounter_any _ _).mono ?_; rintro e w' ⟨rfl, rfl⟩) | (go_at_call 86; refine (rlegal_any _ _).mono ?_; rintro e w' ⟨rfl, rfl⟩) | (go_at_call 46; refine HS.out.mono ?_; rintro e w' ⟨rfl, rfl⟩)); first | rw [d1] | rw [d2] | rw [di] | rw [ds] | rw [dl] | skip)
      go_ret
      exact ⟨ret_bool rfl (by first | exact HX.out.symm | (rw [HX.out]; exact dgn)), HK0.out⟩
    · have e1 : m.stamp.length ≠ 0 := fun h => e0 (List.eq_nil_of_length_eq_zero h)
      have de : ((m.stamp.length : Int) == 0) = false := by rw [beq_eq_false_iff_ne]; omega
      have dg : decide ((0 : Int) < (m.stamp.length : Int)) = true := by rw [decide_eq_true_iff]; omega
      have dgn : decide (0 < m.stamp.length) = true := by rw [decide_eq_true_iff]; omega
      have E0 := Lib.hid e0; clear e0 e1
      rcases HI.out with i0 | i0
      rotate_left
      · have di : decide (cntI m.id) = false := by simpa using i0
        have I0 := Lib.hid i0; clear i0
        have HX := Lib.hid (show decide (repP m) = false by rw [decide_eq_false_iff_not, HD.out]; exact fun h => I0.out (h.2.2.2.2 HC.out).1)
        go_wp2_with ((first | (go_at_call 49; refine (rcounter_any _ _).mono ?_; rintro e w' ⟨rfl, rfl⟩) | (go_at_call 86; refine (rlegal_any _ _).mono ?_; rintro e w' ⟨rfl, rfl⟩) | (go_at_call 46; refine HS.out.mono ?_; rintro e w' ⟨rfl, rfl⟩)); first | rw [d1] | rw [d2] | rw [di] | rw [dl] | skip)
        go_ret
        exact ⟨ret_bool rfl (by first | exact HX.out.symm | (rw [HX.out]; exact dgn)), HK0.out⟩
      have di : decide (cntI m.id) = true := by simpa using i0
      have I0 := Lib.hid i0; clear i0
      rcases HV.out with s0 | s0
      rotate_left
      · have ds : decide (stampI m.stamp) = false := by simpa using s0
        have S0 := Lib.hid s0; clear s0
        have HX := Lib.hid (show decide (repP m) = false by rw [decide_eq_false_iff_not, HD.out]; exact fun h => S0.out (h.2.2.2.2 HC.out).2.1)
        go_wp2_with ((first | (go_at_call 49; refine (rcounter_any _ _).mono ?_; rintro e w' ⟨rfl, rfl⟩) | (go_at_call 86; refine (rlegal_any _ _).mono ?_; rintro e w' ⟨rfl, rfl⟩) | (go_at_call 46; refine HS.out.mono ?_; rintro e w' ⟨rfl, rfl⟩)); first | rw [d1] | rw [d2] | rw [di] | rw [ds] | rw [dl] | skip)
        go_ret
        exact ⟨ret_bool rfl (by first | exact HX.out.symm | (rw [HX.out]; exact dgn)), HK0.out⟩
      have ds : decide (stampI m.stamp) = true := by simpa using s0
      have S0 := Lib.hid s0; clear s0
      have HX := Lib.hid (show decide (repP m) = false by rw [decide_eq_false_iff_not, HD.out]; intro h; rcases (h.2.2.2.2 HC.out).2.2 with ⟨_, q⟩ | ⟨q, _⟩; exact E0.out q; exact T1.out q)
      go_wp2_with ((first | (go_at_call 49; refine (rcounter_any _ _).mono ?_; rintro e w' ⟨rfl, rfl⟩) | (go_at_call 86; refine (rlegal_any _ _).mono ?_; rintro e w' ⟨rfl, rfl⟩) | (go_at_call 46; refine HS.out.mono ?_; rintro e w' ⟨rfl, rfl⟩)); first | rw [d1] | rw [d2] | rw [di] | rw [ds] | rw [dl] | skip)
      go_ret
      exact ⟨ret_bool rfl (by first | exact HX.out.symm | (rw [HX.out]; exact dgn)), HK0.out⟩
  · have dz : (m.term == 0) = false := by rw [beq_eq_false_iff_ne]; exact t0
    have dl : decide (termI m.term) = true := by simpa using t1
    have T0 := Lib.hid t0; have T1 := Lib.hid t1; clear t0 t1
    rcases HE.out with e0 | e0
    · have e1 : m.stamp.length = 0 := by rw [e0]; rfl
      have de : ((m.stamp.length : Int) == 0) = true := by rw [e1]; rfl
      have dg : decide ((0 : Int) < (m.stamp.length : Int)) = false := by rw [decide_eq_false_iff_not]; omega
      have dgn : decide (0 < m.stamp.length) = false := by rw [decide_eq_false_iff_not]; omega
      have E0 := Lib.hid e0; clear e0 e1
      rcases HI.out with i0 | i0
      rotate_left
      · have di : decide (cntI m.id) = false := by simpa using i0
        have I0 := Lib.hid i0; clear i0
        have HX := Lib.hid (show decide (repP m) = false by rw [decide_eq_false_iff_not, HD.out]; exact fun h => I0.out (h.2.2.2.2 HC.out).1)
        go_wp2_with ((first | (go_at_call 49; refine (rcounter_any _ _).mono ?_; rintro e w' ⟨rfl, rfl⟩) | (go_at_call 86; refine (rlegal_any _ _).mono ?_; rintro e w' ⟨rfl, rfl⟩) | (go_at_call 46; refine HS.out.mono ?_; rintro e w' ⟨rfl, rfl⟩)); first | rw [d1] | rw [d2] | rw [di] | rw [dl] | skip)
        go_ret
        exact ⟨ret_bool rfl (by first | exact HX.out.symm | (rw [HX.out]; exact dgn)), HK0.out⟩
      have di : decide (cntI m.id) = true := by simpa using i0
      have I0 := Lib.hid i0; clear i0
      rcases HV.out with s0 | s0
      rotate_left
      · have ds : decide (stampI m.stamp) = false := by simpa using s0
        have S0 := Lib.hid s0; clear s0
        have HX := Lib.hid (show decide (repP m) = false by rw [decide_eq_false_iff_not, HD.out]; exact fun h => S0.out (h.2.2.2.2 HC.out).2.1)
        go_wp2_with ((first | (go_at_call 49; refine (rcounter_any _ _).mono ?_; rintro e w' ⟨rfl, rfl⟩) | (go_at_call 86; refine (rlegal_any _ _).mono ?_; rintro e w' ⟨rfl, rfl⟩) | (go_at_call 46; refine HS.out.mono ?_; rintro e w' ⟨rfl, rfl⟩)); first | rw [d1] | rw [d2] | rw [di] | rw [ds] | rw [dl] | skip)
        go_ret
        exact ⟨ret_bool rfl (by first | exact HX.out.symm | (rw [HX.out]; exact dgn)), HK0.out⟩
      have ds : decide (stampI m.stamp) = true := by simpa using s0
      have S0 := Lib.hid s0; clear s0
      have HX := Lib.hid (show decide (repP m) = false by rw [decide_eq_false_iff_not, HD.out]; intro h; rcases (h.2.2.2.2 HC.out).2.2 with ⟨q, _⟩ | ⟨_, q⟩; exact T0.out q; exact q E0.out)
      go_wp2_with ((first | (go_at_call 49; refine (rcounter_any _ _).mono ?_; rintro e w' ⟨rfl, rfl⟩) | (go_at_call 86; refine (rlegal_any _ _).mono ?_; rintro e w' ⟨rfl, rfl⟩) | (go_at_call 46; refine HS.out.mono ?_; rintro e w' ⟨rfl, rfl⟩)); first | rw [d1] | rw [d2] | rw [di] | rw [ds] | rw [dl] | skip)
      go_ret
      exact ⟨ret_bool rfl (by first | exact HX.out.symm | (rw [HX.out]; exact dgn)), HK0.out⟩
    · have e1 : m.stamp.length ≠ 0 := fun h => e0 (List.eq_nil_of_length_eq_zero h)
      have de : ((m.stamp.length : Int) == 0) = false := by rw [beq_eq_false_iff_ne]; omega
      have dg : decide ((0 : Int) < (m.stamp.length : Int)) = true := by rw [decide_eq_true_iff]; omega
      have dgn : decide (0 < m.stamp.length) = true := by rw [decide_eq_true_iff]; omega
      have E0 := Lib.hid e0; clear e0 e1
      rcases HI.out with i0 | i0
      rotate_left
      · have di : decide (cntI m.id) = false := by simpa using i0
        have I0 := Lib.hid i0; clear i0
        have HX := Lib.hid (show decide (repP m) = false by rw [decide_eq_false_iff_not, HD.out]; exact fun h => I0.out (h.2.2.2.2 HC.out).1)
        go_wp2_with ((first | (go_at_call 49; refine (rcounter_any _ _).mono ?_; rintro e w' ⟨rfl, rfl⟩) | (go_at_call 86; refine (rlegal_any _ _).mono ?_; rintro e w' ⟨rfl, rfl⟩) | (go_at_call 46; refine HS.out.mono ?_; rintro e w' ⟨rfl, rfl⟩)); first | rw [d1] | rw [d2] | rw [di] | rw [dl] | skip)
        go_ret
        exact ⟨ret_bool rfl (by first | exact HX.out.symm | (rw [HX.out]; exact dgn)), HK0.out⟩
      have di : decide (cntI m.id) = true := by simpa using i0
      have I0 := Lib.hid i0; clear i0
      rcases HV.out with s0 | s0
      rotate_left
      · have ds : decide (stampI m.stamp) = false := by simpa using s0
        have S0 := Lib.hid s0; clear s0
        have HX := Lib.hid (show decide (repP m) = false by rw [decide_eq_false_iff_not, HD.out]; exact fun h => S0.out (h.2.2.2.2 HC.out).2.1)
        go_wp2_with ((first | (go_at_call 49; refine (rcounter_any _ _).mono ?_; rintro e w' ⟨rfl, rfl⟩) | (go_at_call 86; refine (rlegal_any _ _).mono ?_; rintro e w' ⟨rfl, rfl⟩) | (go_at_call 46; refine HS.out.mono ?_; rintro e w' ⟨rfl, rfl⟩)); first | rw [d1] | rw [d2] | rw [di] | rw [ds] | rw [dl] | skip)
        go_ret
        exact ⟨ret_bool rfl (by first | exact HX.out.symm | (rw [HX.out]; exact dgn)), HK0.out⟩
      have ds : decide (stampI m.stamp) = true := by simpa using s0
      have S0 := Lib.hid s0; clear s0
      have HX := Lib.hid (show decide (repP m) = true by rw [decide_eq_true_iff, HD.out]; exact ⟨H1.out, H2.out, HL.out.1, HL.out.2, fun _ => ⟨I0.out, S0.out, .inr ⟨T1.out, E0.out⟩⟩⟩)
      go_wp2_with ((first | (go_at_call 49; refine (rcounter_any _ _).mono ?_; rintro e w' ⟨rfl, rfl⟩) | (go_at_call 86; refine (rlegal_any _ _).mono ?_; rintro e w' ⟨rfl, rfl⟩) | (go_at_call 46; refine HS.out.mono ?_; rintro e w' ⟨rfl, rfl⟩)); first | rw [d1] | rw [d2] | rw [di] | rw [ds] | rw [dl] | skip)
      go_ret
      exact ⟨ret_bool rfl (by first | exact HX.out.symm | (rw [HX.out]; exact dgn)), HK0.out⟩
  · have dz : (m.term == 0) = false := by rw [beq_eq_false_iff_ne]; exact t0
    have dl : decide (termI m.term) = false := by simpa using t1
    have T0 := Lib.hid t0; have T1 := Lib.hid t1; clear t0 t1
    rcases HE.out with e0 | e0
    · have e1 : m.stamp.length = 0 := by rw [e0]; rfl
      have de : ((m.stamp.length : Int) == 0) = true := by rw [e1]; rfl
      have dg : decide ((0 : Int) < (m.stamp.length : Int)) = false := by rw [decide_eq_false_iff_not]; omega
      have dgn : decide (0 < m.stamp.length) = false := by rw [decide_eq_false_iff_not]; omega
      have E0 := Lib.hid e0; clear e0 e1
      rcases HI.out with i0 | i0
      rotate_left
      · have di : decide (cntI m.id) = false := by simpa using i0
        have I0 := Lib.hid i0; clear i0
        have HX := Lib.hid (show decide (repP m) = false by rw [decide_eq_false_iff_not, HD.out]; exact fun h => I0.out (h.2.2.2.2 HC.out).1)
        go_wp2_with ((first | (go_at_call 49; refine (rcounter_any _ _).mono ?_; rintro e w' ⟨rfl, rfl⟩) | (go_at_call 86; refine (rlegal_any _ _).mono ?_; rintro e w' ⟨rfl, rfl⟩) | (go_at_call 46; refine HS.out.mono ?_; rintro e w' ⟨rfl, rfl⟩)); first | rw [d1] | rw [d2] | rw [di] | rw [dl] | skip)
        go_ret
        exact ⟨ret_bool rfl (by first | exact HX.out.symm | (rw [HX.out]; exact dgn)), HK0.out⟩
      have di : decide (cntI m.id) = true := by simpa using i0
      have I0 := Lib.hid i0; clear i0
      rcases HV.out with s0 | s0
      rotate_left
      · have ds : decide (stampI m.stamp) = false := by simpa using s0
        have S0 := Lib.hid s0; clear s0
        have HX := Lib.hid (show decide (repP m) = false by rw [decide_eq_false_iff_not, HD.out]; exact fun h => S0.out (h.2.2.2.2 HC.out).2.1)
        go_wp2_with ((first | (go_at_call 49; refine (rcounter_any _ _).mono ?_; rintro e w' ⟨rfl, rfl⟩) | (go_at_call 86; refine (rlegal_any _ _).mono ?_; rintro e w' ⟨rfl, rfl⟩) | (go_at_call 46; refine HS.out.mono ?_; rintro e w' ⟨rfl, rfl⟩)); first | rw [d1] | rw [d2] | rw [di] | rw [ds] | rw [dl] | skip)
        go_ret
        exact ⟨ret_bool rfl (by first | exact HX.out.symm | (rw [HX.out]; exact dgn)), HK0.out⟩
      have ds : decide (stampI m.stamp) = true := by simpa using s0
      have S0 := Lib.hid s0; clear s0
      have HX := Lib.hid (show decide (repP m) = false by rw [decide_eq_false_iff_not, HD.out]; intro h; rcases (h.2.2.2.2 HC.out).2.2 with ⟨q, _⟩ | ⟨q, _⟩; exact T0.out q; exact T1.out q)
      go_wp2_with ((first | (go_at_call 49; refine (rcounter_any _ _).mono ?_; rintro e w' ⟨rfl, rfl⟩) | (go_at_call 86; refine (rlegal_any _ _).mono ?_; rintro e w' ⟨rfl, rfl⟩) | (go_at_call 46; refine HS.out.mono ?_; rintro e w' ⟨rfl, rfl⟩)); first | rw [d1] | rw [d2] | rw [di] | rw [ds] | rw [dl] | skip)
      go_ret
      exact ⟨ret_bool rfl (by first | exact HX.out.symm | (rw [HX.out]; exact dgn)), HK0.out⟩
    · have e1 : m.stamp.length ≠ 0 := fun h => e0 (List.eq_nil_of_length_eq_zero h)
      have de : ((m.stamp.length : Int) == 0) = false := by rw [beq_eq_false_iff_ne]; omega
      have dg : decide ((0 : Int) < (m.stamp.length : Int)) = true := by rw [decide_eq_true_iff]; omega
      have dgn : decide (0 < m.stamp.length) = true := by rw [decide_eq_true_iff]; omega
      have E0 := Lib.hid e0; clear e0 e1
      rcases HI.out with i0 | i0
      rotate_left
      · have di : decide (cntI m.id) = false := by simpa using i0
        have I0 := Lib.hid i0; clear i0
        have HX := Lib.hid (show decide (repP m) = false by rw [decide_eq_false_iff_not, HD.out]; exact fun h => I0.out (h.2.2.2.2 HC.out).1)
        go_wp2_with ((first | (go_at_call 49; refine (rcounter_any _ _).mono ?_; rintro e w' ⟨rfl, rfl⟩) | (go_at_call 86; refine (rlegal_any _ _).mono ?_; rintro e w' ⟨rfl, rfl⟩) | (go_at_call 46; refine HS.out.mono ?_; rintro e w' ⟨rfl, rfl⟩)); first | rw [d1] | rw [d2] | rw [di] | rw [dl] | skip)
        go_ret
        exact ⟨ret_bool rfl (by first | exact HX.out.symm | (rw [HX.out]; exact dgn)), HK0.out⟩
      have di : decide (cntI m.id) = true := by simpa using i0
      have I0 := Lib.hid i0; clear i0
      rcases HV.out with s0 | s0
      rotate_left
      · have ds : decide (stampI m.stamp) = false := by simpa using s0
        have S0 := Lib.hid s0; clear s0
        have HX := Lib.hid (show decide (repP m) = false by rw [decide_eq_false_iff_not, HD.out]; exact fun h => S0.out (h.2.2.2.2 HC.out).2.1)
        go_wp2_with ((first | (go_at_call 49; refine (rcounter_any _ _).mono ?_; rintro e w' ⟨rfl, rfl⟩) | (go_at_call 86; refine (rlegal_any _ _).mono ?_; rintro e w' ⟨rfl, rfl⟩) | (go_at_call 46; refine HS.out.mono ?_; rintro e w' ⟨rfl, rfl⟩)); first | rw [d1] | rw [d2] | rw [di] | rw [ds] | rw [dl] | skip)
        go_ret
        exact ⟨ret_bool rfl (by first | exact HX.out.symm | (rw [HX.out]; exact dgn)), HK0.out⟩
      have ds : decide (stampI m.stamp) = true := by simpa using s0
      have S0 := Lib.hid s0; clear s0
      have HX := Lib.hid (show decide (repP m) = false by rw [decide_eq_false_iff_not, HD.out]; intro h; rcases (h.2.2.2.2 HC.out).2.2 with ⟨q, _⟩ | ⟨q, _⟩; exact T0.out q; exact T1.out q)
      go_wp2_with ((first | (go_at_call 49; refine (rcounter_any _ _).mono ?_; rintro e w' ⟨rfl, rfl⟩) | (go_at_call 86; refine (rlegal_any _ _).mono ?_; rintro e w' ⟨rfl, rfl⟩) | (go_at_call 46; refine HS.out.mono ?_; rintro e w' ⟨rfl, rfl⟩)); first | rw [d1] | rw [d2] | rw [di] | rw [ds] | rw [dl] | skip)
      go_ret
      exact ⟨ret_bool rfl (by first | exact HX.out.symm | (rw [HX.out]; exact dgn)), HK0.out⟩
end Go.Proofs.YtkiaclldjofdoaaGreat

/- A message's sixteen cells. No condition beyond what each theorem states. -/
namespace Go.Proofs.YtkiaclldjofdoaaGreat
open Go

theorem cells16 {w : World} {g : Nat} {m : Msg} {sv : Value} (h : Bk w g 50 (mcells m sv)) : w.cell? ⟨g, 0, none⟩ = some (.int .i64 m.kind) ∧ w.cell? ⟨g, 1, none⟩ = some (.int .i64 m.from_) ∧ w.cell? ⟨g, 2, none⟩ = some (.int .i64 m.dest) ∧ w.cell? ⟨g, 3, none⟩ = some (.int .i64 m.boot) ∧ w.cell? ⟨g, 4, none⟩ = some (.int .i64 m.seq) ∧ w.cell? ⟨g, 5, none⟩ = some (.int .i64 m.low) ∧ w.cell? ⟨g, 6, none⟩ = some (.int .i64 m.verb) ∧ w.cell? ⟨g, 7, none⟩ = some (.string ⟨m.path.toArray⟩) ∧ w.cell? ⟨g, 8, none⟩ = some (.int .i64 m.mode) ∧ w.cell? ⟨g, 9, none⟩ = some (.int .i64 m.term) ∧ w.cell? ⟨g, 10, none⟩ = some (.int .i64 m.id) ∧ w.cell? ⟨g, 11, none⟩ = some (.bool m.fresh) ∧ w.cell? ⟨g, 12, none⟩ = some (.int .i64 m.code) ∧ w.cell? ⟨g, 13, none⟩ = some (sv) ∧ w.cell? ⟨g, 14, none⟩ = some (.int .i64 m.origin) ∧ w.cell? ⟨g, 15, none⟩ = some (.int .i64 m.number) :=
  ⟨h.cell 0, h.cell 1, h.cell 2, h.cell 3, h.cell 4, h.cell 5, h.cell 6, h.cell 7, h.cell 8, h.cell 9, h.cell 10, h.cell 11, h.cell 12, h.cell 13, h.cell 14, h.cell 15⟩
end Go.Proofs.YtkiaclldjofdoaaGreat
