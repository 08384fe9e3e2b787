/- The reference's stamps and the law's own and same, by contracts. No condition beyond what each theorem states. -/
import Derived.Test.YtfbogdeodpkhcaaDoorSt3
namespace Go.Proofs.YtfbogdeodpkhcaaDoor
open Go Go.RowKit Go.PlainAid

set_option maxHeartbeats 1000000 in
theorem rvalidS_any (v : Value) (L : List Int) (w : World) (hv : ArgInts w v L) (hl : L.length ≤ maxLen) :
    Calls Tryd.prog 16 #[v] w fun e w' => e = .returned (.bool (validS L)) ∧ w = w' := by
  have HV := Lib.hid hv
  obtain ⟨A, c, rfl, hc, _⟩ := hv
  go_enter Tryd.func16, Tryd.ntmps16
  by_cases h4 : L.length ≤ 4
  · have h4' : ¬ 4 < (L.length : Int) := by omega
    have HS := Lib.hid (show validS L = L.all okN by unfold validS; rw [decide_eq_true h4]; simp)
    go_wp2
    go_loopw [3] (fun i wr => ∃ k : Nat, k ≤ L.length ∧ i = .int .i64 k ∧ wr = w ∧ (L.take k).all okN = true) (fun i _ => L.length - (intOf i).toNat)
    case atStart => exact ⟨0, Nat.zero_le _, rfl, rfl, by simp⟩
    case round =>
      obtain ⟨k, hk, rfl, rfl, hF⟩ := hrel
      have HF := Lib.hid hF; clear hF
      by_cases hlt : k < L.length
      · have hk0 : (0 : Int) ≤ (k : Int) := by omega
        have hk1 : (k : Int) < (L.length : Int) := by omega
        obtain ⟨g, o, c', e1, hxx⟩ := HV.out.at_ hlt
        have hx := hxx k _ (List.getElem?_eq_getElem hlt)
        clear hxx
        injection e1 with e1 _ e1c
        subst e1 e1c
        have HT := Lib.hid (all_take okN hlt)
        have HM := Lib.hid (show okN L[k] = false → L.all okN = false from fun h => by
          rw [Bool.eq_false_iff]; intro ha
          have := List.all_eq_true.1 ha _ (List.getElem_mem hlt)
          rw [h] at this; cases this)
        generalize L[k] = x at *
        by_cases h1 : x < 1
        · have HO := Lib.hid (show okN x = false by unfold okN; simp; omega)
          go_wp2
          go_ret
          exact ⟨ret_bool rfl (by rw [HS.out, HM.out HO.out]), rfl⟩
        · by_cases h2 : 1099511627776 < x
          · have HO := Lib.hid (show okN x = false by unfold okN; simp; omega)
            go_wp2
            go_ret
            exact ⟨ret_bool rfl (by rw [HS.out, HM.out HO.out]), rfl⟩
          · have HO := Lib.hid (show okN x = true by unfold okN; simp; omega)
            go_wp2
            go_roundw
            case rel => exact ⟨k + 1, by omega, by go_num, by trivial, by rw [HT.out, HF.out, HO.out]; rfl⟩
            case measure => simp [intOf]; omega
      · have hk' : k = L.length := by omega
        have hall : L.all okN = true := by have := HF.out; rwa [hk', List.take_length] at this
        have HA := Lib.hid hall; clear hall hk'
        have hk1 : ¬ (k : Int) < (L.length : Int) := by omega
        go_wp2
        go_ret
        exact ⟨ret_bool rfl (by rw [HS.out, HA.out]), rfl⟩
  · have h4' : 4 < (L.length : Int) := by omega
    have HS := Lib.hid (show validS L = false by unfold validS; rw [decide_eq_false h4]; simp)
    go_wp2
    go_ret
    exact ⟨ret_bool rfl HS.out.symm, rfl⟩

set_option maxHeartbeats 1000000 in
set_option maxRecDepth 100000 in
theorem rcompareS_any (v u : Value) (L M : List Int) (w : World) (hv : ArgInts w v L) (hu : ArgInts w u M) (hl : L.length ≤ maxLen) (hm : M.length ≤ maxLen) :
    Calls Tryd.prog 18 #[v, u] w fun e w' => e = .returned (.int .i64 (cmpS L M)) ∧ Kp No w w' := by
  unfold maxLen at hl hm
  have HV := Lib.hid hv; have HU := Lib.hid hu
  obtain ⟨A, c, rfl, hc, _⟩ := hv
  obtain ⟨B, d, rfl, hd, _⟩ := hu
  go_enter Tryd.func18, Tryd.ntmps18
  go_wp2
  go_loopw [5] (fun i wr => ∃ k : Nat, k ≤ L.length ∧ k ≤ M.length ∧ i = .int .i64 k ∧ Kp No w wr ∧ cmpS (L.drop k) (M.drop k) = cmpS L M) (fun i _ => L.length - (intOf i).toNat)
  case atStart => exact ⟨0, Nat.zero_le _, Nat.zero_le _, rfl, Kp.refl _ _, rfl⟩
  case round =>
    obtain ⟨k, hk, hk', rfl, hkp, hF⟩ := hrel
    by_cases h1 : k < L.length
    · by_cases h2 : k < M.length
      · have hk0 : (0 : Int) ≤ (k : Int) := by omega
        have hk1 : (k : Int) < (L.length : Int) := by omega
        have hk2 : (k : Int) < (M.length : Int) := by omega
        obtain ⟨g, o, c', e1, hxx⟩ := (HV.out.no hkp).at_ h1
        have hx := hxx k _ (List.getElem?_eq_getElem h1)
        obtain ⟨g2, o2, d', e2, hyy⟩ := (HU.out.no hkp).at_ h2
        have hy := hyy k _ (List.getElem?_eq_getElem h2)
        clear hxx hyy
        injection e1 with e1 _ e1c; injection e2 with e2 _ e2c
        subst e1 e2 e1c e2c
        rw [cmpS_step h1 h2] at hF
        generalize L[k] = x at *
        generalize M[k] = y at *
        rcases cmpI_cases x y with ⟨e, hc⟩ | ⟨e, hc⟩ | ⟨e, hc⟩
        · rw [if_pos hc] at hF
          have HF := Lib.hid hF; clear hF e
          go_wp2
          go_quiet (fail)
          go_wp2
          go_ret
          exact ⟨ret_int rfl HF.out, hkp.drewN _⟩
        · rw [if_neg (by omega), if_pos hc] at hF
          have HF := Lib.hid hF; clear hF e
          have hc2 : ¬ x < y := by omega
          go_wp2
          go_quiet (fail)
          go_wp2
          go_quiet (fail)
          go_wp2
          go_ret
          exact ⟨ret_int rfl HF.out, (hkp.drewN _).drewN _⟩
        · subst hc
          rw [if_neg (by omega), if_neg (by omega)] at hF
          have HF := Lib.hid hF; clear hF e
          have hc2 : ¬ x < x := by omega
          go_wp2
          go_quiet (fail)
          go_wp2
          go_quiet (fail)
          go_wp2
          go_roundw
          case rel => exact ⟨k + 1, by omega, by omega, by go_num, hkp.drewN _, HF.out⟩
          case measure => simp [intOf]; omega
      · have h1' : (k : Int) < L.length := by omega
        have h2' : ¬ (k : Int) < M.length := by omega
        have h3 : ¬ L.length < M.length := by omega
        have h4 : M.length < L.length := by omega
        have h3' : ¬ (L.length : Int) < M.length := by omega
        have h4' : (M.length : Int) < L.length := by omega
        rw [cmpS_end2 h1 (by omega)] at hF
        have HF := Lib.hid hF; clear hF
        go_wp2
        go_ret
        exact ⟨ret_int rfl HF.out, hkp⟩
    · have hks : k = L.length := by omega
      have h1' : ¬ (k : Int) < L.length := by omega
      by_cases h2 : L.length < M.length
      · have h2' : (L.length : Int) < M.length := by omega
        rw [cmpS_end1 (by omega) (by omega)] at hF
        have HF := Lib.hid hF; clear hF hks
        go_wp2
        go_ret
        exact ⟨ret_int rfl HF.out, hkp⟩
      · have h2' : ¬ (L.length : Int) < M.length := by omega
        have h3 : ¬ M.length < L.length := by omega
        have h3' : ¬ (M.length : Int) < L.length := by omega
        rw [cmpS_end0 (by omega) (by omega)] at hF
        have HF := Lib.hid hF; clear hF hks
        go_wp2
        go_ret
        exact ⟨ret_int rfl HF.out, hkp⟩

theorem runderS_any (v u : Value) (L M : List Int) (w : World) (hv : ArgInts w v L) (hu : ArgInts w u M) (hl : L.length ≤ maxLen) (hm : M.length ≤ maxLen) :
    Calls Tryd.prog 20 #[v, u] w fun e w' => e = .returned (.bool (underS L M)) ∧ Kp No w w' := by
  have HV := Lib.hid hv; have HU := Lib.hid hu
  obtain ⟨A, c, rfl, hc, _⟩ := hv
  obtain ⟨B, d, rfl, hd, _⟩ := hu
  go_enter Tryd.func20, Tryd.ntmps20
  by_cases hle : L.length ≤ M.length
  · have hle2 : L.length ≤ d := by omega
    have hle3 : ¬ M.length < L.length := by omega
    have hle4 : ¬ (M.length : Int) < L.length := by omega
    have HT := Lib.hid (HU.out.take L.length hle)
    have HM := Lib.hid (show (M.take L.length).length ≤ maxLen by rw [List.length_take]; omega)
    have HS := Lib.hid (show underS L M = decide (cmpS L (M.take L.length) = 0) by unfold underS; rw [decide_eq_true hle]; simp)
    go_wp2_with fail
    refine (rcompareS_any _ _ _ _ _ HV.out HT.out hl HM.out).mono ?_
    rintro e w' ⟨rfl, hk⟩
    obtain ⟨x, hx⟩ : ∃ x, cmpS L (M.take L.length) = x := ⟨_, rfl⟩
    rw [hx]
    have HX := Lib.hid hx; clear hx
    go_wp2
    go_ret
    exact ⟨ret_bool rfl (by rw [HS.out, HX.out]; rfl), hk⟩
  · have hle2 : M.length < L.length := by omega
    have hle3 : (M.length : Int) < L.length := by omega
    have HS := Lib.hid (show underS L M = false by unfold underS; rw [decide_eq_false hle]; simp)
    go_wp2
    go_ret
    exact ⟨ret_bool rfl HS.out.symm, Kp.refl _ _⟩

theorem take_sn (L : List Int) {k : Nat} (hk : k < L.length) : ints (L.take (k + 1)) = ints (L.take k) ++ [.int .i64 L[k]] := by
  rw [List.take_succ_eq_append_getElem hk, ints_append]; rfl
set_option maxHeartbeats 1000000 in
theorem copyS_any (v : Value) (L : List Int) (w : World) (hv : ArgInts w v L) (hl : L.length ≤ 17592186043904) :
    Calls Tryd.prog 35 #[v] w fun e w' => ∃ r, e = .returned r ∧ OwnI w w' r L ∧ Kp No w w' := by
  have HV := Lib.hid hv
  obtain ⟨A, c, rfl, hc, _⟩ := hv
  go_enter Tryd.func35, Tryd.ntmps35
  go_wp2
  go_loopw [4, 3] (fun i o wr => ∃ k : Nat, k ≤ L.length ∧ i = .int .i64 k ∧ wr.ownsRow w.heap.size 3 1 o k (ints (L.take k)) ∧ Kp No w wr) (fun i _ _ => L.length - (intOf i).toNat)
  case atStart => exact ⟨0, Nat.zero_le _, rfl, nil_own _ _ _ _, Kp.refl _ _⟩
  case round =>
    obtain ⟨k, hk, rfl, hown, hkp⟩ := hrel
    by_cases hlt : k < L.length
    · have hk0 : (0 : Int) ≤ (k : Int) := by omega
      have hk1 : (k : Int) < (L.length : Int) := by omega
      obtain ⟨g, o, c', e1, hxx⟩ := (HV.out.no hkp).at_ hlt
      have hx := hxx k _ (List.getElem?_eq_getElem hlt)
      clear hxx
      injection e1 with e1 _ e1c
      subst e1 e1c
      have HT := Lib.hid (take_sn L hlt)
      generalize L[k] = x at *
      have hsz := hkp.size
      go_wp2_with (at_builtin; refine wpList_app1 _ rfl _ _ 22 rfl w.heap.size 3 _ 1 8 Tryd.underlying22 Tryd.infoInt rfl (by omega) _ k (ints (L.take k)) rfl (hown.alloc _) _ _ _ rfl (Bk.new' (by simp) rfl) rfl (by simp [Value.oneCell']) (by omega) (by omega) (by simp; omega) ?_; intro g2 cap2 w2 hown2 hk2 hat2)
      have hk4 := (hkp.alloc (.cells #[.int .i64 x] 3)).then_ hk2 fun i hi e => by have := hown.lt i e; omega
      go_roundw
      case rel => exact ⟨k + 1, by omega, by go_num, by rw [HT.out]; exact hown2, hk4⟩
      case measure => simp [intOf]; omega
    · have hk' : k = L.length := by omega
      have hT : L.take k = L := by rw [hk', List.take_length]
      rw [hT, hk'] at hown
      have HO := Lib.hid hown
      clear hk' hT hown
      have hk1 : ¬ (k : Int) < (L.length : Int) := by omega
      go_wp2
      go_ret
      exact ⟨_, rfl, HO.out, hkp⟩
theorem rlaterS_any (v u : Value) (L M : List Int) (w : World) (hv : ArgInts w v L) (hu : ArgInts w u M) (hl : L.length ≤ 17592186043904) (hm : M.length ≤ 17592186043904) :
    Calls Tryd.prog 23 #[v, u] w fun e w' => ∃ r, e = .returned r ∧ OwnI w w' r (laterS L M) ∧ Kp No w w' := by
  have HV := Lib.hid hv; have HU := Lib.hid hu
  obtain ⟨A, c, rfl, hc, _⟩ := hv
  obtain ⟨B, d, rfl, hd, _⟩ := hu
  go_enter Tryd.func23, Tryd.ntmps23
  go_wp2_with fail
  refine (rcompareS_any _ _ _ _ _ HV.out HU.out (by unfold maxLen; omega) (by unfold maxLen; omega)).mono ?_
  rintro e w1 ⟨rfl, hk⟩
  have HS := Lib.hid (show laterS L M = if cmpS L M < 0 then M else L from rfl)
  obtain ⟨x, hx⟩ : ∃ x, cmpS L M = x := ⟨_, rfl⟩
  rw [hx] at HS ⊢
  clear hx
  have HK := Lib.hid hk
  have hsz := hk.size
  clear hk
  by_cases h0 : x < 0
  · go_wp2_with fail
    refine (copyS_any _ _ _ (HU.out.no HK.out) hm).mono ?_
    rintro e w2 ⟨r, rfl, hr, hk2⟩
    go_wp2
    go_ret
    exact ⟨_, rfl, by rw [HS.out, if_pos h0]; exact own_mono hr hsz, HK.out.trans hk2⟩
  · go_wp2_with fail
    refine (copyS_any _ _ _ (HV.out.no HK.out) hl).mono ?_
    rintro e w2 ⟨r, rfl, hr, hk2⟩
    go_wp2
    go_ret
    exact ⟨_, rfl, by rw [HS.out, if_neg (by omega)]; exact own_mono hr hsz, HK.out.trans hk2⟩

set_option maxHeartbeats 1000000 in
theorem rextS_any (v : Value) (L : List Int) (n : Int) (w : World) (hv : ArgInts w v L) (hl : L.length ≤ maxLen) :
    Calls Tryd.prog 24 #[v, .int .i64 n] w fun e w' => ∃ r, e = .returned (.tuple #[r, .int .i64 (extS L n).2]) ∧ OwnI w w' r (extS L n).1 ∧ Kp No w w' := by
  have HV := Lib.hid hv
  obtain ⟨A, c, rfl, hc, _⟩ := hv
  go_enter Tryd.func24, Tryd.ntmps24
  go_wp2_with fail
  refine (rvalidS_any _ _ _ HV.out hl).mono ?_
  rintro e w' ⟨rfl, rfl⟩
  cases hvs : validS L with
  | false =>
    have HX := Lib.hid (show extS L n = ([], 13) by unfold extS; rw [if_pos hvs]); clear hvs
    go_wp2
    go_ret2
    exact ⟨_, by rw [HX.out]; rfl, by rw [HX.out]; exact OwnI.nil _ _, Kp.refl _ _⟩
  | true =>
    have hl4 : L.length ≤ 4 := by unfold validS at hvs; simp only [Bool.and_eq_true, decide_eq_true_eq] at hvs; exact hvs.1
    by_cases h4 : L.length = 4
    · have h4' : ((L.length : Int) == 4) = true := by simp [h4]
      have HX := Lib.hid (show extS L n = ([], 14) by unfold extS; rw [if_neg (by rw [hvs]; decide), if_pos h4]); clear hvs h4
      go_wp2
      go_ret2
      exact ⟨_, by rw [HX.out]; rfl, by rw [HX.out]; exact OwnI.nil _ _, Kp.refl _ _⟩
    · have h4' : ((L.length : Int) == 4) = false := by simp; omega
      have HX := Lib.hid (show extS L n = if okN n = false then ([], 66) else (L ++ [n], 0) by unfold extS; rw [if_neg (by rw [hvs]; decide), if_neg h4]); clear hvs
      by_cases h1 : n < 1
      · rw [if_pos (by unfold okN; simp; omega)] at HX
        go_wp2
        go_ret2
        exact ⟨_, by rw [HX.out]; rfl, by rw [HX.out]; exact OwnI.nil _ _, Kp.refl _ _⟩
      · by_cases h2 : 1099511627776 < n
        · rw [if_pos (by unfold okN; simp; omega)] at HX
          go_wp2
          go_ret2
          exact ⟨_, by rw [HX.out]; rfl, by rw [HX.out]; exact OwnI.nil _ _, Kp.refl _ _⟩
        · rw [if_neg (by unfold okN; simp; omega)] at HX
          go_wp2_with fail
          refine (copyS_any _ _ _ HV.out (by omega)).mono ?_
          rintro e w1 ⟨r, rfl, hr, hk1⟩
          have hr' : w1.ownsRow w.heap.size 3 1 r L.length (ints L) := hr
          have hsz := hk1.size
          go_wp2_with (at_builtin; refine wpList_app1 _ rfl _ _ 22 rfl w.heap.size 3 _ 1 8 Tryd.underlying22 Tryd.infoInt rfl (by omega) _ L.length (ints L) rfl (hr'.alloc _) _ _ _ rfl (Bk.new' (by simp) rfl) rfl (by simp [Value.oneCell']) (by omega) (by omega) (by simp; omega) ?_; intro g2 cap2 w2 hown2 hk2 hat2)
          have hk4 := (hk1.alloc (.cells #[.int .i64 n] 3)).then_ hk2 fun i hi e => by have := hr'.lt i e; omega
          go_ret2
          exact ⟨_, by rw [HX.out]; rfl, by unfold OwnI; rw [HX.out]; simpa [ints_append, ints] using hown2, hk4⟩

set_option maxHeartbeats 1000000 in
theorem rnextS_any (v : Value) (L : List Int) (w : World) (hv : ArgInts w v L) (hl : L.length ≤ maxLen) :
    Calls Tryd.prog 25 #[v] w fun e w' => ∃ r, e = .returned (.tuple #[r, .int .i64 (nextS L).2]) ∧ OwnI w w' r (nextS L).1 ∧ Kp No w w' := by
  have HV := Lib.hid hv
  obtain ⟨A, c, rfl, hc, _⟩ := hv
  go_enter Tryd.func25, Tryd.ntmps25
  go_wp2_with fail
  refine (rvalidS_any _ _ _ HV.out hl).mono ?_
  rintro e w' ⟨rfl, rfl⟩
  cases hvs : validS L with
  | false =>
    have HX := Lib.hid (nextS_no (L := L) (.inr hvs)); clear hvs
    go_wp2
    go_ret2
    exact ⟨_, by rw [HX.out]; rfl, by rw [HX.out]; exact OwnI.nil _ _, Kp.refl _ _⟩
  | true =>
    by_cases h0 : L.length = 0
    · have h0' : ((L.length : Int) == 0) = true := by simp [h0]
      have HX := Lib.hid (nextS_no (L := L) (.inl (List.eq_nil_of_length_eq_zero h0))); clear hvs h0
      go_wp2
      go_ret2
      exact ⟨_, by rw [HX.out]; rfl, by rw [HX.out]; exact OwnI.nil _ _, Kp.refl _ _⟩
    · obtain ⟨k, hk⟩ : ∃ k, L.length = k + 1 := ⟨L.length - 1, by omega⟩
      have HLK := Lib.hid hk
      have hN := nextS_last HLK.out hvs
      have hkl : k < L.length := by omega
      have hok : okN (L.getD k 0) = true := by
        unfold validS at hvs
        simp only [Bool.and_eq_true] at hvs
        rw [List.getD_eq_getElem?_getD, List.getElem?_eq_getElem hkl]
        exact List.all_eq_true.1 hvs.2 _ (List.getElem_mem hkl)
      have hl4 : k + 1 ≤ 4 := by
        have := hvs; unfold validS at this; simp only [Bool.and_eq_true, decide_eq_true_eq] at this
        have := HLK.out; omega
      clear hvs
      have hcell : ∃ g o, A = some ⟨g, o, none⟩ ∧ w.cell? ⟨g, o + k, none⟩ = some (.int .i64 (L.getD k 0)) := by
        obtain ⟨g, o, c', e1, hxx⟩ := HV.out.at_ hkl
        injection e1 with e1 _ e1c
        exact ⟨g, o, e1, hxx k _ (by rw [List.getD_eq_getElem?_getD, List.getElem?_eq_getElem hkl]; rfl)⟩
      obtain ⟨g, o, rfl, hcell⟩ := hcell
      have HNX : Hid (nextS L = if L.getD k 0 = 1099511627776 then ([], 66) else (L.set k (L.getD k 0 + 1), 0)) := hN
      have HG := Lib.hid (show (ints L)[k]? = some (.int .i64 (L.getD k 0)) by rw [ints_get, List.getD_eq_getElem?_getD, List.getElem?_eq_getElem hkl]; rfl)
      unfold okN at hok
      simp only [decide_eq_true_eq] at hok
      obtain ⟨x1, x2⟩ := hok
      generalize L.getD k 0 = x at *
      clear hN
      have hk0 : (0 : Int) ≤ (k : Int) := by omega
      have hk1 : (k : Int) < (k : Int) + 1 := by omega
      have h0' : ((L.length : Int) == 0) = false := beq_eq_false_iff_ne.2 (by omega)
      have hls : (L.length : Int) - 1 = (k : Int) := by omega
      have hkl' : (k : Int) < (L.length : Int) := by omega
      clear hk h0
      by_cases hx : x = 1099511627776
      · have hxb : (x == 1099511627776) = true := by simp [hx]
        have HXX := Lib.hid hx; clear hx
        go_wp2
        go_ret2
        exact ⟨_, by rw [HNX.out, if_pos HXX.out]; rfl, by rw [HNX.out, if_pos HXX.out]; exact OwnI.nil _ _, Kp.refl _ _⟩
      · have hxb : (x == 1099511627776) = false := by simp [hx]
        rw [if_neg hx] at HNX
        have hxl : x + 1 ≤ 9223372036854775807 := by omega
        clear hx
        go_wp2_with fail
        refine (copyS_any _ L _ HV.out (by have := HLK.out; omega)).mono ?_
        rintro e w1 ⟨r, rfl, hr, hkp⟩
        unfold OwnI at hr
        obtain ⟨g2, cap2, rfl, hc2, hb2, hlt2⟩ := own_form hr (by have := HLK.out; omega)
        have hcx : w1.cell? ⟨g2, k, none⟩ = some (.int .i64 x) := by rw [hr.cellAt k (by have := HLK.out; omega)]; exact HG.out
        have hfx := hr.frozenAt k
        have hst := (hr.stored k (.int .i64 (x + 1))).1
        rw [ints_set] at hst
        have HST := Lib.hid hst
        have HKK := Lib.hid (hkp.set (g := g2) (.inr hb2) k (.int .i64 (x + 1)))
        clear hr hst hkp
        go_wp2
        go_ret2
        refine ⟨_, by rw [HNX.out]; rfl, ?_, HKK.out⟩
        unfold OwnI
        rw [HNX.out]
        simp only [List.length_set]
        exact HST.out

/-! the law's -/
theorem ownS_any (v : Value) (L : List Int) (w : World) (hv : ArgInts w v L) (hl : L.length ≤ 17592186043904) :
    Calls Tryd.prog 15 #[v] w fun e w' => ∃ r, e = .returned r ∧ OwnI w w' r L ∧ Kp No w w' := by
  have HV := Lib.hid hv
  obtain ⟨A, c, rfl, hc, _⟩ := hv
  go_enter Tryd.func15, Tryd.ntmps15
  go_wp2_with (at_builtin; refine wpList_appV _ rfl _ _ 22 rfl w.heap.size 3 _ 8 Tryd.underlying22 Tryd.infoInt rfl _ 0 [] rfl (own_fresh _ _ _ (Nat.le_refl _)) A L.length c (ints L) rfl (by simp) (by exact (HV.out.no ((Kp.refl No _).alloc _)).cs.1) (ints_one _) (by omega) (by omega) (by simp) ?_; intro v1 w1 hown1 hk1 hat1; simp only [Nat.zero_add, List.nil_append] at hown1)
  have hk3 := ((Kp.refl No w).alloc (.cells #[] 3)).then_ hk1 fun i hi e => by
    have e : Value.ownBlock (.slice (some ⟨w.heap.size, 0, none⟩) 0 0) = some i := e
    simp [Value.ownBlock] at e; omega
  go_ret
  exact ⟨_, rfl, hown1, hk3⟩

theorem ints_inj {L M : List Int} (h : ints L = ints M) : L = M := by
  induction L generalizing M with
  | nil => cases M with
    | nil => rfl
    | cons a M => simp [ints] at h
  | cons a L ih => cases M with
    | nil => simp [ints] at h
    | cons b M =>
      simp only [ints, List.map_cons, List.cons.injEq, Value.int.injEq, true_and] at h
      rw [h.1, ih h.2]
set_option maxHeartbeats 1000000 in
set_option maxRecDepth 100000 in
theorem sameS_any (v u : Value) (L M : List Int) (w : World) (hv : ArgInts w v L) (hu : ArgInts w u M) (hL : L.length ≤ maxLen) :
    Calls Tryd.prog 21 #[v, u] w fun e w' => e = .returned (.bool (decide (L = M))) ∧ Kp No w w' := by
  unfold maxLen at hL
  have HV := Lib.hid hv; have HU := Lib.hid hu
  obtain ⟨A, c, rfl, hc, hcs⟩ := hv
  obtain ⟨B, d, rfl, hd, hds⟩ := hu
  clear hcs hds
  go_enter Tryd.func21, Tryd.ntmps21
  by_cases hl : L.length = M.length
  · have hne : ((L.length : Int) == (M.length : Int)) = true := by simp [hl]
    have hnb : ((L.length : Int) != (M.length : Int)) = false := by simp [hl]
    have HL := Lib.hid hl; clear hl
    go_wp2
    go_loopw [13] (fun i wr => ∃ k : Nat, k ≤ L.length ∧ i = .int .i64 k ∧ Kp No w wr ∧ L.take k = M.take k) (fun i _ => L.length - (intOf i).toNat)
    case atStart => exact ⟨0, Nat.zero_le _, rfl, Kp.refl _ _, rfl⟩
    case round =>
      obtain ⟨k, hk, rfl, hkp, hF⟩ := hrel
      have HF := Lib.hid hF; clear hF
      by_cases hlt : k < L.length
      · have hlm : k < M.length := by have := HL.out; omega
        have hk0 : (0 : Int) ≤ (k : Int) := by omega
        have hk1 : (k : Int) < (L.length : Int) := by omega
        have hk2 : (k : Int) < (M.length : Int) := by omega
        obtain ⟨g, o, c', e1, hxx⟩ := (HV.out.no hkp).at_ hlt
        obtain ⟨g2, o2, d', e2, hyy⟩ := (HU.out.no hkp).at_ hlm
        have hx := hxx k _ (List.getElem?_eq_getElem hlt)
        have hy := hyy k _ (List.getElem?_eq_getElem hlm)
        clear hxx hyy
        injection e1 with e1 _ e1c; injection e2 with e2 _ e2c
        subst e1 e2 e1c e2c
        have HT := Lib.hid (List.take_succ_eq_append_getElem hlt)
        have HT2 := Lib.hid (List.take_succ_eq_append_getElem hlm)
        have HM := Lib.hid (show L[k] ≠ M[k] → L ≠ M from fun hne e => hne (by subst e; rfl))
        generalize L[k] = x at *
        generalize M[k] = y at *
        by_cases hxy : x = y
        · subst hxy
          go_wp2
          go_quiet (fail)
          go_wp2
          go_roundw
          case rel => exact ⟨k + 1, by omega, by go_num, (hkp.drewN _), by rw [HT.out, HT2.out, HF.out]⟩
          case measure => simp [intOf]; omega
        · have f1 : (x == y) = false := by simp [hxy]
          have f2 : (x != y) = true := by simp [hxy]
          have HX := Lib.hid hxy; clear hxy
          go_wp2
          go_quiet (fail)
          go_wp2
          go_ret
          exact ⟨ret_bool rfl (decide_eq_false (HM.out HX.out)).symm, (hkp.drewN _)⟩
      · have hk' : k = L.length := by omega
        have hE : L = M := by
          have := HF.out
          rwa [hk', List.take_length, HL.out, List.take_length] at this
        have HE := Lib.hid hE; clear hE hk'
        have hk1 : ¬ (k : Int) < (L.length : Int) := by omega
        go_wp2
        go_ret
        exact ⟨ret_bool rfl (decide_eq_true HE.out).symm, hkp⟩
  · have hne : ((L.length : Int) == (M.length : Int)) = false := by simp; omega
    have hnb : ((L.length : Int) != (M.length : Int)) = true := by simp; omega
    have HL := Lib.hid hl; clear hl
    go_wp2
    go_ret
    exact ⟨ret_bool rfl (decide_eq_false (fun e => HL.out (by rw [e]))).symm, Kp.refl _ _⟩
theorem sameS_eq (v u : Value) (L M : List Int) (w : World) (hv : ArgInts w v L) (hu : ArgInts w u M) (hL : L.length ≤ maxLen) (h : L = M) :
    Calls Tryd.prog 21 #[v, u] w fun e w' => e = .returned (.bool true) ∧ Kp No w w' := by
  have := sameS_any v u L M w hv hu hL
  rwa [decide_eq_true h] at this
end Go.Proofs.YtfbogdeodpkhcaaDoor
