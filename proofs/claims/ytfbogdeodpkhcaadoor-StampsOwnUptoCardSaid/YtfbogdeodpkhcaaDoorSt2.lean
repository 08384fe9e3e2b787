/- The program's stamps: Compare, Under, Later, Extend, Next, by contracts. No condition beyond what each theorem states. -/
import Derived.Test.YtfbogdeodpkhcaaDoorSt
namespace Go.Proofs.YtfbogdeodpkhcaaDoor
open Go Go.RowKit Go.PlainAid

theorem Tryd.infoInt : (Tryd.prog.info? 3).map (fun i => (i.zero, i.size, i.bytes)) = some (some (.int .i64 0), 1, 8) := by kernel_rfl
/-- a list of ints of the call's own -/
def OwnI (w w' : World) (v : Value) (L : List Int) : Prop := w'.ownsRow w.heap.size 3 1 v L.length (ints L)
theorem OwnI.arg {w w' : World} {v : Value} {L : List Int} (h : OwnI w w' v L) : ArgInts w' v L := own_argI h
theorem OwnI.nil (w w' : World) : OwnI w w' (.slice none 0 0) [] := nil_own _ _ _ _

theorem compareS_any (v u : Value) (L M : List Int) (w : World) (hv : ArgInts w v L) (hu : ArgInts w u M) (hl : L.length ≤ maxLen) (hm : M.length ≤ maxLen) :
    Calls Tryd.prog 17 #[v, u] w fun e w' => e = .returned (.int .i64 (cmpS L M)) ∧ Kp No w w' := by
  have HV := Lib.hid hv; have HU := Lib.hid hu
  clear hv hu
  go_enter Tryd.func17, Tryd.ntmps17
  go_wp2_with fail
  refine (inOrder_any _ _ _ _ _ HV.out HU.out hl hm).mono ?_
  rintro e w' ⟨rfl, hk⟩
  go_wp2
  go_ret
  exact ⟨rfl, hk⟩
theorem underS_any (v u : Value) (L M : List Int) (w : World) (hv : ArgInts w v L) (hu : ArgInts w u M) (hl : L.length ≤ maxLen) (hm : M.length ≤ maxLen) :
    Calls Tryd.prog 19 #[v, u] w fun e w' => e = .returned (.bool (underS L M)) ∧ Kp No w w' := by
  have HV := Lib.hid hv; have HU := Lib.hid hu
  obtain ⟨A, c, rfl, hc, _⟩ := hv
  obtain ⟨B, d, rfl, hd, _⟩ := hu
  go_enter Tryd.func19, Tryd.ntmps19
  by_cases hle : L.length ≤ M.length
  · have hle2 : L.length ≤ d := by omega
    have HT := Lib.hid (HU.out.take L.length hle)
    have HM := Lib.hid (show (M.take L.length).length ≤ maxLen by rw [List.length_take]; omega)
    have HS := Lib.hid (show underS L M = decide (cmpS L (M.take L.length) = 0) by unfold underS; rw [decide_eq_true hle]; simp)
    go_wp2_with fail
    refine (inOrder_any _ _ _ _ _ HV.out HT.out hl HM.out).mono ?_
    rintro e w' ⟨rfl, hk⟩
    obtain ⟨x, hx⟩ : ∃ x, cmpS L (M.take L.length) = x := ⟨_, rfl⟩
    rw [hx]
    have HX := Lib.hid hx; clear hx
    go_wp2
    go_ret
    exact ⟨ret_bool rfl (by rw [HS.out, HX.out]; rfl), hk⟩
  · have hle2 : ¬ (L.length : Int) ≤ M.length := by omega
    have HS := Lib.hid (show underS L M = false by unfold underS; rw [decide_eq_false hle]; simp)
    go_wp2
    go_ret
    exact ⟨ret_bool rfl HS.out.symm, Kp.refl _ _⟩
set_option maxHeartbeats 1000000 in
theorem laterS_any (v u : Value) (L M : List Int) (w : World) (hv : ArgInts w v L) (hu : ArgInts w u M) (hl : L.length ≤ 17592186044416) (hm : M.length ≤ 17592186044416) :
    Calls Tryd.prog 22 #[v, u] w fun e w' => ∃ r, e = .returned r ∧ OwnI w w' r (laterS L M) ∧ Kp No w w' := by
  have HV := Lib.hid hv; have HU := Lib.hid hu
  obtain ⟨A, c, rfl, hc, _⟩ := hv
  obtain ⟨B, d, rfl, hd, _⟩ := hu
  go_enter Tryd.func22, Tryd.ntmps22
  go_wp2_with fail
  refine (inOrder_any _ _ _ _ _ HV.out HU.out (by unfold maxLen; omega) (by unfold maxLen; omega)).mono ?_
  rintro e w1 ⟨rfl, hk⟩
  have HS := Lib.hid (show laterS L M = if cmpS L M < 0 then M else L from rfl)
  obtain ⟨x, hx⟩ : ∃ x, cmpS L M = x := ⟨_, rfl⟩
  rw [hx] at HS ⊢
  clear hx
  have HK := Lib.hid hk
  have hsz := hk.size
  clear hk
  by_cases h0 : x < 0
  · go_wp2_with (at_builtin; refine wpList_appV _ rfl _ _ 22 rfl w.heap.size 3 _ 8 Tryd.underlying22 Tryd.infoInt rfl _ 0 [] rfl (nil_own _ _ _ _) B M.length d (ints M) rfl (by simp) (by exact (HU.out.no HK.out).cs.1) (ints_one _) (by omega) (by omega) (by simpa using hsz) ?_; intro v' w2 hown hk2 hat)
    have hkk := HK.out.then_ hk2 fun i hi e => by cases e
    go_ret
    exact ⟨_, rfl, by unfold OwnI; rw [HS.out, if_pos h0]; simpa using hown, hkk⟩
  · go_wp2_with (at_builtin; refine wpList_appV _ rfl _ _ 22 rfl w.heap.size 3 _ 8 Tryd.underlying22 Tryd.infoInt rfl _ 0 [] rfl (nil_own _ _ _ _) A L.length c (ints L) rfl (by simp) (by exact (HV.out.no HK.out).cs.1) (ints_one _) (by omega) (by omega) (by simpa using hsz) ?_; intro v' w2 hown hk2 hat)
    have hkk := HK.out.then_ hk2 fun i hi e => by cases e
    go_ret
    exact ⟨_, rfl, by unfold OwnI; rw [HS.out, if_neg (by omega)]; simpa using hown, hkk⟩
set_option maxHeartbeats 1000000 in
theorem extS_any (v : Value) (L : List Int) (n : Int) (w : World) (hv : ArgInts w v L) (hl : L.length ≤ maxLen) :
    Calls Tryd.prog 11 #[v, .int .i64 n] w fun e w' => ∃ r, e = .returned (.tuple #[r, .int .i64 (extS L n).2]) ∧ OwnI w w' r (extS L n).1 ∧ Kp No w w' := by
  have HV := Lib.hid hv
  obtain ⟨A, c, rfl, hc, _⟩ := hv
  go_enter Tryd.func11, Tryd.ntmps11
  go_wp2_with fail
  refine (validS_any _ _ _ HV.out hl).mono ?_
  rintro e w' ⟨rfl, rfl⟩
  cases hvs : validS L with
  | false =>
    have HX := Lib.hid (show extS L n = ([], 13) by unfold extS; rw [if_pos hvs]); clear hvs
    go_wp2
    go_ret2
    exact ⟨_, by rw [HX.out]; rfl, by rw [HX.out]; exact OwnI.nil _ _, Kp.refl _ _⟩
  | true =>
    have hl4 : L.length ≤ 4 := by unfold validS at hvs; simp only [Bool.and_eq_true, decide_eq_true_eq] at hvs; exact hvs.1
    by_cases h4 : L.length = 4
    · have h4' : ((L.length : Int) == 4) = true := by simp [h4]
      have HX := Lib.hid (show extS L n = ([], 14) by unfold extS; rw [if_neg (by rw [hvs]; decide), if_pos h4]); clear hvs h4
      go_wp2
      go_ret2
      exact ⟨_, by rw [HX.out]; rfl, by rw [HX.out]; exact OwnI.nil _ _, Kp.refl _ _⟩
    · have h4' : ((L.length : Int) == 4) = false := by simp; omega
      have HX := Lib.hid (show extS L n = if okN n = false then ([], 66) else (L ++ [n], 0) by unfold extS; rw [if_neg (by rw [hvs]; decide), if_neg h4]); clear hvs
      go_wp2_with fail
      refine (counts_any _ _).mono ?_
      rintro e w' ⟨rfl, rfl⟩
      cases hok : okN n with
      | false =>
        rw [if_pos hok] at HX; clear hok
        go_wp2
        go_ret2
        exact ⟨_, by rw [HX.out]; rfl, by rw [HX.out]; exact OwnI.nil _ _, Kp.refl _ _⟩
      | true =>
        rw [if_neg (by rw [hok]; decide)] at HX; clear hok
        obtain ⟨i0, hi0, hz0, hz1, hz2⟩ := info_parts Tryd.infoInt
        have hmk := fun W => mk_run0 (P := Tryd.prog) 22 3 i0 _ Tryd.underlying22 hi0 hz0 (.int .i64 0) rfl hz1 (L.length + 1) (by rw [hz2]; omega) (by omega) W
        rw [show ((L.length + 1 : Nat) : Int) = (L.length : Int) + 1 by omega] at hmk
        go_wp2_with (first | (at_builtin; refine wpList_appV _ rfl _ _ 22 rfl w.heap.size 3 _ 8 Tryd.underlying22 Tryd.infoInt rfl _ 0 [] rfl (own_made0 _ _ _ _ _ (Nat.le_refl _) (by unfold maxLen; omega)) A L.length c (ints L) rfl (by simp) (by exact (HV.out.no ((Kp.refl No _).alloc _)).cs.1) (ints_one _) (by omega) (by omega) (by simp) ?_; intro v1 w1 hown1 hk1 hat1; simp only [Nat.zero_add, List.nil_append] at hown1) | (at_builtin; refine wpList_app1 _ rfl _ _ 22 rfl w.heap.size 3 _ 1 8 Tryd.underlying22 Tryd.infoInt rfl (by omega) _ L.length (ints L) rfl (hown1.alloc _) _ _ _ rfl (Bk.new' (by simp) rfl) rfl (by simp [Value.oneCell']) (by omega) (by omega) (by have h1 := hk1.size; simp at h1 ⊢; omega) ?_; intro g2 cap2 w2 hown2 hk2 hat2))
        have hk3 := ((Kp.refl No w).alloc (.cells (List.replicate (L.length + 1) (.int .i64 0)).toArray 3)).then_ hk1 fun i hi e => by
          have e : Value.ownBlock (.slice (some ⟨w.heap.size, 0, none⟩) 0 (L.length + 1)) = some i := e
          simp [Value.ownBlock] at e; omega
        have hk4 := (hk3.alloc (.cells #[.int .i64 n] 3)).then_ hk2 fun i hi e => by
          have := hown1.lt i e; omega
        go_ret2
        exact ⟨_, by rw [HX.out]; rfl, by unfold OwnI; rw [HX.out]; simpa [ints_append, ints] using hown2, hk4⟩
end Go.Proofs.YtfbogdeodpkhcaaDoor
