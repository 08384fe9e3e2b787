/- The program's stamps: Next, by contract. No condition beyond what each theorem states. -/
import Derived.Test.YtfbogdeodpkhcaaDoorSt2
namespace Go.Proofs.YtfbogdeodpkhcaaDoor
open Go Go.RowKit Go.PlainAid

set_option maxHeartbeats 1000000 in
theorem cloneI_any (g o c : Nat) (L : List Int) (w : World) (hv : ArgInts w (.slice (some ⟨g, o, none⟩) L.length c) L) (hl : L.length ≤ 17592186044416) :
    Calls Tryd.prog 31 #[.slice (some ⟨g, o, none⟩) L.length c] w fun e w' => ∃ r, e = .returned r ∧ OwnI w w' r L ∧ Kp No w w' := by
  have HV := Lib.hid hv; clear hv
  have hq := fun W => Lib.run_eql_slice_nil (P := Tryd.prog) W 22 3 (some ⟨g, o, none⟩) L.length c 0 0 Tryd.underlying22
  go_enter Tryd.func31, Tryd.ntmps31
  go_wp2_with (at_builtin; refine wpList_appV _ rfl _ _ 22 rfl w.heap.size 3 _ 8 Tryd.underlying22 Tryd.infoInt rfl _ 0 [] rfl (own_fresh _ _ _ (Nat.le_refl _)) (some ⟨g, o, none⟩) L.length c (ints L) rfl (by simp) (by exact (HV.out.no ((Kp.refl No _).alloc _)).cs.1) (ints_one _) (by omega) (by omega) (by simp) ?_; intro v1 w1 hown1 hk1 hat1; simp only [Nat.zero_add, List.nil_append] at hown1)
  have hk3 := ((Kp.refl No w).alloc (.cells #[] 3)).then_ hk1 fun i hi e => by
    have e : Value.ownBlock (.slice (some ⟨w.heap.size, 0, none⟩) 0 0) = some i := e
    simp [Value.ownBlock] at e; omega
  go_ret
  exact ⟨_, rfl, hown1, hk3⟩

theorem ints_set (L : List Int) (k : Nat) (x : Int) : (ints L).set k (.int .i64 x) = ints (L.set k x) := by simp [ints, List.map_set]
theorem nextS_no {L : List Int} (h : L = [] ∨ validS L = false) : nextS L = ([], 13) := by unfold nextS; rw [if_pos h]
theorem nextS_last {L : List Int} {k : Nat} (hk : L.length = k + 1) (hv : validS L = true) : nextS L = if L.getD k 0 = 1099511627776 then ([], 66) else (L.set k (L.getD k 0 + 1), 0) := by
  unfold nextS
  have h0 : ¬ (L = [] ∨ validS L = false) := by
    rintro (rfl | h)
    · simp at hk
    · rw [hv] at h; cases h
  have e : L.getLast? = some (L.getD k 0) := by
    rw [List.getLast?_eq_getElem?, hk, Nat.add_sub_cancel, List.getD_eq_getElem?_getD, List.getElem?_eq_getElem (by omega)]; rfl
  rw [if_neg h0, e, show L.length - 1 = k by omega]
  simp only [Option.some.injEq]
set_option maxHeartbeats 1000000 in
theorem nextS_any (v : Value) (L : List Int) (w : World) (hv : ArgInts w v L) (hl : L.length ≤ maxLen) :
    Calls Tryd.prog 12 #[v] w fun e w' => ∃ r, e = .returned (.tuple #[r, .int .i64 (nextS L).2]) ∧ OwnI w w' r (nextS L).1 ∧ Kp No w w' := by
  have HV := Lib.hid hv
  obtain ⟨A, c, rfl, hc, _⟩ := hv
  by_cases h0 : L.length = 0
  · have HX := Lib.hid (nextS_no (L := L) (.inl (List.eq_nil_of_length_eq_zero h0)))
    rw [h0]
    go_enter Tryd.func12, Tryd.ntmps12
    clear h0
    go_wp2
    go_ret2
    exact ⟨_, by rw [HX.out]; rfl, by rw [HX.out]; exact OwnI.nil _ _, Kp.refl _ _⟩
  · obtain ⟨k, hk⟩ : ∃ k, L.length = k + 1 := ⟨L.length - 1, by omega⟩
    have hl' : k + 1 ≤ maxLen := by omega
    unfold maxLen at hl'
    have HLK := Lib.hid hk
    rw [hk] at HV hc ⊢
    clear hk h0
    go_enter Tryd.func12, Tryd.ntmps12
    go_wp2_with fail
    have cv := validS_any (.slice A (k + 1) c) L w HV.out hl
    refine cv.mono ?_
    clear cv
    rintro e w' ⟨rfl, rfl⟩
    cases hvs : validS L with
    | false =>
      have HX := Lib.hid (nextS_no (L := L) (.inr hvs)); clear hvs
      go_wp2
      go_ret2
      exact ⟨_, by rw [HX.out]; rfl, by rw [HX.out]; exact OwnI.nil _ _, Kp.refl _ _⟩
    | true =>
      have hN := nextS_last HLK.out hvs
      have hkl : k < L.length := by have := HLK.out; omega
      have hok : okN (L.getD k 0) = true := by
        unfold validS at hvs
        simp only [Bool.and_eq_true] at hvs
        rw [List.getD_eq_getElem?_getD, List.getElem?_eq_getElem hkl]
        exact List.all_eq_true.1 hvs.2 _ (List.getElem_mem hkl)
      have hl4 : k + 1 ≤ 4 := by
        have := hvs; unfold validS at this; simp only [Bool.and_eq_true, decide_eq_true_eq] at this
        have := HLK.out; omega
      clear hvs
      have hcell : ∃ g o, A = some ⟨g, o, none⟩ ∧ w.cell? ⟨g, o + k, none⟩ = some (.int .i64 (L.getD k 0)) := by
        obtain ⟨g, o, c', e1, hxx⟩ := HV.out.at_ hkl
        injection e1 with e1 _ e1c
        exact ⟨g, o, e1, hxx k _ (by rw [List.getD_eq_getElem?_getD, List.getElem?_eq_getElem hkl]; rfl)⟩
      obtain ⟨g, o, rfl, hcell⟩ := hcell
      have HNX : Hid (nextS L = if L.getD k 0 = 1099511627776 then ([], 66) else (L.set k (L.getD k 0 + 1), 0)) := hN
      have HG := Lib.hid (show (ints L)[k]? = some (.int .i64 (L.getD k 0)) by rw [ints_get, List.getD_eq_getElem?_getD, List.getElem?_eq_getElem hkl]; rfl)
      unfold okN at hok
      simp only [decide_eq_true_eq] at hok
      obtain ⟨x1, x2⟩ := hok
      generalize L.getD k 0 = x at *
      clear hN
      have hk0 : (0 : Int) ≤ (k : Int) := by omega
      have hk1 : (k : Int) < (k : Int) + 1 := by omega
      by_cases hx : x = 1099511627776
      · have hxb : (x == 1099511627776) = true := by simp [hx]
        have HXX := Lib.hid hx; clear hx
        go_wp2
        go_ret2
        exact ⟨_, by rw [HNX.out, if_pos HXX.out]; rfl, by rw [HNX.out, if_pos HXX.out]; exact OwnI.nil _ _, Kp.refl _ _⟩
      · have hxb : (x == 1099511627776) = false := by simp [hx]
        rw [if_neg hx] at HNX
        have hxl : x + 1 ≤ 9223372036854775807 := by omega
        clear hx
        go_wp2_with fail
        have cc := cloneI_any g o c L w (by rw [HLK.out]; exact HV.out) (by have := HLK.out; omega)
        rw [HLK.out] at cc
        refine cc.mono ?_
        clear cc
        rintro e w1 ⟨r, rfl, hr, hkp⟩
        unfold OwnI at hr
        rw [HLK.out] at hr
        obtain ⟨g2, cap2, rfl, hc2, hb2, hlt2⟩ := own_form hr (by omega)
        have hcx : w1.cell? ⟨g2, k, none⟩ = some (.int .i64 x) := by rw [hr.cellAt k (by omega)]; exact HG.out
        have hfx := hr.frozenAt k
        have hst := (hr.stored k (.int .i64 (x + 1))).1
        rw [ints_set] at hst
        have HST := Lib.hid hst
        have HKK := Lib.hid (hkp.set (g := g2) (.inr hb2) k (.int .i64 (x + 1)))
        clear hr hst hkp
        go_wp2
        go_ret2
        refine ⟨_, by rw [HNX.out]; rfl, ?_, HKK.out⟩
        unfold OwnI
        rw [HNX.out]
        simp only [List.length_set]
        rw [HLK.out]; exact HST.out
end Go.Proofs.YtfbogdeodpkhcaaDoor
