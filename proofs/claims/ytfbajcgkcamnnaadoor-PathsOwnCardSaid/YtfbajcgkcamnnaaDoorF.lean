/- The reference's Valid, Depth, Covers, Overlap, Meet, Compare, Join and the law's same, by contracts. No condition beyond what each theorem states. -/
import Derived.Test.YtfbajcgkcamnnaaDoorE
namespace Go.Proofs.YtfbajcgkcamnnaaDoor
open Go Go.RowKit Go.PlainAid

theorem RSplit.cases {w w' : World} {l : Bytes} {e : Ending} (h : RSplit w w' l e) : Kp No w w' ∧ ((path l = none ∧ e = .returned (.tuple #[.slice none 0 0, .int .i64 10])) ∨ ∃ P v D, path l = some P ∧ e = .returned (.tuple #[v, .int .i64 0]) ∧ tx D = P ∧ ArgStrs w' v D) := by
  obtain ⟨hk, h⟩ := h
  refine ⟨hk, ?_⟩
  split at h
  · rename_i hp; exact .inl ⟨hp, h⟩
  · rename_i P hp
    obtain ⟨v, D, h1, h2, h3⟩ := h
    exact .inr ⟨P, v, D, hp, h1, h2, h3⟩

theorem rvalid_any (s : ByteArray) (w : World) (hs : s.size < 9223372036854775807) :
    Calls Tryd.prog 16 #[.string s] w fun e w' => e = .returned (.bool (path s.data.toList).isSome) ∧ Kp No w w' := by
  go_enter Tryd.func16, Tryd.ntmps16
  go_wp2_with fail
  refine (rsplit_any _ _ hs).mono ?_
  rintro e w1 hR
  obtain ⟨hk, ⟨hp, rfl⟩ | ⟨P, v, D, hp, rfl, hD, hA⟩⟩ := hR.cases
  · have HP := Lib.hid hp; clear hp hR
    go_wp2
    go_ret
    exact ⟨ret_bool rfl (by rw [HP.out]; rfl), hk⟩
  · have HP := Lib.hid hp; clear hp hR hD hA
    go_wp2
    go_ret
    exact ⟨ret_bool rfl (by rw [HP.out]; rfl), hk⟩

theorem rdepth_any (s : ByteArray) (w : World) (hs : s.size < 9223372036854775807) :
    Calls Tryd.prog 18 #[.string s] w fun e w' => e = .returned (.int .i64 (depthL s.data.toList)) ∧ Kp No w w' := by
  go_enter Tryd.func18, Tryd.ntmps18
  go_wp2_with fail
  refine (rsplit_any _ _ hs).mono ?_
  rintro e w1 hR
  obtain ⟨hk, ⟨hp, rfl⟩ | ⟨P, v, D, hp, rfl, hD, hA⟩⟩ := hR.cases
  · have HP := Lib.hid hp; clear hp hR
    go_wp2
    go_ret
    exact ⟨ret_int rfl (by unfold depthL; rw [HP.out]), hk⟩
  · obtain ⟨A, c, rfl, _, _⟩ := hA
    have HP := Lib.hid hp; have HD := Lib.hid hD; clear hp hR hD
    go_wp2
    go_ret
    refine ⟨?_, hk⟩
    exact ret_int rfl (by unfold depthL; rw [HP.out, ← HD.out]; simp only [tx_length])

/-- a text's cell -/
theorem ArgStrs.at_ {w : World} {v : Value} {L : List ByteArray} (h : ArgStrs w v L) {k : Nat} (hk : k < L.length) : ∃ g o c, v = .slice (some ⟨g, o, none⟩) L.length c ∧ ∀ j x, L[j]? = some x → w.cell? ⟨g, o + j, none⟩ = some (.string x) := by
  obtain ⟨A, c, rfl, hc, hcs⟩ := h
  obtain ⟨g, o, rfl, hr⟩ := hcs (by intro e; simp at e; subst e; simp at hk)
  exact ⟨g, o, c, rfl, fun j x hx => hr j _ (by rw [List.getElem?_map, hx]; rfl)⟩

theorem tx_inj : ∀ {L M : List ByteArray}, tx L = tx M → L = M
  | [], [], _ => rfl
  | [], _ :: _, h => by simp [tx] at h
  | _ :: _, [], h => by simp [tx] at h
  | a :: L, b :: M, h => by
    simp only [tx, List.map_cons, List.cons.injEq] at h
    rw [str_inj h.1, tx_inj h.2]
theorem take_snoc' {α : Type} {l : List α} {k : Nat} (hk : k < l.length) : l.take (k + 1) = l.take k ++ [l[k]] := List.take_succ_eq_append_getElem hk

theorem str_eq_facts (x y : ByteArray) (h : x ≠ y) : (x.toList == y.toList) = false ∧ (x.data.toList == y.data.toList) = false := by
  have : x.data.toList ≠ y.data.toList := fun e => h (str_inj e)
  exact ⟨beq_eq_false_iff_ne.2 (by rw [ByteArray.toList_eq, ByteArray.toList_eq]; exact this), beq_eq_false_iff_ne.2 this⟩

set_option maxHeartbeats 1000000 in
set_option maxRecDepth 100000 in
theorem same_any (v u : Value) (L M : List ByteArray) (w : World) (hv : ArgStrs w v L) (hu : ArgStrs w u M) (hL : L.length ≤ 140737488355328) :
    Calls Tryd.prog 15 #[v, u] w fun e w' => e = .returned (.bool (decide (L = M))) ∧ Kp No w w' := by
  obtain ⟨A, c, rfl, hc, hcs⟩ := id hv
  obtain ⟨B, d, rfl, hd, hds⟩ := id hu
  clear hcs hds
  go_enter Tryd.func15, Tryd.ntmps15
  by_cases hl : L.length = M.length
  · have hne : ((L.length : Int) == (M.length : Int)) = true := by simp [hl]
    have hnb : ((L.length : Int) != (M.length : Int)) = false := by simp [hl]
    have HL := Lib.hid hl; clear hl
    have HV := Lib.hid hv; have HU := Lib.hid hu; clear hv hu
    go_wp2
    go_loopw [13] (fun i wr => ∃ k : Nat, k ≤ L.length ∧ i = .int .i64 k ∧ Kp No w wr ∧ L.take k = M.take k) (fun i _ => L.length - (intOf i).toNat)
    case atStart => exact ⟨0, Nat.zero_le _, rfl, Kp.refl _ _, rfl⟩
    case round =>
      obtain ⟨k, hk, rfl, hkp, hF⟩ := hrel
      have HF := Lib.hid hF; clear hF
      by_cases hlt : k < L.length
      · have hlm : k < M.length := by have := HL.out; omega
        have hk0 : (0 : Int) ≤ (k : Int) := by omega
        have hk1 : (k : Int) < (L.length : Int) := by omega
        have hk2 : (k : Int) < (M.length : Int) := by omega
        obtain ⟨g, o, c', e1, hxx⟩ := (HV.out.no hkp).at_ hlt
        obtain ⟨g2, o2, d', e2, hyy⟩ := (HU.out.no hkp).at_ hlm
        have hx := hxx k _ (List.getElem?_eq_getElem hlt)
        have hy := hyy k _ (List.getElem?_eq_getElem hlm)
        clear hxx hyy
        injection e1 with e1 _ e1c; injection e2 with e2 _ e2c
        subst e1 e2 e1c e2c
        have HT := Lib.hid (take_snoc' hlt)
        have HT2 := Lib.hid (take_snoc' hlm)
        have HM := Lib.hid (show L[k] ≠ M[k] → L ≠ M from fun hne e => hne (by subst e; rfl))
        generalize L[k] = x at *
        generalize M[k] = y at *
        by_cases hxy : x = y
        · subst hxy
          go_wp2
          go_quiet (fail)
          go_wp2
          go_roundw
          case rel => exact ⟨k + 1, by omega, by go_num, (hkp.drewN _), by rw [HT.out, HT2.out, HF.out]⟩
          case measure => simp [intOf]; omega
        · obtain ⟨f1, f2⟩ := str_eq_facts x y hxy
          have HX := Lib.hid hxy; clear hxy
          go_wp2
          go_quiet (fail)
          go_wp2
          go_ret
          exact ⟨ret_bool rfl (decide_eq_false (HM.out HX.out)).symm, (hkp.drewN _)⟩
      · have hk' : k = L.length := by omega
        have hE : L = M := by
          have := HF.out
          rwa [hk', List.take_length, HL.out, List.take_length] at this
        have HE := Lib.hid hE; clear hE hk'
        have hk1 : ¬ (k : Int) < (L.length : Int) := by omega
        go_wp2
        go_ret
        exact ⟨ret_bool rfl (decide_eq_true HE.out).symm, hkp⟩
  · have hne : ((L.length : Int) == (M.length : Int)) = false := by simp; omega
    have hnb : ((L.length : Int) != (M.length : Int)) = true := by simp; omega
    have HL := Lib.hid hl; clear hl
    go_wp2
    go_ret
    exact ⟨ret_bool rfl (decide_eq_false (fun e => HL.out (by rw [e]))).symm, Kp.refl _ _⟩
end Go.Proofs.YtfbajcgkcamnnaaDoor
