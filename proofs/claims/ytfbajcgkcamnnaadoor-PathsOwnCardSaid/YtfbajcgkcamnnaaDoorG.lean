/- The reference's Covers, Overlap, Meet, by contracts. No condition beyond what each theorem states. -/
import Derived.Test.YtfbajcgkcamnnaaDoorF
import Derived.Test.YtfbajcgkcamnnaaDoorL2
namespace Go.Proofs.YtfbajcgkcamnnaaDoor
open Go Go.RowKit Go.PlainAid

theorem tx_prefix_take {D E : List ByteArray} (h : D.length ≤ E.length) : (tx D).isPrefixOf (tx E) = decide (D = E.take D.length) := by
  rw [Bool.eq_iff_iff, List.isPrefixOf_iff_prefix, decide_eq_true_iff, List.prefix_iff_eq_take, tx_length]
  have e : (tx E).take D.length = tx (E.take D.length) := by simp [tx]
  rw [e]
  exact ⟨tx_inj, fun h => by rw [← h]⟩
theorem tx_prefix_short {D E : List ByteArray} (h : E.length < D.length) : (tx D).isPrefixOf (tx E) = false := by
  rw [Bool.eq_false_iff]; intro hp
  have := (List.isPrefixOf_iff_prefix.1 hp).length_le
  rw [tx_length, tx_length] at this; omega

theorem path_le {l : Bytes} {P : List Bytes} (h : path l = some P) : P.length ≤ 4 := by
  unfold path at h
  split at h
  · obtain rfl := Option.some.inj h; simp
  · split at h
    · rename_i e
      obtain rfl := Option.some.inj h
      simp only [Bool.and_eq_true, decide_eq_true_eq] at e; exact e.2
    · cases h

set_option maxHeartbeats 2000000 in
set_option maxRecDepth 100000 in
theorem rcovers_any (s t : ByteArray) (w : World) (hs : s.size < 9223372036854775807) (ht : t.size < 9223372036854775807) :
    Calls Tryd.prog 24 #[.string s, .string t] w fun e w' => e = .returned (.bool (rcoversL s.data.toList t.data.toList)) ∧ Kp No w w' := by
  go_enter Tryd.func24, Tryd.ntmps24
  go_wp2_with fail
  refine (rsplit_any _ _ hs).mono ?_
  rintro e w1 hR
  obtain ⟨hk, ⟨hp, rfl⟩ | ⟨P, v, D, hp, rfl, hD, hA⟩⟩ := hR.cases
  · have HP := Lib.hid (show rcoversL s.data.toList t.data.toList = false by unfold rcoversL; rw [hp])
    clear hp hR
    go_wp2_with fail
    refine (rsplit_any _ _ ht).mono ?_
    rintro e w2 hR
    obtain ⟨hk2, ⟨hp, rfl⟩ | ⟨P, v, D, hp, rfl, hD, hA⟩⟩ := hR.cases
    all_goals
      clear hR hp
      go_wp2
      go_ret
      exact ⟨ret_bool rfl HP.out.symm, hk.trans hk2⟩
  · have HP := Lib.hid hp; have HD := Lib.hid hD; have HA := Lib.hid hA
    have hDl : D.length ≤ 4 := by have := path_le hp; rw [← hD, tx_length] at this; exact this
    clear hp hR hD hA
    go_wp2_with fail
    refine (rsplit_any _ _ ht).mono ?_
    rintro e w2 hR
    obtain ⟨hk2, ⟨hq, rfl⟩ | ⟨Q, u, E, hq, rfl, hE, hB⟩⟩ := hR.cases
    · have HX := Lib.hid (show rcoversL s.data.toList t.data.toList = false by unfold rcoversL; rw [HP.out, hq])
      clear hR hq
      obtain ⟨A, c, rfl, _, _⟩ := HA.out
      go_wp2
      go_ret
      exact ⟨ret_bool rfl HX.out.symm, hk.trans hk2⟩
    · have HX := Lib.hid (show rcoversL s.data.toList t.data.toList = (tx D).isPrefixOf (tx E) by unfold rcoversL; rw [HP.out, hq, ← HD.out, ← hE])
      have hA2 := HA.out.no hk2
      have HA2 := Lib.hid hA2
      have HB := Lib.hid hB
      have hkk := hk.trans hk2
      obtain ⟨A, c, rfl, hc, _⟩ := hA2
      obtain ⟨B, d, rfl, hd, _⟩ := hB
      clear hR hq hE HP HD HA hk hk2
      by_cases hl : E.length < D.length
      · have hl' : (E.length : Int) < (D.length : Int) := by omega
        have HS := Lib.hid (HX.out.trans (tx_prefix_short hl))
        clear HX hl
        go_wp2
        go_ret
        exact ⟨ret_bool rfl HS.out.symm, hkk⟩
      · have hl' : ¬ (E.length : Int) < (D.length : Int) := by omega
        have hl2 : D.length ≤ E.length := by omega
        have HS := Lib.hid (HX.out.trans (tx_prefix_take hl2))
        clear HX
        go_wp2
        go_loopw [9] (fun i wr => ∃ k : Nat, k ≤ D.length ∧ i = .int .i64 k ∧ Kp No w2 wr ∧ D.take k = E.take k) (fun i _ => D.length - (intOf i).toNat)
        case atStart => exact ⟨0, Nat.zero_le _, rfl, Kp.refl _ _, rfl⟩
        case round =>
          obtain ⟨k, hk, rfl, hkp, hF⟩ := hrel
          have HF := Lib.hid hF; clear hF
          by_cases hlt : k < D.length
          · have hlm : k < E.length := by omega
            have hk0 : (0 : Int) ≤ (k : Int) := by omega
            have hk1 : (k : Int) < (D.length : Int) := by omega
            have hk2 : (k : Int) < (E.length : Int) := by omega
            obtain ⟨g, o, c', e1, hxx⟩ := (HA2.out.no hkp).at_ hlt
            obtain ⟨g2, o2, d', e2, hyy⟩ := (HB.out.no hkp).at_ hlm
            have hx := hxx k _ (List.getElem?_eq_getElem hlt)
            have hy := hyy k _ (List.getElem?_eq_getElem hlm)
            clear hxx hyy
            injection e1 with e1 _ e1c; injection e2 with e2 _ e2c
            subst e1 e2 e1c e2c
            have HT := Lib.hid (take_snoc' hlt)
            have HT2 := Lib.hid (take_snoc' hlm)
            have HM := Lib.hid (show D[k] ≠ E[k] → D ≠ E.take D.length from fun hne e => hne (by
              have h3 : (E.take D.length)[k]? = some E[k] := by rw [List.getElem?_take_of_lt hlt, List.getElem?_eq_getElem hlm]
              rw [← e, List.getElem?_eq_getElem hlt] at h3; exact Option.some.inj h3))
            generalize D[k] = x at *
            generalize E[k] = y at *
            by_cases hxy : x = y
            · subst hxy
              go_wp2
              go_quiet (fail)
              go_wp2
              go_roundw
              case rel => exact ⟨k + 1, by omega, by go_num, (hkp.drewN _), by rw [HT.out, HT2.out, HF.out]⟩
              case measure => simp [intOf]; omega
            · obtain ⟨f1, f2⟩ := str_eq_facts x y hxy
              have HX := Lib.hid hxy; clear hxy
              go_wp2
              go_quiet (fail)
              go_wp2
              go_ret
              exact ⟨ret_bool rfl (by rw [HS.out]; exact (decide_eq_false (HM.out HX.out)).symm), (hkk.trans hkp).drewN _⟩
          · have hk' : k = D.length := by omega
            have hE : D = E.take D.length := by
              have := HF.out
              rwa [hk', List.take_length] at this
            have HE := Lib.hid hE; clear hE hk'
            have hk1 : ¬ (k : Int) < (D.length : Int) := by omega
            go_wp2
            go_ret
            exact ⟨ret_bool rfl (by rw [HS.out]; exact (decide_eq_true HE.out).symm), hkk.trans hkp⟩

def roverlapL (p q : Bytes) : Bool := rcoversL p q || rcoversL q p

theorem roverlap_any (s t : ByteArray) (w : World) (hs : s.size < 9223372036854775807) (ht : t.size < 9223372036854775807) :
    Calls Tryd.prog 26 #[.string s, .string t] w fun e w' => e = .returned (.bool (roverlapL s.data.toList t.data.toList)) ∧ Kp No w w' := by
  go_enter Tryd.func26, Tryd.ntmps26
  go_wp2_with fail
  refine (rcovers_any _ _ _ hs ht).mono ?_
  rintro e w1 ⟨rfl, h1⟩
  go_wp2_with fail
  refine (rcovers_any _ _ _ ht hs).mono ?_
  rintro e w2 ⟨rfl, h2⟩
  generalize hx : rcoversL s.data.toList t.data.toList = x
  generalize hy : rcoversL t.data.toList s.data.toList = y
  have HX := Lib.hid hx; have HY := Lib.hid hy; clear hx hy
  cases x <;> cases y
  all_goals
    go_wp2
    go_ret
    exact ⟨ret_bool rfl (by unfold roverlapL; rw [HX.out, HY.out]; rfl), h1.trans h2⟩

def rmeetB (s t : ByteArray) : ByteArray := if rcoversL s.data.toList t.data.toList = true then t else if rcoversL t.data.toList s.data.toList = true then s else ⟨#[]⟩

theorem rmeet_any (s t : ByteArray) (w : World) (hs : s.size < 9223372036854775807) (ht : t.size < 9223372036854775807) :
    Calls Tryd.prog 22 #[.string s, .string t] w fun e w' => e = .returned (.tuple #[.string (rmeetB s t), .bool (roverlapL s.data.toList t.data.toList)]) ∧ Kp No w w' := by
  go_enter Tryd.func22, Tryd.ntmps22
  go_wp2_with fail
  refine (rcovers_any _ _ _ hs ht).mono ?_
  rintro e w1 ⟨rfl, h1⟩
  cases hx : rcoversL s.data.toList t.data.toList with
  | true =>
    have HX := Lib.hid hx; clear hx
    go_wp2
    go_ret2
    exact ⟨by unfold rmeetB roverlapL; rw [HX.out]; rfl, h1⟩
  | false =>
    have HX := Lib.hid hx; clear hx
    go_wp2_with fail
    refine (rcovers_any _ _ _ ht hs).mono ?_
    rintro e w2 ⟨rfl, h2⟩
    cases hy : rcoversL t.data.toList s.data.toList with
    | true =>
      have HY := Lib.hid hy; clear hy
      go_wp2
      go_ret2
      exact ⟨by unfold rmeetB roverlapL; rw [HX.out, HY.out]; rfl, h1.trans h2⟩
    | false =>
      have HY := Lib.hid hy; clear hy
      go_wp2
      go_ret2
      exact ⟨by unfold rmeetB roverlapL; rw [HX.out, HY.out]; rfl, h1.trans h2⟩
end Go.Proofs.YtfbajcgkcamnnaaDoor
