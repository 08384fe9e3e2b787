/- Several texts of this claim in one. No condition beyond what each theorem states. -/
import Derived.Test.YtlgbmkdeamgpkaaGreatDoorB02
import Derived.PlainAid
import Derived.Deep.QuietTactic
import Derived.BigQuiet
import Derived.Outline
import Derived.Test.YtlgbmkdeamgpkaaGreatDoorB04
/- The document's SameInts by contract. No condition beyond what each theorem states. -/
namespace Go.Proofs.YtlgbmkdeamgpkaaGreatDoor
open Go Go.RowKit Go.PlainAid

set_option maxRecDepth 100000 in
set_option maxHeartbeats 2000000 in
theorem sameInts_any (v u : Value) (L M : List Int) (w : World) (hv : ArgInts w v L) (hu : ArgInts w u M) (hl : L.length ≤ maxLen) (hm : M.length ≤ maxLen) :
    Calls Tryz.prog 22 #[v, u] w fun e w' => e = .returned (.bool (decide (L = M))) ∧ Kp No w w' := by
  have HV := Lib.hid hv; have HU := Lib.hid hu
  obtain ⟨A, c, rfl, _, _⟩ := hv
  obtain ⟨A2, c2, rfl, _, _⟩ := hu
  unfold maxLen at hl hm
  by_cases hlen : L.length = M.length
  · have HLen := Lib.hid hlen
    have hne : ((L.length : Int) != (M.length : Int)) = false := by simp [hlen]
    go_enter Tryz.func22, Tryz.ntmps22
    clear hlen
    go_wp2
    clear hne
    go_loopw [5] (fun i wr => ∃ k : Nat, k ≤ L.length ∧ i = .int .i64 k ∧ Kp No w wr ∧ L.take k = M.take k) (fun i _ => L.length - (intOf i).toNat)
    case atStart => exact ⟨0, Nat.zero_le _, rfl, Kp.refl _ _, by simp⟩
    case round =>
      obtain ⟨k, hk, rfl, hK, hT⟩ := hrel
      have HK := Lib.hid hK; have HT := Lib.hid hT; clear hK hT
      by_cases hlt : k < L.length
      · have hk0 : (0 : Int) ≤ (k : Int) := by omega
        have hk1 : (k : Int) < (L.length : Int) := by omega
        have hlt2 : k < M.length := by have := HLen.out; omega
        have hk2 : (k : Int) < (M.length : Int) := by omega
        obtain ⟨g, o, c', e1, hxx⟩ := (HV.out.no HK.out).at_ hlt
        have hx := hxx k _ (List.getElem?_eq_getElem hlt)
        clear hxx
        injection e1 with e1 _ e1c
        subst e1 e1c
        obtain ⟨g2, o2, c2', e2, hyy⟩ := (HU.out.no HK.out).at_ hlt2
        have hy := hyy k _ (List.getElem?_eq_getElem hlt2)
        clear hyy
        injection e2 with e2 _ e2c
        subst e2 e2c
        have HTL := Lib.hid (show L.take (k + 1) = L.take k ++ [L[k]] from List.take_succ_eq_append_getElem hlt)
        have HTM := Lib.hid (show M.take (k + 1) = M.take k ++ [M[k]] from List.take_succ_eq_append_getElem hlt2)
        have HNE := Lib.hid (show L[k] ≠ M[k] → decide (L = M) = false from fun h => by
          rw [decide_eq_false_iff_not]; rintro rfl; exact h rfl)
        generalize L[k] = x at *
        generalize M[k] = y at *
        by_cases hxy : x = y
        · subst hxy
          have d1 : (x != x) = false := by simp
          clear hlt hlt2
          go_wp2
          go_quiet (fail)
          go_wp2
          go_roundw
          case rel => exact ⟨k + 1, by omega, by go_num, HK.out.drewN _, by rw [HTL.out, HTM.out, HT.out]⟩
          case measure => simp [intOf]; omega
        · have d1 : (x != y) = true := by rw [bne_iff_ne]; exact hxy
          have HXY := Lib.hid hxy
          clear hxy hlt hlt2
          go_wp2
          go_quiet (fail)
          go_wp2
          go_ret
          exact ⟨ret_bool rfl (HNE.out HXY.out).symm, HK.out.drewN _⟩
      · have hk1 : ¬ (k : Int) < (L.length : Int) := by omega
        have HE := Lib.hid (show decide (L = M) = true by
          rw [decide_eq_true_iff]
          have h1 := HT.out
          rwa [List.take_of_length_le (by omega), List.take_of_length_le (by have := HLen.out; omega)] at h1)
        clear hlt
        go_wp2
        go_ret
        exact ⟨ret_bool rfl HE.out.symm, HK.out⟩
  · have hne : ((L.length : Int) != (M.length : Int)) = true := by rw [bne_iff_ne]; omega
    have HE := Lib.hid (show decide (L = M) = false by rw [decide_eq_false_iff_not]; rintro rfl; exact hlen rfl)
    clear hlen
    go_enter Tryz.func22, Tryz.ntmps22
    go_wp2
    go_ret
    exact ⟨ret_bool rfl HE.out.symm, Kp.refl _ _⟩
end Go.Proofs.YtlgbmkdeamgpkaaGreatDoor

/- A message's sixteen cells. No condition beyond what each theorem states. -/
namespace Go.Proofs.YtlgbmkdeamgpkaaGreatDoor
open Go

theorem cells16 {w : World} {g : Nat} {m : Msg} {sv : Value} (h : Bk w g 38 (mcells m sv)) : w.cell? ⟨g, 0, none⟩ = some (.int .i64 m.kind) ∧ w.cell? ⟨g, 1, none⟩ = some (.int .i64 m.from_) ∧ w.cell? ⟨g, 2, none⟩ = some (.int .i64 m.dest) ∧ w.cell? ⟨g, 3, none⟩ = some (.int .i64 m.boot) ∧ w.cell? ⟨g, 4, none⟩ = some (.int .i64 m.seq) ∧ w.cell? ⟨g, 5, none⟩ = some (.int .i64 m.low) ∧ w.cell? ⟨g, 6, none⟩ = some (.int .i64 m.verb) ∧ w.cell? ⟨g, 7, none⟩ = some (.string ⟨m.path.toArray⟩) ∧ w.cell? ⟨g, 8, none⟩ = some (.int .i64 m.mode) ∧ w.cell? ⟨g, 9, none⟩ = some (.int .i64 m.term) ∧ w.cell? ⟨g, 10, none⟩ = some (.int .i64 m.id) ∧ w.cell? ⟨g, 11, none⟩ = some (.bool m.fresh) ∧ w.cell? ⟨g, 12, none⟩ = some (.int .i64 m.code) ∧ w.cell? ⟨g, 13, none⟩ = some (sv) ∧ w.cell? ⟨g, 14, none⟩ = some (.int .i64 m.origin) ∧ w.cell? ⟨g, 15, none⟩ = some (.int .i64 m.number) :=
  ⟨h.cell 0, h.cell 1, h.cell 2, h.cell 3, h.cell 4, h.cell 5, h.cell 6, h.cell 7, h.cell 8, h.cell 9, h.cell 10, h.cell 11, h.cell 12, h.cell 13, h.cell 14, h.cell 15⟩
end Go.Proofs.YtlgbmkdeamgpkaaGreatDoor
