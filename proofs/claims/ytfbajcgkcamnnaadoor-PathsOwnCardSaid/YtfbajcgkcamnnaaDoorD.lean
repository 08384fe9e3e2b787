/- The reference's functions on paths, by contracts: segment. -/
import Derived.Test.YtfbajcgkcamnnaaDoorC
namespace Go.Proofs.YtfbajcgkcamnnaaDoor
open Go Go.RowKit Go.PlainAid

theorem take_all_okC {l : Bytes} {k : Nat} (hk : k < l.length) : (l.take (k + 1)).all okC = ((l.take k).all okC && okC l[k]) := by
  rw [List.take_succ_eq_append_getElem hk, List.all_append]; simp

set_option maxRecDepth 100000 in
theorem segment_any (s : ByteArray) (w : World) :
    Calls Tryd.prog 32 #[.string s] w fun e w' => e = .returned (.bool (segB s.data.toList)) ∧ w' = w := by
  have hb := get_bt s
  go_enter Tryd.func32, Tryd.ntmps32
  by_cases h1 : s.size < 1
  · have HS := Lib.hid (show segB s.data.toList = false by unfold segB; have : s.data.toList.length = s.size := by simp
                                                           rw [decide_eq_false (by omega)]; simp)
    have h1' : (s.size : Int) < 1 := by omega
    go_wp2
    go_ret
    exact ⟨ret_bool rfl HS.out.symm, rfl⟩
  · by_cases h6 : 6 < s.size
    · have HS := Lib.hid (show segB s.data.toList = false by unfold segB; have : s.data.toList.length = s.size := by simp
                                                             rw [decide_eq_false (p := s.data.toList.length ≤ 6) (by omega)]; simp)
      have h1' : ¬ (s.size : Int) < 1 := by omega
      have h6' : 6 < (s.size : Int) := by omega
      go_wp2
      go_ret
      exact ⟨ret_bool rfl HS.out.symm, rfl⟩
    · have h1' : ¬ (s.size : Int) < 1 := by omega
      have h6' : ¬ 6 < (s.size : Int) := by omega
      have HS := Lib.hid (show segB s.data.toList = s.data.toList.all okC by
        unfold segB; have : s.data.toList.length = s.size := by simp
        rw [decide_eq_true (by omega), decide_eq_true (by omega)]; simp)
      go_wp2
      go_loopw [3] (fun i wr => ∃ k : Nat, k ≤ s.size ∧ i = .int .i64 k ∧ wr = w ∧ (s.data.toList.take k).all okC = true) (fun i _ => s.size - (intOf i).toNat)
      case atStart => exact ⟨0, Nat.zero_le _, rfl, rfl, by simp⟩
      case round =>
        obtain ⟨k, hk, rfl, rfl, hF⟩ := hrel
        have HF := Lib.hid hF; clear hF
        by_cases hlt : k < s.size
        · have hk0 : (0 : Int) ≤ (k : Int) := by omega
          have hk1 : (k : Int) < (s.size : Int) := by omega
          have hl : k < s.data.toList.length := by simpa using hlt
          have hc : bt s k = (((s.data.toList[k]'hl).toNat : Nat) : Int) := by
            rw [← hb k hlt]; simp [ByteArray.getElem_eq_getElem_data]
          have hT := take_all_okC hl
          have hM : okC (s.data.toList[k]'hl) = false → s.data.toList.all okC = false := fun h => by
            rw [Bool.eq_false_iff]; intro ha
            have := List.all_eq_true.1 ha _ (List.getElem_mem hl)
            rw [h] at this; cases this
          generalize s.data.toList[k]'hl = c at *
          have hok : okC c = true ↔ (97 ≤ c.toNat ∧ c.toNat ≤ 122) ∨ (48 ≤ c.toNat ∧ c.toNat ≤ 57) := by simp [okC]
          rcases (by omega : (97 ≤ c.toNat ∧ c.toNat ≤ 122) ∨ (48 ≤ c.toNat ∧ c.toNat ≤ 57) ∨ c.toNat < 48 ∨ (57 < c.toNat ∧ c.toNat < 97) ∨ 122 < c.toNat) with ⟨c1, c2⟩ | ⟨c1, c2⟩ | c1 | ⟨c1, c2⟩ | c1
          · have f1 : ¬ bt s k < 97 := by omega
            have f2 : ¬ 122 < bt s k := by omega
            have HT := Lib.hid (hT.trans (by rw [HF.out, hok.2 (by omega)]))
            clear hc hok c1 c2 hM hT
            go_wp2
            go_roundw
            case rel => exact ⟨k + 1, by omega, by go_num, by trivial, HT.out⟩
            case measure => simp [intOf]; omega
          · have f1 : bt s k < 97 := by omega
            have f2 : ¬ bt s k < 48 := by omega
            have f3 : ¬ 57 < bt s k := by omega
            have HT := Lib.hid (hT.trans (by rw [HF.out, hok.2 (by omega)]))
            clear hc hok c1 c2 hM hT
            go_wp2
            go_roundw
            case rel => exact ⟨k + 1, by omega, by go_num, by trivial, HT.out⟩
            case measure => simp [intOf]; omega
          · have f1 : bt s k < 97 := by omega
            have f2 : bt s k < 48 := by omega
            have HX := Lib.hid (hM (by rw [Bool.eq_false_iff]; intro h; have := hok.1 h; omega))
            clear hc hok c1 hM hT
            go_wp2
            go_ret
            exact ⟨ret_bool rfl (by rw [HS.out, HX.out]), rfl⟩
          · have f1 : bt s k < 97 := by omega
            have f2 : ¬ bt s k < 48 := by omega
            have f3 : 57 < bt s k := by omega
            have HX := Lib.hid (hM (by rw [Bool.eq_false_iff]; intro h; have := hok.1 h; omega))
            clear hc hok c1 c2 hM hT
            go_wp2
            go_ret
            exact ⟨ret_bool rfl (by rw [HS.out, HX.out]), rfl⟩
          · have f1 : ¬ bt s k < 97 := by omega
            have f2 : 122 < bt s k := by omega
            have f4 : ¬ bt s k < 48 := by omega
            have f3 : 57 < bt s k := by omega
            have HX := Lib.hid (hM (by rw [Bool.eq_false_iff]; intro h; have := hok.1 h; omega))
            clear hc hok c1 hM hT
            go_wp2
            go_ret
            exact ⟨ret_bool rfl (by rw [HS.out, HX.out]), rfl⟩
        · have hk' : k = s.size := by omega
          have HX := Lib.hid (show s.data.toList.all okC = true by have := HF.out; rwa [List.take_of_length_le (by simp; omega)] at this)
          go_wp2
          go_ret
          exact ⟨ret_bool rfl (by rw [HS.out, HX.out]), rfl⟩
end Go.Proofs.YtfbajcgkcamnnaaDoor
