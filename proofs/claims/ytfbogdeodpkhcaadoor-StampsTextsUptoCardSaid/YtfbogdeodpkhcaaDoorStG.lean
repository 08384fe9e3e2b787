/- The document's Parse on stamps, by contract. -/
import Derived.Test.YtfbogdeodpkhcaaDoorStF
namespace Go.Proofs.YtfbogdeodpkhcaaDoor
open Go Go.RowKit Go.PlainAid

theorem rparse_none {l : Bytes} (h45 : ¬ l = [45]) (h : loopR l [] 0 = none) : parseS l = ([], 13) := by
  rw [← rparse_eq]; unfold rparseS; rw [if_neg h45, h]
theorem rparse_some {l : Bytes} {D : List Int} (h45 : ¬ l = [45]) (h : loopR l [] 0 = some D) : parseS l = if validS D = true ∧ textS D = l then (D, 0) else ([], 13) := by
  rw [← rparse_eq]; unfold rparseS; rw [if_neg h45, h]
theorem loop_dot {l : Bytes} {k : Nat} (hk : k < l.length) (h : l[k] = 46) (D : List Int) (m : Int) : loopR (l.drop k) D m = if D.length = 4 then none else loopR (l.drop (k + 1)) (D ++ [m]) 0 := by
  rw [List.drop_eq_getElem_cons hk, loopR, if_pos h]
theorem loop_end {l : Bytes} {k : Nat} (hk : k = l.length) (D : List Int) (m : Int) : loopR (l.drop k) D m = if D.length = 4 then none else some (D ++ [m]) := by
  rw [hk, List.drop_length, loopR]
theorem loop_go {l : Bytes} {k : Nat} (hk : k < l.length) (h : ¬ l[k] = 46) (D : List Int) (m : Int) : loopR (l.drop k) D m = if l[k].toNat < 48 ∨ 57 < l[k].toNat ∨ 1099511627776 < m then none else loopR (l.drop (k + 1)) D (10 * m + ((l[k].toNat : Int) - 48)) := by
  rw [List.drop_eq_getElem_cons hk, loopR, if_neg h]

set_option maxHeartbeats 4000000 in
set_option maxRecDepth 100000 in
theorem rparseS_any (s : ByteArray) (w : World) (hs : s.size ≤ 1048576) :
    Calls Tryd.prog 27 #[.string s] w fun e w' => ∃ r, e = .returned (.tuple #[r, .int .i64 (parseS s.data.toList).2]) ∧ OwnI w w' r (parseS s.data.toList).1 ∧ Kp No w w' := by
  have hb := get_bt s
  go_enter Tryd.func27, Tryd.ntmps27
  by_cases h0 : s.data.toList = [45]
  · have hP : parseS s.data.toList = ([], 0) := by unfold parseS; rw [if_pos h0]
    have HP := Lib.hid hP; clear hP
    obtain rfl : s = ⟨#[45]⟩ := str_inj h0
    clear h0 hb
    go_wp2
    go_ret2
    exact ⟨_, by rw [HP.out]; rfl, by rw [HP.out]; exact OwnI.nil _ _, Kp.refl _ _⟩
  · have f1 : ¬ s.toList = [45] := by rw [ByteArray.toList_eq]; exact h0
    have f2 : (s.toList == [45]) = false := beq_eq_false_iff_ne.2 f1
    have hlen : s.data.toList.length = s.size := by simp
    have H0 := Lib.hid h0; clear h0
    go_wp2
    clear f1 f2
    go_loopw [4, 5, 6] (fun o n i wr => ∃ k : Nat, k ≤ s.size + 1 ∧ i = .int .i64 k ∧ Kp No w wr ∧ ∃ (D : List Int) (m : Int), n = .int .i64 m ∧ 0 ≤ m ∧ m ≤ 10995116277769 ∧ wr.ownsRow w.heap.size 3 1 o D.length (ints D) ∧ D.length ≤ 4 ∧ (k ≤ s.size → loopR s.data.toList [] 0 = loopR (s.data.toList.drop k) D m) ∧ (k = s.size + 1 → loopR s.data.toList [] 0 = some D)) (fun _ _ i _ => s.size + 1 - (intOf i).toNat)
    case atStart => exact ⟨0, Nat.zero_le _, rfl, Kp.refl _ _, [], 0, rfl, by omega, by omega, nil_own _ _ _ _, by simp, fun _ => rfl, fun h => by omega⟩
    case round =>
      obtain ⟨k, hk, rfl, hkp, D, m, rfl, m0, m1, hown, hD4, hA, hB⟩ := hrel
      have hD0 : (0 : Int) ≤ (D.length : Int) := by omega
      have hsz := hkp.size
      by_cases hle : k ≤ s.size
      · have HA := Lib.hid (hA hle); clear hA hB
        have hk0 : (0 : Int) ≤ (k : Int) := by omega
        have hk1 : (k : Int) ≤ (s.size : Int) := by omega
        obtain ⟨A, c, rfl, hcap, _⟩ := own_argI hown
        by_cases hkn : k = s.size
        · have kq : ((k : Int) == (s.size : Int)) = true := by rw [hkn]; simp
          have HE := Lib.hid (HA.out.trans (loop_end (by omega) D m))
          by_cases h4 : D.length = 4
          · have h4' : ((D.length : Int) == 4) = true := by rw [h4]; rfl
            have HP := Lib.hid (rparse_none H0.out (HE.out.trans (if_pos h4)))
            clear hkn
            go_wp2
            go_ret2
            exact ⟨_, by rw [HP.out]; rfl, by rw [HP.out]; exact OwnI.nil _ _, hkp⟩
          · have h4' : ((D.length : Int) == 4) = false := by simp; omega
            have HN := Lib.hid (HE.out.trans (if_neg h4))
            clear hkn
            go_wp2_with (at_builtin; refine wpList_app1 _ rfl _ _ 22 rfl w.heap.size 3 _ 1 8 Tryd.underlying22 Tryd.infoInt rfl (by omega) _ D.length (ints D) rfl (hown.alloc _) _ _ _ rfl (Bk.new' (by simp) rfl) rfl (by simp [Value.oneCell']) (by omega) (by omega) (by simp; omega) ?_; intro g2 cap2 w2 hown2 hk2 hat2)
            have hk4 := (hkp.alloc (.cells #[.int .i64 m] 3)).then_ hk2 fun i hi e => by have := hown.lt i e; omega
            go_roundw
            case rel => exact ⟨k + 1, by omega, by go_num, hk4, D ++ [m], 0, rfl, by omega, by omega, by simpa [ints] using hown2, by simp; omega, fun h => by simp at kq; omega, fun _ => HN.out⟩
            case measure => simp [intOf]; omega
        · have hlt : k < s.size := by omega
          have hk2 : (k : Int) < (s.size : Int) := by omega
          have kq : ((k : Int) == (s.size : Int)) = false := beq_eq_false_iff_ne.2 (by omega)
          have hl : k < s.data.toList.length := by omega
          have hc : bt s k = (((s.data.toList[k]'hl).toNat : Nat) : Int) := by
            rw [← hb k hlt]; simp [ByteArray.getElem_eq_getElem_data]
          by_cases h46 : (s.data.toList[k]'hl) = 46
          · have e46 : bt s k = 46 := by rw [hc, h46]; rfl
            have HE := Lib.hid (HA.out.trans (loop_dot hl h46 D m))
            clear hc h46
            by_cases h4 : D.length = 4
            · have h4' : ((D.length : Int) == 4) = true := by rw [h4]; rfl
              have HP := Lib.hid (rparse_none H0.out (HE.out.trans (if_pos h4)))
              go_wp2
              go_ret2
              exact ⟨_, by rw [HP.out]; rfl, by rw [HP.out]; exact OwnI.nil _ _, hkp⟩
            · have h4' : ((D.length : Int) == 4) = false := by simp; omega
              have HN := Lib.hid (HE.out.trans (if_neg h4))
              go_wp2_with (at_builtin; refine wpList_app1 _ rfl _ _ 22 rfl w.heap.size 3 _ 1 8 Tryd.underlying22 Tryd.infoInt rfl (by omega) _ D.length (ints D) rfl (hown.alloc _) _ _ _ rfl (Bk.new' (by simp) rfl) rfl (by simp [Value.oneCell']) (by omega) (by omega) (by simp; omega) ?_; intro g2 cap2 w2 hown2 hk2' hat2)
              have hk4 := (hkp.alloc (.cells #[.int .i64 m] 3)).then_ hk2' fun i hi e => by have := hown.lt i e; omega
              go_roundw
              case rel => exact ⟨k + 1, by omega, by go_num, hk4, D ++ [m], 0, rfl, by omega, by omega, by simpa [ints] using hown2, by simp; omega, fun _ => HN.out, fun h => by omega⟩
              case measure => simp [intOf]; omega
          · have e46 : (bt s k == 46) = false := by
              rw [hc]
              refine beq_eq_false_iff_ne.2 fun e => h46 (UInt8.toNat_inj.1 ?_)
              show (s.data.toList[k]'hl).toNat = 46
              omega
            have HE := Lib.hid (HA.out.trans (loop_go hl h46 D m))
            clear h46
            have HC := Lib.hid hc
            generalize hbt : bt s k = b at *
            have hbb : 0 ≤ b ∧ b ≤ 255 := by rw [← hbt]; exact ⟨bt_nonneg s k, bt_le s k⟩
            by_cases hbad : b < 48 ∨ 57 < b ∨ 1099511627776 < m
            · have HP := Lib.hid (rparse_none H0.out (HE.out.trans (if_pos (by omega))))
              clear hc hkn
              by_cases b1 : b < 48
              · clear hbad
                go_wp2
                go_ret2
                exact ⟨_, by rw [HP.out]; rfl, by rw [HP.out]; exact OwnI.nil _ _, hkp⟩
              · by_cases b2 : 57 < b
                · clear hbad
                  go_wp2
                  go_ret2
                  exact ⟨_, by rw [HP.out]; rfl, by rw [HP.out]; exact OwnI.nil _ _, hkp⟩
                · have b3 : 1099511627776 < m := by omega
                  clear hbad
                  go_wp2
                  go_ret2
                  exact ⟨_, by rw [HP.out]; rfl, by rw [HP.out]; exact OwnI.nil _ _, hkp⟩
            · have HN := Lib.hid (HE.out.trans (if_neg (by omega)))
              rw [← hc] at HN
              clear hc hkn
              have b1 : ¬ b < 48 := by omega
              have b2 : ¬ 57 < b := by omega
              have b3 : ¬ 1099511627776 < m := by omega
              clear hbad
              go_wp2
              go_roundw
              case rel => exact ⟨k + 1, by omega, by go_num, hkp, D, _, rfl, by omega, by omega, hown, hD4, fun _ => HN.out, fun h => by omega⟩
              case measure => simp [intOf]; omega
      · have HB := Lib.hid (rparse_some H0.out (hB (by omega))); clear hA hB
        have hk1 : ¬ (k : Int) ≤ (s.size : Int) := by omega
        have HO := Lib.hid hown
        have ha := Lib.hid (own_argI hown)
        clear hown hle
        go_wp2_with fail
        refine (rvalidS_any _ D wr ha.out (Nat.le_trans hD4 (by decide))).mono ?_
        rintro e w2 ⟨rfl, rfl⟩
        by_cases hv : validS D = true
        · have HV := Lib.hid hv
          have HR := Lib.hid (valid_rng hv)
          rw [hv]
          clear hv
          go_wp2_with fail
          refine (rtextS_any _ D _ ha.out (by omega) HR.out.2).mono ?_
          rintro e w3 ⟨rfl, k3⟩
          have K3 := Lib.hid (hkp.trans k3)
          have O3 := Lib.hid (own_kp HO.out k3 (fun _ _ m => m))
          clear k3
          obtain ⟨z, hz⟩ : ∃ z : ByteArray, (⟨(textS D).toArray⟩ : ByteArray) = z := ⟨_, rfl⟩
          rw [hz]
          by_cases hzs : z = s
          · have HP := Lib.hid (HB.out.trans (if_pos ⟨HV.out, by rw [← hzs, ← hz]⟩))
            clear hz
            subst hzs
            go_wp2
            go_ret2
            exact ⟨_, by rw [HP.out]; rfl, by rw [HP.out]; exact O3.out, K3.out⟩
          · have HP := Lib.hid (HB.out.trans (if_neg (fun h => hzs (by rw [← hz]; exact str_inj h.2))))
            clear hz
            have z1 : (z.toList == s.toList) = false := beq_eq_false_iff_ne.2 (fun e => hzs (str_inj (by rw [← ByteArray.toList_eq, ← ByteArray.toList_eq]; exact e)))
            go_wp2
            go_ret2
            exact ⟨_, by rw [HP.out]; rfl, by rw [HP.out]; exact OwnI.nil _ _, K3.out⟩
        · have hv' : validS D = false := by simpa using hv
          have HP := Lib.hid (HB.out.trans (if_neg (fun h => hv h.1)))
          rw [hv']
          clear hv hv'
          go_wp2
          go_ret2
          exact ⟨_, by rw [HP.out]; rfl, by rw [HP.out]; exact OwnI.nil _ _, hkp⟩
end Go.Proofs.YtfbogdeodpkhcaaDoor
