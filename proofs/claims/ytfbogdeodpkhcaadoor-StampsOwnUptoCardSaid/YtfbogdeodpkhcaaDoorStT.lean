/- The program's stamps: Text, by contract, for a list that is not too long for its text to be made. -/
import Derived.Test.YtfbogdeodpkhcaaDoorStP2
namespace Go.Proofs.YtfbogdeodpkhcaaDoor
open Go Go.RowKit Go.PlainAid

def tx (L : List ByteArray) : List Bytes := L.map (·.data.toList)
theorem tx_length (L : List ByteArray) : (tx L).length = L.length := by simp [tx]
theorem join_le : ∀ (L : List Bytes), (∀ x ∈ L, x.length ≤ 21) → (Lib.join L [46]).length ≤ 22 * L.length
  | [], _ => by simp [Lib.join, List.intercalate]
  | [x], h => by
    have := h x (by simp)
    rw [Lib.join_one]; simp; omega
  | x :: y :: t, h => by
    have hx := h x (by simp)
    have e : Lib.join (x :: y :: t) [46] = x ++ 46 :: Lib.join (y :: t) [46] := by simp [Lib.join, List.intercalate]
    have ih := join_le (y :: t) (fun z hz => h z (by simp [hz]))
    rw [e]; simp only [List.length_append, List.length_cons] at ih ⊢; omega
set_option maxHeartbeats 2000000 in
set_option maxRecDepth 100000 in
theorem textS_any (v : Value) (L : List Int) (w : World) (hv : ArgInts w v L) (hl : L.length ≤ 1048576) (hr : ∀ n ∈ L, -9223372036854775808 ≤ n ∧ n ≤ 9223372036854775807) (hL : Lw w) :
    Calls Tryd.prog 28 #[v] w fun e w' => e = .returned (.string ⟨(textS L).toArray⟩) ∧ Kp No w w' := by
  have HV := Lib.hid hv; have HL := Lib.hid hL; have HR := Lib.hid hr; clear hL hr
  obtain ⟨A, c, rfl, hc, _⟩ := hv
  go_enter Tryd.func28, Tryd.ntmps28
  by_cases h0 : L.length = 0
  · have h0' : ((L.length : Int) == 0) = true := by rw [h0]; rfl
    have HT := Lib.hid (show textS L = [45] by unfold textS; rw [if_pos (List.eq_nil_of_length_eq_zero h0)]); clear h0
    go_wp2
    go_ret
    exact ⟨by rw [HT.out]; rfl, Kp.refl _ _⟩
  · have h0' : ((L.length : Int) == 0) = false := beq_eq_false_iff_ne.2 (by omega)
    have HT := Lib.hid (show textS L = Lib.join (L.map Lib.itoa) [46] by unfold textS; rw [if_neg (fun e => h0 (by rw [e]; rfl))])
    go_wp2
    go_loopw [11, 3] (fun i o wr => ∃ k : Nat, k ≤ L.length ∧ i = .int .i64 k ∧ Kp No w wr ∧ ∃ D : List ByteArray, D.length = k ∧ wr.ownsRow w.heap.size 9 1 o k (D.map Value.string) ∧ tx D = (L.take k).map Lib.itoa) (fun i _ _ => L.length - (intOf i).toNat)
    case atStart => exact ⟨0, Nat.zero_le _, rfl, Kp.refl _ _, [], rfl, nil_own _ _ _ _, rfl⟩
    case round =>
      obtain ⟨k, hk, rfl, hkp, D, hDl, hown, hT⟩ := hrel
      have HDL := Lib.hid hDl; have HTX := Lib.hid hT; clear hDl hT
      by_cases hlt : k < L.length
      · have hk0 : (0 : Int) ≤ (k : Int) := by omega
        have hk1 : (k : Int) < (L.length : Int) := by omega
        obtain ⟨g, o, c', e1, hxx⟩ := (HV.out.no hkp).at_ hlt
        have hx := hxx k _ (List.getElem?_eq_getElem hlt)
        clear hxx
        injection e1 with e1 _ e1c
        subst e1 e1c
        have HTK := Lib.hid (show (L.take (k + 1)).map Lib.itoa = (L.take k).map Lib.itoa ++ [Lib.itoa L[k]] by rw [List.take_succ_eq_append_getElem hlt, List.map_append]; rfl)
        obtain ⟨x0, x1⟩ := HR.out L[k] (List.getElem_mem hlt)
        generalize L[k] = x at *
        have HKP := Lib.hid hkp; clear hkp
        go_wp2_with fail
        refine (itoa_any x x0 x1 _ (HL.out.no HKP.out)).mono ?_
        rintro e w2 ⟨rfl, hk2⟩
        have hown2 := own_kp hown hk2 (fun _ _ m => m)
        have HK2 := Lib.hid (HKP.out.trans hk2)
        have hs2 := HK2.out.size
        clear hk2 hown
        obtain ⟨q, hq⟩ : ∃ q : ByteArray, (⟨(Lib.itoa x).toArray⟩ : ByteArray) = q := ⟨_, rfl⟩
        have HQ := Lib.hid (show q.data.toList = Lib.itoa x by rw [← hq])
        rw [hq]; clear hq
        go_wp2_with (at_builtin; refine wpList_app1 _ rfl _ _ 46 rfl w.heap.size 9 _ 1 16 Tryd.underlying46 Tryd.infoStr rfl (by omega) _ k (D.map Value.string) rfl (hown2.alloc _) _ _ _ rfl (Bk.new' (by simp) rfl) rfl (by simp [Value.oneCell']) (by omega) (by omega) (by simp; omega) ?_; intro g4 cap4 w4 hown4 hk4' hat4)
        have hkk := (HK2.out.alloc (.cells #[.string q] 9)).then_ hk4' fun i hi e => by have := hown2.lt i e; omega
        go_roundw
        case rel => exact ⟨k + 1, by omega, by go_num, hkk, D ++ [q], by simp [HDL.out], by rw [List.map_append]; exact hown4, by rw [HTK.out, ← HTX.out, ← HQ.out]; simp [tx]⟩
        case measure => simp [intOf]; omega
      · have hk' : k = L.length := by omega
        have HJ := Lib.hid (show Lib.join (D.map (·.data.toList)) [46] = textS L by
          have := HTX.out; rw [hk', List.take_length] at this
          rw [HT.out, ← this]; rfl)
        have HLN := Lib.hid (show (Lib.join (D.map (·.data.toList)) [46]).length ≤ 140737488355328 by
          have h1 : ∀ x ∈ tx D, x.length ≤ 21 := by
            rw [HTX.out]
            intro x hx
            obtain ⟨n, hn, rfl⟩ := List.mem_map.1 hx
            obtain ⟨n0, n1⟩ := HR.out n (List.mem_of_mem_take hn)
            exact Lib.itoa_length_le n n0 n1
          have h2 := join_le _ h1
          rw [tx_length, HDL.out] at h2
          show (Lib.join (tx D) [46]).length ≤ _
          omega)
        obtain ⟨go, co, rfl, hco, hbo, hlo⟩ := own_form hown (by omega)
        have HC := Lib.hid (show ∀ (j : Nat) x, D[j]? = some x → wr.cell? ⟨go, 0 + j, none⟩ = some (.string x) from fun j x hx => by
          have hj : j < D.length := by
            rcases Nat.lt_or_ge j D.length with h' | h'
            · exact h'
            · rw [List.getElem?_eq_none h'] at hx; cases hx
          rw [Nat.zero_add, hown.cellAt j (by rw [← HDL.out]; omega), List.getElem?_map, hx]; rfl)
        have hDk := HDL.out
        clear hown hk' h0
        have hk1 : ¬ (k : Int) < (L.length : Int) := by omega
        have HDK := Lib.hid hDk; clear hDk
        have HKP := Lib.hid hkp; clear hkp
        go_wp2_with fail
        have cj := Tryd.strings_Join go 0 co D ⟨#[46]⟩ wr HC.out hlo (by rw [HDK.out]; omega) (by rw [HDK.out]; exact hco) HLN.out
        rw [HDK.out] at cj
        refine cj.mono ?_
        clear cj
        rintro e w' ⟨rfl, bel⟩
        have HB := Lib.hid (Kp.of_below bel); clear bel
        have he : Lib.join (D.map (·.data.toList)) (⟨#[46]⟩ : ByteArray).data.toList = textS L := HJ.out
        rw [he]
        clear he
        obtain ⟨z, hz⟩ : ∃ z, textS L = z := ⟨_, rfl⟩
        rw [hz]
        go_wp2
        go_ret
        exact ⟨by rw [hz]; rfl, HKP.out.trans HB.out⟩
end Go.Proofs.YtfbogdeodpkhcaaDoor
