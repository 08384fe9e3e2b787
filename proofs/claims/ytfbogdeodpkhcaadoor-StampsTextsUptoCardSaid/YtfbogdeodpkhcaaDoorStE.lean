/- The document's Text on stamps, by contract. -/
import Derived.Test.YtfbogdeodpkhcaaDoorStD
namespace Go.Proofs.YtfbogdeodpkhcaaDoor
open Go Go.RowKit Go.PlainAid

theorem join_snoc : ∀ (l : List Bytes) (x : Bytes), l ≠ [] → Lib.join (l ++ [x]) [46] = Lib.join l [46] ++ ([46] ++ x)
  | [], _, h => absurd rfl h
  | [a], x, _ => by rw [List.cons_append, List.nil_append, join_cons2, Lib.join_one, Lib.join_one]; rfl
  | a :: b :: l, x, _ => by
    have ih := join_snoc (b :: l) x (by simp)
    rw [List.cons_append, List.cons_append, join_cons2, join_cons2, ← List.cons_append, ih]; simp
theorem txt_len {L : List Int} (h : ∀ n ∈ L, -9223372036854775808 ≤ n ∧ n ≤ 9223372036854775807) : (Lib.join (L.map Lib.itoa) [46]).length ≤ 22 * L.length := by
  have := join_le (L.map Lib.itoa) (fun x hx => by
    obtain ⟨n, hn, rfl⟩ := List.mem_map.1 hx
    exact Lib.itoa_length_le n (h n hn).1 (h n hn).2)
  rw [List.length_map] at this; omega
theorem size_of {q : ByteArray} {l : Bytes} (h : q.data.toList = l) : q.size = l.length := by rw [← h]; rfl

set_option maxHeartbeats 2000000 in
set_option maxRecDepth 100000 in
theorem rtextS_any (v : Value) (L : List Int) (w : World) (hv : ArgInts w v L) (hl : L.length ≤ 1048576) (hr : ∀ n ∈ L, -9223372036854775808 ≤ n ∧ n ≤ 9223372036854775807) :
    Calls Tryd.prog 29 #[v] w fun e w' => e = .returned (.string ⟨(textS L).toArray⟩) ∧ Kp No w w' := by
  have HV := Lib.hid hv; have HR := Lib.hid hr; clear hr
  obtain ⟨A, c, rfl, hc, _⟩ := hv
  go_enter Tryd.func29, Tryd.ntmps29
  by_cases h0 : L.length = 0
  · have h0' : ((L.length : Int) == 0) = true := by rw [h0]; rfl
    have HT := Lib.hid (show textS L = [45] by unfold textS; rw [if_pos (List.eq_nil_of_length_eq_zero h0)]); clear h0
    go_wp2
    go_ret
    exact ⟨by rw [HT.out]; rfl, Kp.refl _ _⟩
  · have h0' : ((L.length : Int) == 0) = false := beq_eq_false_iff_ne.2 (by omega)
    have HT := Lib.hid (show textS L = Lib.join (L.map Lib.itoa) [46] by unfold textS; rw [if_neg (fun e => h0 (by rw [e]; rfl))])
    go_wp2
    go_loopw [3, 4] (fun o i wr => ∃ k : Nat, k ≤ L.length ∧ i = .int .i64 k ∧ Kp No w wr ∧ ∃ q : ByteArray, o = .string q ∧ q.data.toList = Lib.join ((L.take k).map Lib.itoa) [46]) (fun _ i _ => L.length - (intOf i).toNat)
    case atStart => exact ⟨0, Nat.zero_le _, rfl, Kp.refl _ _, _, rfl, rfl⟩
    case round =>
      obtain ⟨k, hk, rfl, hkp, q, rfl, hq⟩ := hrel
      have HQ := Lib.hid hq; clear hq
      by_cases hlt : k < L.length
      · have hk0 : (0 : Int) ≤ (k : Int) := by omega
        have hk1 : (k : Int) < (L.length : Int) := by omega
        obtain ⟨g, o, c', e1, hxx⟩ := (HV.out.no hkp).at_ hlt
        have hx := hxx k _ (List.getElem?_eq_getElem hlt)
        clear hxx
        injection e1 with e1 _ e1c
        subst e1 e1c
        have HTK := Lib.hid (show (L.take (k + 1)).map Lib.itoa = (L.take k).map Lib.itoa ++ [Lib.itoa L[k]] by rw [List.take_succ_eq_append_getElem hlt, List.map_append]; rfl)
        have hlen := txt_len (L := L.take k) (fun n hn => HR.out n (List.mem_of_mem_take hn))
        rw [← size_of HQ.out, List.length_take, Nat.min_eq_left hk] at hlen
        obtain ⟨x0, x1⟩ := HR.out L[k] (List.getElem_mem hlt)
        have hxl := Lib.itoa_length_le L[k] x0 x1
        generalize L[k] = x at *
        have HKP := Lib.hid hkp; clear hkp
        obtain ⟨r, hq⟩ : ∃ q : ByteArray, (⟨(Lib.itoa x).toArray⟩ : ByteArray) = q := ⟨_, rfl⟩
        have HR1 := Lib.hid (show r.data.toList = Lib.itoa x by rw [← hq])
        have hrl : r.size ≤ 22 := by rw [size_of HR1.out]; omega
        have HRQ := Lib.hid hq; clear hq hxl
        by_cases k0 : k = 0
        · have k1 : ¬ 0 < (k : Int) := by omega
          have s1 : ¬ 9223372036854775807 < q.size + r.size := by omega
          have HE := Lib.hid (show (q ++ r).data.toList = Lib.join ((L.take (k + 1)).map Lib.itoa) [46] by
            subst k0
            rw [HTK.out, List.take_zero, List.map_nil, List.nil_append, Lib.join_one, ← HR1.out]
            have := HQ.out
            rw [List.take_zero, List.map_nil] at this
            simp [this]; rfl)
          clear k0
          go_wp2_with fail
          refine (dec_any x x0 x1 _).mono ?_
          rintro e w2 ⟨rfl, hk2⟩
          have HK2 := Lib.hid (HKP.out.trans hk2); clear hk2
          rw [HRQ.out]
          go_wp2
          go_roundw
          case rel => exact ⟨k + 1, by omega, by go_num, HK2.out, _, rfl, HE.out⟩
          case measure => simp [intOf]; omega
        · have k1 : 0 < (k : Int) := by omega
          have s0 : ¬ 9223372036854775807 < q.size + 1 := by omega
          have s1 : ¬ 9223372036854775807 < q.size + 1 + r.size := by omega
          have HE := Lib.hid (show ((q ++ (⟨#[46]⟩ : ByteArray)) ++ r).data.toList = Lib.join ((L.take (k + 1)).map Lib.itoa) [46] by
            rw [HTK.out, join_snoc _ _ (by intro e; have := congrArg List.length e; rw [List.length_map, List.length_take, List.length_nil] at this; omega), ← HR1.out, ← HQ.out]
            simp)
          clear k0
          go_wp2_with fail
          refine (dec_any x x0 x1 _).mono ?_
          rintro e w2 ⟨rfl, hk2⟩
          have HK2 := Lib.hid (HKP.out.trans hk2); clear hk2
          rw [HRQ.out]
          go_wp2
          go_roundw
          case rel => exact ⟨k + 1, by omega, by go_num, HK2.out, _, rfl, HE.out⟩
          case measure => simp [intOf]; omega
      · have hk' : k = L.length := by omega
        have hk1 : ¬ (k : Int) < (L.length : Int) := by omega
        have HE := Lib.hid (show (⟨(textS L).toArray⟩ : ByteArray) = q from str_inj (by have := HQ.out; rw [hk', List.take_length] at this; rw [HT.out, this]))
        clear hk'
        have HKP := Lib.hid hkp; clear hkp
        go_wp2
        go_ret
        exact ⟨by rw [HE.out]; rfl, HKP.out⟩
end Go.Proofs.YtfbogdeodpkhcaaDoor
