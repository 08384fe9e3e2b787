/- The reference's one and Scan by contracts. No condition beyond what each theorem states. -/
import Derived.Test.YthncnkkpfcbkfaaDoorRk
import Derived.Test.YthncnkkpfcbkfaaDoorSp
namespace Go.Proofs.YthncnkkpfcbkfaaDoor
open Go Go.RowKit

theorem partS_drop (L : List (List UInt8)) (gen : Int) (used k seq idx parts : Nat) : partS (L.drop used) gen k seq idx parts = partS L gen (used + k) seq idx parts := by
  unfold partS; rw [List.getElem?_drop]
theorem uptoS_drop (L : List (List UInt8)) (gen : Int) (used seq parts : Nat) : ∀ k, uptoS (L.drop used) gen 0 seq parts k = uptoS L gen used seq parts k
  | 0 => rfl
  | k + 1 => by
    unfold uptoS; rw [uptoS_drop L gen used seq parts k, Nat.zero_add, partS_drop]
theorem oneS_drop (L : List (List UInt8)) (gen : Int) (used seq : Nat) : oneS (L.drop used) gen 0 seq = oneS L gen used seq := by
  unfold oneS; rw [partS_drop, Nat.add_zero]
  cases partS L gen used seq 0 0 with
  | none => rfl
  | some p => simp only [uptoS_drop]
theorem partS_fact {L : List (List UInt8)} {gen : Int} {at_ seq idx parts : Nat} {p : Pt} (hp : partS L gen at_ seq idx parts = some p) : p.idx = idx ∧ (0 < parts → p.parts = parts) := by
  unfold partS at hp
  cases h1 : L[at_]? with
  | none => rw [h1] at hp; cases hp
  | some b =>
    rw [h1] at hp
    simp only at hp
    cases h2 : lookS b with
    | none => rw [h2] at hp; cases hp
    | some q =>
      rw [h2] at hp
      simp only at hp
      split at hp
      · rename_i hc
        injection hp with hp; subst hp; exact ⟨hc.2.2.1, hc.2.2.2⟩
      · cases hp
/-- a record's first k parts are taken up -/
def OneSt (L : List (List UInt8)) (gen : Int) (seq k parts : Nat) (d : List UInt8) : Prop :=
  (k = 0 ∧ parts = 1 ∧ d = []) ∨ (0 < k ∧ ∃ p, partS L gen 0 seq 0 0 = some p ∧ p.parts = parts ∧ uptoS L gen 0 seq parts k = some d)
theorem OneSt.len {L : List (List UInt8)} {gen : Int} {seq k parts : Nat} {d : List UInt8} (h : OneSt L gen seq k parts d) : d.length ≤ 47 * k := by
  rcases h with ⟨_, _, rfl⟩ | ⟨_, p, _, _, hu⟩
  · simp
  · exact uptoS_len k d hu
theorem OneSt.no {L : List (List UInt8)} {gen : Int} {seq k parts : Nat} {d : List UInt8} (h : OneSt L gen seq k parts d) (hk : k < parts) (hp : partS L gen k seq k (if k = 0 then 0 else parts) = none) : oneS L gen 0 seq = none := by
  rcases h with ⟨rfl, rfl, rfl⟩ | ⟨h0, p, h1, rfl, hu⟩
  · exact oneS_none hp
  · unfold oneS
    rw [h1]
    simp only
    have hs := uptoS_succ L gen 0 seq p.parts k h0
    rw [if_neg (by omega)] at hp
    rw [hu, Nat.zero_add, hp] at hs
    rw [uptoS_none hs p.parts (by omega)]
theorem OneSt.next {L : List (List UInt8)} {gen : Int} {seq k parts : Nat} {d : List UInt8} {p : Pt} (h : OneSt L gen seq k parts d) (hp : partS L gen k seq k (if k = 0 then 0 else parts) = some p) : OneSt L gen seq (k + 1) p.parts (d ++ p.data) ∧ k + 1 ≤ p.parts ∧ p.parts ≤ 4 ∧ p.data.length ≤ 47 := by
  have ok := partS_ok hp
  have hf := partS_fact hp
  have h4 : p.parts ≤ 4 := ok.2.2.2.1
  have h5 : p.idx < p.parts := ok.2.2.2.2.1
  refine ⟨?_, by omega, h4, ok.2.2.2.2.2.1⟩
  rcases h with ⟨rfl, rfl, rfl⟩ | ⟨h0, p0, h1, rfl, hu⟩
  · refine .inr ⟨by omega, p, hp, rfl, ?_⟩
    show (match uptoS L gen 0 seq p.parts 0, partS L gen (0 + 0) seq 0 (if 0 = 0 then 0 else p.parts) with | some d, some q => some (d ++ q.data) | _, _ => none) = _
    rw [if_pos rfl] at hp ⊢
    rw [Nat.add_zero, hp]
    rfl
  · rw [if_neg (by omega)] at hp hf
    have e := hf.2 (by have := ok.2.2.2.2.1; have hq := (partS_ok h1).2.2.2.2.1; omega)
    refine .inr ⟨by omega, p0, h1, e.symm, ?_⟩
    rw [e, uptoS_succ L gen 0 seq p0.parts k h0, hu, Nat.zero_add, hp]
theorem OneSt.done {L : List (List UInt8)} {gen : Int} {seq k : Nat} {d : List UInt8} (h : OneSt L gen seq k k d) : oneS L gen 0 seq = some (d, k) := by
  rcases h with ⟨rfl, h, _⟩ | ⟨_, p, h1, rfl, hu⟩
  · cases h
  · unfold oneS
    rw [h1]
    simp only
    rw [hu]

theorem ArgR.nil (w : World) (A : Option Addr) (c : Nat) : ArgR w (.slice A 0 c) [] := ⟨A, c, [], rfl, Nat.zero_le _, rfl, fun h => absurd rfl h, by intro i hi; simp at hi⟩
theorem ArgR.drop {w : World} {g o n c : Nat} {L : List (List UInt8)} (h : ArgR w (.slice (some ⟨g, o, none⟩) n c) L) (k : Nat) (hk : k ≤ L.length) : ArgR w (.slice (some ⟨g, o + k, none⟩) (n - k) (c - k)) (L.drop k) := by
  obtain ⟨A', c', xs, e, hc, hl, hcs, hx⟩ := h
  injection e with e1 e2 e3
  subst e1 e2 e3
  refine ⟨some ⟨g, o + k, none⟩, c - k, xs.drop k, by rw [List.length_drop], by rw [List.length_drop]; omega, by rw [List.length_drop, List.length_drop, hl], fun hne => ?_, fun i hi => ?_⟩
  · obtain ⟨g', o', e, hr⟩ := hcs (fun e => hne (by rw [e]; simp))
    injection e with e
    injection e with e1 e2
    subst e1 e2
    refine ⟨g, o + k, rfl, fun j v hv => ?_⟩
    rw [List.getElem?_drop] at hv
    rw [show o + k + j = o + (k + j) by omega]
    exact hr _ v hv
  · have hi' : k + i < L.length := by rw [List.length_drop] at hi; omega
    obtain ⟨x, h1, h2⟩ := hx (k + i) hi'
    refine ⟨x, by rw [List.getElem?_drop]; exact h1, ?_⟩
    rw [List.getElem_drop]
    exact h2

/-- what the reference's one answers -/
def OneR (w w' : World) (r : Option (List UInt8 × Nat)) (e : Ending) : Prop := Kp No w w' ∧ match r with
  | none => e = .returned (.tuple #[.slice none 0 0, .int .i64 0, .bool false])
  | some (d, n) => ∃ A c, e = .returned (.tuple #[.slice A d.length c, .int .i64 (n : Int), .bool true]) ∧ OwnB w' w.heap.size (.slice A d.length c) d
theorem oneR_none {w w' : World} {r : Option (List UInt8 × Nat)} (hk : Kp No w w') (h : r = none) : OneR w w' r (.returned (.tuple #[.slice none 0 0, .int .i64 0, .bool false])) := by subst h; exact ⟨hk, rfl⟩
/-- what its loop keeps -/
def OneInv (w : World) (L : List (List UInt8)) (gen : Int) (seq : Nat) (dv pv iv : Value) (wr : World) : Prop :=
  ∃ (k parts : Nat) (A : Option Addr) (d : List UInt8) (c : Nat), k ≤ parts ∧ parts ≤ 4 ∧ iv = .int .i64 k ∧ pv = .int .i64 parts ∧ dv = .slice A d.length c ∧ OwnB wr w.heap.size (.slice A d.length c) d ∧ Kp No w wr ∧ OneSt L gen seq k parts d

set_option maxRecDepth 100000 in
set_option maxHeartbeats 4000000 in
theorem rone_any (lv : Value) (gen : Int) (seq : Nat) (L : List (List UInt8)) (w : World) (hl : ArgR w lv L) :
    Calls Tryd.prog 32 #[lv, .int .i64 gen, .int .i64 (seq : Int)] w fun e w' => OneR w w' (oneS L gen 0 seq) e := by
  obtain ⟨A0, c0, rfl, hc0, hx⟩ := hl.at_
  have HX := Lib.hid hx; clear hx hl
  go_enter Tryd.func32, Tryd.ntmps32
  go_wp2
  go_loopw [9, 10, 11] (fun dv pv iv wr => OneInv w L gen seq dv pv iv wr) (fun _ pv iv _ => 5 - (intOf iv).toNat)
  case atStart => exact ⟨0, 1, none, [], 0, by omega, by omega, rfl, rfl, rfl, OwnB.nil _ _, Kp.refl _ _, .inl ⟨rfl, rfl, rfl⟩⟩
  case round =>
    obtain ⟨k, parts, A, d, c, hk, hp4, rfl, rfl, rfl, hod, hkw, hst⟩ := hrel
    have hk0 : (0 : Int) ≤ (k : Int) := by omega
    have HOD := Lib.hid hod; have HKW := Lib.hid hkw; have HST := Lib.hid hst
    have hdl := hst.len
    have hwr := hkw.size
    clear hod hkw hst
    by_cases hlt : k < parts
    · have hlt' : (k : Int) < (parts : Int) := by omega
      by_cases hkl : k < L.length
      · have hkl' : (k : Int) < (L.length : Int) := by omega
        obtain ⟨g, o, a1, k1, rfl, hcx, hax⟩ := HX.out k hkl
        have hcx' := cell_no hcx HKW.out
        have HP := Lib.hid (show ∀ pp, partS L gen k seq k pp = match lookS L[k] with | none => none | some p => if (p.gen : Int) = gen ∧ p.seq = seq ∧ p.idx = k ∧ (0 < pp → p.parts = pp) then some p else none from fun pp => by
          unfold partS; rw [List.getElem?_eq_getElem hkl]; rfl)
        obtain ⟨l, hll⟩ : ∃ l, L[k] = l := ⟨_, rfl⟩
        rw [hll] at HP hcx' hax
        clear hll hcx
        have lk := rlook_any a1 _ k1 l wr (hax.no HKW.out)
        clear hax
        go_wp2_with fail
        refine lk.mono ?_
        clear lk
        rintro e w1 ⟨k1', hr⟩
        cases hlo : lookS l with
        | none =>
          rw [hlo] at hr HP
          simp only at hr HP
          rw [show noPt = .agg #[.int .i64 0, .int .i64 0, .int .i64 0, .int .i64 0, .slice none 0 0] from rfl] at hr
          subst hr
          have HK := Lib.hid (HKW.out.trans k1'); clear k1' hlo
          go_wp2
          go_ret3
          exact oneR_none (HK.out.alloc _) (HST.out.no hlt (HP.out _))
        | some p =>
          rw [hlo] at hr HP
          simp only at hr HP
          obtain ⟨dv, hr, hd⟩ := hr
          obtain ⟨Ad, cd, hdv, _⟩ := own_len hd
          subst hdv
          rw [show ptV p (.slice Ad p.data.length cd) = .agg #[.int .i64 (p.gen : Int), .int .i64 (p.seq : Int), .int .i64 (p.idx : Int), .int .i64 (p.parts : Int), .slice Ad p.data.length cd] from rfl] at hr
          subst hr
          have HK := Lib.hid (HKW.out.trans k1')
          have HD := Lib.hid (OwnB.mono hd hwr)
          have HO1 := Lib.hid (HOD.out.no k1')
          clear k1' hlo hd hcx'
          by_cases c1 : (p.gen : Int) = gen
          · have d1 : ((p.gen : Int) != gen) = false := by rw [bne_eq_false_iff_eq]; exact c1
            have C1 := Lib.hid c1; clear c1
            by_cases c2 : p.seq = seq
            · have d2 : ((p.seq : Int) != (seq : Int)) = false := by rw [bne_eq_false_iff_eq]; omega
              have C2 := Lib.hid c2; clear c2
              by_cases c3 : p.idx = k
              · have d3 : ((p.idx : Int) != (k : Int)) = false := by rw [bne_eq_false_iff_eq]; omega
                have C3 := Lib.hid c3; clear c3
                by_cases c5 : 0 < k → p.parts = parts
                · have HQ := Lib.hid (show partS L gen k seq k (if k = 0 then 0 else parts) = some p from (HP.out _).trans (if_pos ⟨C1.out, C2.out, C3.out, fun h => by
                    by_cases h0 : k = 0
                    · rw [if_pos h0] at h; omega
                    · rw [if_neg h0]; exact c5 (by omega)⟩))
                  have hnx := HST.out.next HQ.out
                  obtain ⟨hn1, hn2, hn3, hn4⟩ := hnx
                  have HN1 := Lib.hid hn1; clear hn1
                  have hap : ∀ WW, Kp No w1 WW → Cs WW Ad (u8s p.data) := fun WW kk => ((own_argB HD.out).no kk).cs.1
                  have HAP := Lib.hid hap; clear hap
                  by_cases h0 : 0 < k
                  · have d4 : decide ((0 : Int) < (k : Int)) = true := decide_eq_true (by omega)
                    have d5 : ((p.parts : Int) != (parts : Int)) = false := by rw [bne_eq_false_iff_eq]; have := c5 h0; omega
                    clear c5
                    go_wp2_with (at_builtin; refine wpList_appB _ rfl (.tmp 63) (.tmp 65) rfl w.heap.size (.slice A d.length c) d rfl (HO1.out.no ((Kp.refl No w1).alloc _)) _ _ _ p.data rfl rfl (HAP.out _ ((Kp.refl No w1).alloc _)) (by omega) (by have := HK.out.size; simp; omega) ?_)
                    intro A3 n3 c3 w3 o3 f3 _
                    have K3 := Lib.hid (f3 w (Nat.le_refl _) (HK.out.alloc _))
                    obtain ⟨_, hn3', _⟩ := (own_argB o3).cs
                    subst hn3'
                    have HO3 := Lib.hid o3; clear o3 f3
                    go_wp2
                    go_roundw
                    case rel => exact ⟨k + 1, p.parts, A3, d ++ p.data, c3, hn2, hn3, by go_num, rfl, rfl, HO3.out, K3.out, HN1.out⟩
                    case measure => simp [intOf]; omega
                  · obtain rfl : k = 0 := by omega
                    clear c5
                    go_wp2_with (at_builtin; refine wpList_appB _ rfl (.tmp 63) (.tmp 65) rfl w.heap.size (.slice A d.length c) d rfl (HO1.out.no ((Kp.refl No w1).alloc _)) _ _ _ p.data rfl rfl (HAP.out _ ((Kp.refl No w1).alloc _)) (by omega) (by have := HK.out.size; simp; omega) ?_)
                    intro A3 n3 c3 w3 o3 f3 _
                    have K3 := Lib.hid (f3 w (Nat.le_refl _) (HK.out.alloc _))
                    obtain ⟨_, hn3', _⟩ := (own_argB o3).cs
                    subst hn3'
                    have HO3 := Lib.hid o3; clear o3 f3
                    go_wp2
                    go_roundw
                    case rel => exact ⟨1, p.parts, A3, d ++ p.data, c3, hn2, hn3, by first | rfl | go_num, rfl, rfl, HO3.out, K3.out, HN1.out⟩
                    case measure => simp [intOf]
                · have h0 : 0 < k := by
                    rcases Nat.eq_zero_or_pos k with h | h
                    · exact absurd (fun h' => by omega) c5
                    · exact h
                  have c6 : ¬ p.parts = parts := fun h => c5 (fun _ => h)
                  have HQ := Lib.hid (show partS L gen k seq k (if k = 0 then 0 else parts) = none from (HP.out _).trans (if_neg (fun h => c6 (by have := h.2.2.2; rw [if_neg (by omega)] at this; exact this (by omega)))))
                  have d4 : decide ((0 : Int) < (k : Int)) = true := decide_eq_true (by omega)
                  have d5 : ((p.parts : Int) != (parts : Int)) = true := by rw [bne_iff_ne]; omega
                  clear c5
                  go_wp2
                  go_ret3
                  exact oneR_none (HK.out.alloc _) (HST.out.no hlt HQ.out)
              · have d3 : ((p.idx : Int) != (k : Int)) = true := by rw [bne_iff_ne]; omega
                have HQ := Lib.hid (show partS L gen k seq k (if k = 0 then 0 else parts) = none from (HP.out _).trans (if_neg (fun h => c3 h.2.2.1)))
                go_wp2
                go_ret3
                exact oneR_none (HK.out.alloc _) (HST.out.no hlt HQ.out)
            · have d2 : ((p.seq : Int) != (seq : Int)) = true := by rw [bne_iff_ne]; omega
              have HQ := Lib.hid (show partS L gen k seq k (if k = 0 then 0 else parts) = none from (HP.out _).trans (if_neg (fun h => c2 h.2.1)))
              go_wp2
              go_ret3
              exact oneR_none (HK.out.alloc _) (HST.out.no hlt HQ.out)
          · have d1 : ((p.gen : Int) != gen) = true := by rw [bne_iff_ne]; exact c1
            have HQ := Lib.hid (show partS L gen k seq k (if k = 0 then 0 else parts) = none from (HP.out _).trans (if_neg (fun h => c1 h.1)))
            go_wp2
            go_ret3
            exact oneR_none (HK.out.alloc _) (HST.out.no hlt HQ.out)
      · have hkl' : (L.length : Int) ≤ (k : Int) := by omega
        have HQ := Lib.hid (show partS L gen k seq k (if k = 0 then 0 else parts) = none by unfold partS; rw [List.getElem?_eq_none (by omega)])
        go_wp2
        go_ret3
        exact oneR_none HKW.out (HST.out.no hlt HQ.out)
    · obtain rfl : k = parts := by omega
      have HDN := Lib.hid HST.out.done
      go_wp2
      go_ret3
      refine ⟨HKW.out, ?_⟩
      rw [HDN.out]
      exact ⟨_, _, rfl, HOD.out⟩
end Go.Proofs.YthncnkkpfcbkfaaDoor
