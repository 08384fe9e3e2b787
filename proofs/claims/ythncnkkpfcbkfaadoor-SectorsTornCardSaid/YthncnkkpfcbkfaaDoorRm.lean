/- The law's and the reference's small words on sectors: SameAll, own, same, by contracts; the reference's Pack at any arguments. No condition beyond what each theorem states. -/
import Derived.Test.YthncnkkpfcbkfaaDoorRl
namespace Go.Proofs.YthncnkkpfcbkfaaDoor
open Go Go.RowKit

theorem rpack_any (gen seq : Int) (A : Option Addr) (n c : Nat) (l : List UInt8) (w : World) (hv : ArgB w (.slice A n c) l) :
    Calls Tryd.prog 13 #[.int .i64 gen, .int .i64 seq, .slice A n c] w fun e w' => PackA w w' gen seq l e := by
  obtain ⟨_, hn, _⟩ := hv.cs
  subst hn
  by_cases h1 : gen < 1 ∨ 1073741824 < gen ∨ seq < 0 ∨ 1073741824 < seq
  · refine (rpack_range gen seq _ h1 w).mono ?_
    rintro e w' ⟨rfl, rfl⟩
    have hp : packS gen seq l = ([], 2) := if_pos h1
    exact ⟨_, by rw [hp], by rw [hp]; exact Rows.nil _ _, Kp.refl _ _⟩
  · by_cases h2 : 188 < l.length
    · refine (rpack_long gen seq A l.length c (by omega) (by omega) (by omega) (by omega) h2 w).mono ?_
      rintro e w' ⟨rfl, rfl⟩
      have hp : packS gen seq l = ([], 41) := by unfold packS; rw [if_neg h1, if_pos h2]
      exact ⟨_, by rw [hp], by rw [hp]; exact Rows.nil _ _, Kp.refl _ _⟩
    · obtain ⟨g, rfl⟩ := Int.eq_ofNat_of_zero_le (show 0 ≤ gen by omega)
      obtain ⟨s, rfl⟩ := Int.eq_ofNat_of_zero_le (show 0 ≤ seq by omega)
      refine (rpack_yes g s A c l w hv (by omega) (by omega) (by omega) (by omega)).mono ?_
      rintro e w' ⟨v, rfl, hr, hk⟩
      have hp : packS (g : Int) (s : Int) l = (partsS g s l, 0) := by unfold packS; rw [if_neg h1, if_neg h2]; rfl
      exact ⟨v, by rw [hp], by rw [hp]; exact hr, hk⟩

theorem ArgB.str {P : Program} {w : World} {x : Value} {l : List UInt8} (h : ArgB w x l) (src e dst : TypeId) (hs : P.underlying src = some (.slice e)) (he : P.underlying e = some (.int .u8)) (hd : P.underlying dst = some .string) :
    (convert src dst x).run P w = .ok (.string ⟨l.toArray⟩) w := by
  obtain ⟨A, c, rfl, _, hr⟩ := h
  by_cases hl : l = []
  · subst hl
    rcases A with _ | a
    · exact run_convert_bytes_nil w src e hs he 0 c dst hd
    · have := run_bytesToString (P := P) w a 0 c [] (by rfl)
      simp [convert, run_underlying hs, run_underlying hd, run_underlying he, this]
      rfl
  · obtain ⟨g, o, rfl, hra⟩ := hr (by simpa [u8s] using hl)
    have := run_convert_bytes_arg (P := P) w src e hs he g o l.length c (l.map fun c => (c.toNat : Int)) (by simp) (by
      intro i hi
      rw [hra i _ (by simp only [u8s, List.getElem?_map, List.getElem?_eq_getElem hi]; rfl)]
      simp [List.getD_eq_getElem?_getD, List.getElem?_eq_getElem hi]) dst hd
    rw [this]
    congr 2
    have e2 : (strOfNums (l.map fun c => (c.toNat : Int))).data.toList = l := by
      rw [strOfNums_data, List.map_map]
      conv => rhs; rw [← List.map_id l]
      exact List.map_congr_left fun c _ => by simp
    have e3 : (strOfNums (l.map fun c => (c.toNat : Int))).data = l.toArray := by conv => rhs; rw [← e2]
    calc strOfNums (l.map fun c => (c.toNat : Int)) = ⟨(strOfNums (l.map fun c => (c.toNat : Int))).data⟩ := rfl
      _ = ⟨l.toArray⟩ := by rw [e3]


set_option maxHeartbeats 1000000 in
theorem sameAll_len (v u : Value) (L R : List (List UInt8)) (w : World) (hv : ArgR w v L) (hu : ArgR w u R) (hne : L.length ≠ R.length) :
    Calls Tryd.prog 14 #[v, u] w fun e w' => e = .returned (.bool false) ∧ w = w' := by
  obtain ⟨A, c, xs, rfl, _⟩ := hv
  obtain ⟨B, d, ys, rfl, _⟩ := hu
  have hd : ((L.length : Int) != (R.length : Int)) = true := by rw [bne_iff_ne]; omega
  clear hne
  go_enter Tryd.func14, Tryd.ntmps14
  go_wp2
  go_ret
  exact ⟨rfl, rfl⟩
theorem drewN_no (w : World) (n : Nat) : Kp No w (w.drewN n) := (Kp.refl _ _).drewN n
set_option maxHeartbeats 1000000 in
theorem sameAll_any (v u : Value) (L R : List (List UInt8)) (w : World) (hv : ArgR w v L) (hu : ArgR w u R) (hlen : L.length = R.length) (hmx : L.length ≤ 140737488355328) :
    Calls Tryd.prog 14 #[v, u] w fun e w' => e = .returned (.bool (decide (L = R))) ∧ ∃ n, w' = w.drewN n := by
  obtain ⟨A, c, rfl, hc, hx⟩ := hv.at_
  obtain ⟨B, d, rfl, hd', hy⟩ := hu.at_
  have hd : ((L.length : Int) != (R.length : Int)) = false := by rw [bne_eq_false_iff_eq]; omega
  have HL := Lib.hid hlen
  have hle : L.length ≤ R.length := by omega
  have HX0 := Lib.hid hx; have HY0 := Lib.hid hy
  clear hlen hx hy hv hu
  go_enter Tryd.func14, Tryd.ntmps14
  go_wp2
  go_loopw [5] (fun i wr => ∃ k : Nat, k ≤ L.length ∧ i = .int .i64 k ∧ L.take k = R.take k ∧ ∃ n, wr = w.drewN n) (fun i _ => L.length - (intOf i).toNat)
  case atStart => exact ⟨0, Nat.zero_le _, rfl, by simp, 0, rfl⟩
  case round =>
    obtain ⟨k, hk, rfl, heq, n, rfl⟩ := hrel
    have HE := Lib.hid heq; clear heq
    by_cases hlt : k < L.length
    · have hlt2 : k < R.length := by omega
      obtain ⟨g, o, a1, k1, rfl, hcx, hx2⟩ := HX0.out k hlt
      obtain ⟨g', o', a2, k2, rfl, hcy, hy2⟩ := HY0.out k hlt2
      have sx : ∀ m, (convert 26 9 (.slice a1 L[k].length k1)).run Tryd.prog (w.drewN m) = .ok (.string ⟨L[k].toArray⟩) (w.drewN m) := fun m => (hx2.no (drewN_no w m)).str 26 5 9 Tryd.underlying26 Tryd.underlying5 Tryd.underlying9
      have sy : ∀ m, (convert 26 9 (.slice a2 R[k].length k2)).run Tryd.prog (w.drewN m) = .ok (.string ⟨R[k].toArray⟩) (w.drewN m) := fun m => (hy2.no (drewN_no w m)).str 26 5 9 Tryd.underlying26 Tryd.underlying5 Tryd.underlying9
      have hik : (k : Int) < (L.length : Int) := by omega
      have hik2 : (k : Int) < (R.length : Int) := by omega
      have hi0 : (0 : Int) ≤ (k : Int) := by omega
      generalize hl : L[k] = l at *
      generalize hr : R[k] = r at *
      have HLk := Lib.hid hl; clear hl
      have HRk := Lib.hid hr; clear hr
      clear hx2 hy2
      obtain ⟨q1, hq1⟩ : ∃ q, l.length = q := ⟨_, rfl⟩
      obtain ⟨q2, hq2⟩ : ∃ q, r.length = q := ⟨_, rfl⟩
      rw [hq1] at sx hcx; rw [hq2] at sy hcy
      clear hq1 hq2
      by_cases hlr : (l == r) = true
      · go_wp2
        go_quiet (fail)
        go_wp2
        go_roundw
        case rel =>
          refine ⟨k + 1, by omega, by go_num, ?_, _, rfl⟩
          rw [List.take_add_one, List.take_add_one, List.getElem?_eq_getElem hlt, List.getElem?_eq_getElem hlt2, HE.out, HLk.out, HRk.out, eq_of_beq hlr]
        case measure => simp [intOf]; omega
      · have hlr' : (l == r) = false := by simpa using hlr
        clear hlr
        go_wp2
        go_quiet (fail)
        go_wp2
        go_ret
        refine ⟨?_, _, World.drewN_drewN w n _⟩
        have : L ≠ R := by
          rintro rfl
          rw [← HLk.out, ← HRk.out] at hlr'
          simp at hlr'
        simp [this]
    · go_wp2
      go_ret
      have hk' : k = L.length := by omega
      refine ⟨?_, n, rfl⟩
      have h1 := HE.out
      rw [hk', List.take_length, HL.out, List.take_length] at h1
      simp [h1]
/-- SameAll at any two lists -/
theorem sameAll_eq (v u : Value) (L R : List (List UInt8)) (b : Bool) (w : World) (hv : ArgR w v L) (hu : ArgR w u R) (hmx : L.length ≤ 140737488355328) (hb : decide (L = R) = b) :
    Calls Tryd.prog 14 #[v, u] w fun e w' => e = .returned (.bool b) ∧ Kp No w w' := by
  by_cases hl : L.length = R.length
  · refine (sameAll_any v u L R w hv hu hl hmx).mono ?_
    rintro e w' ⟨rfl, n, rfl⟩
    exact ⟨by rw [hb], drewN_no _ _⟩
  · refine (sameAll_len v u L R w hv hu hl).mono ?_
    rintro e w' ⟨rfl, rfl⟩
    refine ⟨?_, Kp.refl _ _⟩
    rw [← hb, decide_eq_false (fun h => hl (by rw [h]))]

set_option maxHeartbeats 1000000 in
/-- append([]byte{}, b...) for each -/
theorem own_any (v : Value) (L : List (List UInt8)) (w : World) (hv : ArgR w v L) (hL : L.length * 24 ≤ 140737488355328) (hl : ∀ l ∈ L, l.length ≤ 140737488355327) :
    Calls Tryd.prog 19 #[v] w fun e w' => ∃ u, e = .returned u ∧ Rows w' w.heap.size u L ∧ Kp No w w' := by
  obtain ⟨A, c, rfl, hc, hx⟩ := hv.at_
  have HX0 := Lib.hid hx
  clear hx hv
  go_enter Tryd.func19, Tryd.ntmps19
  go_wp2
  go_loopw [3, 8] (fun v i wr => ∃ k : Nat, k ≤ L.length ∧ i = .int .i64 k ∧ Rows wr w.heap.size v (L.take k) ∧ Kp No w wr) (fun _ i _ => L.length - (intOf i).toNat)
  case atStart => exact ⟨0, Nat.zero_le _, rfl, Rows.nil _ _, Kp.refl _ _⟩
  case round =>
    obtain ⟨k, hk, rfl, hrows, hkp⟩ := hrel
    have HR := Lib.hid hrows; have HKP := Lib.hid hkp; clear hrows hkp
    by_cases hlt : k < L.length
    · obtain ⟨g, o, a1, k1, rfl, hcx, hx2⟩ := HX0.out k hlt
      have hcx' := cell_no hcx HKP.out
      have hik : (k : Int) < (L.length : Int) := by omega
      have hi0 : (0 : Int) ≤ (k : Int) := by omega
      have hnext : L.take (k + 1) = L.take k ++ [L[k]] := List.take_succ_eq_append_getElem hlt
      have hlen := hl L[k] (List.getElem_mem hlt)
      have htk : (L.take k).length = k := by rw [List.length_take]; omega
      obtain ⟨l, hl'⟩ : ∃ l, L[k] = l := ⟨_, rfl⟩
      rw [hl'] at hcx' hx2 hnext hlen
      have HNX := Lib.hid hnext; have HA := Lib.hid (hx2.no HKP.out); clear hnext hx2 hl' hcx
      go_wp2_with (first | (at_builtin; refine wpList_appB _ rfl (.tmp 13) (.tmp 14) rfl wr.heap.size _ [] rfl (by exact own_fresh wr _ _ (Nat.le_refl _)) _ _ _ l rfl rfl ((HA.out.no ((Kp.refl No _).alloc _)).cs.1) (by simp; omega) (by simp) ?_; intro a2 n2 c2 w2 o2 f2 _; have K2 := f2 wr (Nat.le_refl _) ((Kp.refl No wr).alloc _); have HO2 := Lib.hid (OwnB.mono o2 HKP.out.size); have HR2 := Lib.hid (HR.out.no K2); have HK2 := Lib.hid (HKP.out.trans K2); clear o2 f2 K2) | (at_builtin; refine wpList_appR _ rfl (.tmp 12) (.tmp 16) rfl w.heap.size _ (L.take k) rfl (HR2.out.no ((Kp.refl No _).alloc _)) _ _ _ rfl l rfl (cs_new rfl rfl) (by have := HO2.out; simp only [List.nil_append] at this; exact this.alloc _) (by omega) (by have := HK2.out.size; simp; omega) ?_; intro a3 n3 c3 w3 r3 f3))
      have HR3 := Lib.hid r3; have HK3 := Lib.hid (f3 w (Nat.le_refl _) (HK2.out.alloc _)); clear r3 f3
      go_wp2
      go_roundw
      case rel => exact ⟨k + 1, by omega, by go_num, by rw [HNX.out]; exact HR3.out, HK3.out⟩
      case measure => simp [intOf]; omega
    · obtain rfl : k = L.length := by omega
      go_wp2
      go_ret
      exact ⟨_, rfl, by have := HR.out; rwa [List.take_length] at this, HKP.out⟩

set_option maxHeartbeats 1000000 in
/-- two parts of one content -/
theorem same_true (a b c d : Int) (v u : Value) (l : List UInt8) (w : World) (hv : ArgB w v l) (hu : ArgB w u l) :
    Calls Tryd.prog 17 #[.agg #[.int .i64 a, .int .i64 b, .int .i64 c, .int .i64 d, v], .agg #[.int .i64 a, .int .i64 b, .int .i64 c, .int .i64 d, u]] w fun e w' => e = .returned (.bool true) ∧ Kp No w w' := by
  obtain ⟨A1, c1, e1, _⟩ := hv.form
  obtain ⟨A2, c2, e2, _⟩ := hu.form
  subst e1 e2
  obtain ⟨W, hW⟩ : ∃ W, W = (w.alloc (.cells #[.int .i64 a, .int .i64 b, .int .i64 c, .int .i64 d, .slice A1 l.length c1] 33)).alloc (.cells #[.int .i64 a, .int .i64 b, .int .i64 c, .int .i64 d, .slice A2 l.length c2] 33) := ⟨_, rfl⟩
  have KW : Kp No w W := by rw [hW]; exact ((Kp.refl _ _).alloc _).alloc _
  have sx : (convert 26 9 (.slice A1 l.length c1)).run Tryd.prog W = .ok (.string ⟨l.toArray⟩) W := (hv.no KW).str 26 5 9 Tryd.underlying26 Tryd.underlying5 Tryd.underlying9
  have sy : (convert 26 9 (.slice A2 l.length c2)).run Tryd.prog W = .ok (.string ⟨l.toArray⟩) W := (hu.no KW).str 26 5 9 Tryd.underlying26 Tryd.underlying5 Tryd.underlying9
  have KW' := Lib.hid KW
  clear hv hu KW
  subst hW
  go_enter Tryd.func17, Tryd.ntmps17
  go_wp2
  go_ret
  exact ⟨rfl, KW'.out⟩
end Go.Proofs.YthncnkkpfcbkfaaDoor
