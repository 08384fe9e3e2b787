/- SectorsScans returns true for any sectors and generation: Scan answers what the document says. No condition. -/
import Derived.Test.YthncnkkpfcbkfaaDoorSj
import Derived.Test.YthncnkkpfcbkfaaDoorCards
import Derived.Test.YthncnkkpfcbkfaaDoorRp
import Derived.Test.YthncnkkpfcbkfaaDoorSr
namespace Go.Proofs.YthncnkkpfcbkfaaDoor.sectorsScans
open Go.ChangeShapes Go.WideShapes Go.ChangeAt Go.RowKit Go.PlainAid
open Go.ChangeMaps (open_string shut_string)

theorem own : ownKnob Tryd.prog.godebug = none := by kernel_rfl
theorem laidOut : laidOutB Tryd.prog = true := by kernel_rfl
theorem scanF_len {L : List (List UInt8)} {gen : Int} : ∀ (f used : Nat) (recs : List (List UInt8)), recs.length ≤ used → used ≤ L.length → (scanF L gen f used recs).1.length ≤ L.length
  | 0, used, recs, h1, h2 => by show recs.length ≤ _; omega
  | f + 1, used, recs, h1, h2 => by
    unfold scanF
    cases ho : oneS L gen used recs.length with
    | none => show recs.length ≤ _; omega
    | some dn =>
      obtain ⟨d, n⟩ := dn
      have := oneS_some ho
      exact scanF_len f (used + n) (recs ++ [d]) (by simp; omega) (by omega)
theorem scanS_len (L : List (List UInt8)) (gen : Int) : (scanS L gen).1.length ≤ L.length := scanF_len _ _ _ (Nat.le_refl _) (Nat.zero_le _)
theorem scan_as (lv : Value) (gen : Int) (L P : List (List UInt8)) (us : Nat) (hp : scanS L gen = (P, us)) (w : World) (hl : CapR w lv L) (hL : (L.length + 1) * 24 ≤ 140737488355328) :
    Calls Tryd.prog 18 #[lv, .int .i64 gen] w fun e w' => ∃ v, e = .returned (.tuple #[v, .int .i64 (us : Int)]) ∧ Rows w' w.heap.size v P ∧ Kp No w w' := by
  refine (scan_any lv gen L w hl hL).mono ?_
  rintro e w' ⟨v, h1, h2, h3⟩
  rw [hp] at h1 h2
  exact ⟨v, h1, h2, h3⟩
theorem rscan_as (lv : Value) (gen : Int) (L P : List (List UInt8)) (us : Nat) (hp : scanS L gen = (P, us)) (w : World) (hl : ArgR w lv L) (hL : (L.length + 1) * 24 ≤ 140737488355328) :
    Calls Tryd.prog 20 #[lv, .int .i64 gen] w fun e w' => ∃ v, e = .returned (.tuple #[v, .int .i64 (us : Int)]) ∧ Rows w' w.heap.size v P ∧ Kp No w w' := by
  refine (rscan_any lv gen L w hl hL).mono ?_
  rintro e w' ⟨v, h1, h2, h3⟩
  rw [hp] at h1 h2
  exact ⟨v, h1, h2, h3⟩
set_option maxRecDepth 100000 in
set_option maxHeartbeats 4000000 in
theorem walk (v : Value) (L : List (List UInt8)) (n1 : Int) (w : World) (hv : ArgR w v L) (hs : L.length * 24 ≤ reachBytes) (hz : ∀ l ∈ L, l.length ≤ reachBytes) (_x1 : -9223372036854775808 ≤ n1 ∧ n1 ≤ 9223372036854775807) :
    Calls Tryd.prog 6 #[v, .int .i64 n1] w fun e w' => e = .returned (.bool true) ∧ Below w.heap.size w w' := by
  have hL : (L.length + 1) * 24 ≤ 140737488355328 := by unfold reachBytes at hs; omega
  have hl : ∀ l ∈ L, l.length ≤ 140737488355327 := fun l h => by have := hz l h; unfold reachBytes at this; omega
  obtain ⟨P, us, hp⟩ : ∃ P us, scanS L n1 = (P, us) := ⟨_, _, rfl⟩
  have hlen : P.length ≤ 140737488355328 := by have := scanS_len L n1; rw [hp] at this; have h2 : P.length ≤ L.length := this; omega
  have HV := Lib.hid hv; have HP := Lib.hid hp; have HLN := Lib.hid hlen; have HL := Lib.hid hL; have HLL := Lib.hid hl
  clear hv _x1 hp hlen hL hl hs hz
  go_enter Tryd.func6, Tryd.ntmps6
  go_wp2_with fail
  refine (awake_any _).mono ?_
  rintro e w1 ⟨rfl, k1⟩
  have K1 := Lib.hid k1; clear k1
  go_wp2_with fail
  refine (own_any v L w1 (HV.out.no K1.out) (by have := HL.out; omega) HLL.out).mono ?_
  rintro e w2 ⟨u, rfl, r2, k2⟩
  have K2 := Lib.hid (K1.out.trans k2); have R2 := Lib.hid r2; clear k2 r2
  go_wp2_with fail
  refine (scan_as u n1 L P us HP.out w2 R2.out.cap HL.out).mono ?_
  rintro e w3 ⟨v3, rfl, r3, k3⟩
  have K3 := Lib.hid (K2.out.trans k3); have R3 := Lib.hid r3; clear k3 r3
  go_wp2_with fail
  refine (rscan_as v n1 L P us HP.out w3 (HV.out.no K3.out) HL.out).mono ?_
  rintro e w4 ⟨v4, rfl, r4, k4⟩
  have K4 := Lib.hid (K3.out.trans k4); have R4 := Lib.hid r4; have R3' := Lib.hid (R3.out.no k4); clear k4 r4
  go_wp2_with fail
  refine (sameAll_eq v3 v4 P P true w4 R3'.out.arg R4.out.arg HLN.out (by simp)).mono ?_
  rintro e w5 ⟨rfl, k5⟩
  have K5 := Lib.hid (K4.out.trans k5); clear k5
  go_wp2
  go_ret
  exact ⟨rfl, K5.out.below (Nat.le_refl _) (fun _ _ m => m)⟩

set_option maxRecDepth 100000 in
theorem lifted (os : Os) (started : os.Started) (H : Type) (enc : TypeId × Value → H) :
    ReturnsInHanded {} Tryd.checked os 6 .any (fun w args => (Rows.sectorsScansSpec.pre enc Tryd.prog Tryd.f6 Rows.sectorsScansRow.domain false w args ∧ laidMetH Tryd.prog [("unicode/utf8.acceptRanges", Rows.laid_unicode_utf8_acceptRanges), ("unicode/utf8.first", Rows.laid_unicode_utf8_first)] w) ∧ sizedMet enc Tryd.prog Tryd.f6 (OpenSpec.ofChange Rows.sectorsScansSpec) false w args)
      (Rows.sectorsScansSpec.post enc Tryd.prog Tryd.f6 false true false false) := by
  refine returnsInHanded_and_shaped (C := Tryd.checked) (X := (fun w _ => laidMetH Tryd.prog [("unicode/utf8.acceptRanges", Rows.laid_unicode_utf8_acceptRanges), ("unicode/utf8.first", Rows.laid_unicode_utf8_first)] w)) (fun _ _ _ hh h => h.of_heap hh) own started (by kernel_rfl) Tryd.func6
    (ChangeSpec.witness_shaped (enc := enc) (C := Tryd.checked) (os := os) (X := (fun w _ => laidMetH Tryd.prog [("unicode/utf8.acceptRanges", Rows.laid_unicode_utf8_acceptRanges), ("unicode/utf8.first", Rows.laid_unicode_utf8_first)] w)) false (World.laidAll Tryd.prog os [("unicode/utf8.acceptRanges", Rows.laid_unicode_utf8_acceptRanges), ("unicode/utf8.first", Rows.laid_unicode_utf8_first)]) #[.slice none 0 0, .int .i64 0] 8 (World.laidAll_os _ _ _)
      (World.shaped_of_ZipB (by kernel_rfl) (by kernel_rfl)) (by kernel_rfl) (by kernel_rfl) (by kernel_rfl)
      (by rw [MakeChecks.laidMetH_plain _ _ _ (by kernel_rfl)]; exact laidMet_laidAll _ (by kernel_rfl) (by kernel_rfl))) ?_
  intro W base args ds gs before hval0 hW hcnd hsz0 hL hsh _
  have hval : ∀ (j : Nat) t v, Tryd.f6.params[j]? = some t → args[j]? = some v → Value.okWide Tryd.prog W .any base t v := hval0
  have hW' := hW
  obtain ⟨p, q, hA0, hV, rfl, hfz, hnd⟩ := hW
  have hA : DataW.TrodAll enc Tryd.prog W 0 (fun _ => true) true Tryd.f6.params.toList args.toList ds p := hA0
  rw [Tryd.params6] at hA hval
  obtain ⟨v0, vs0, d0, ds0, p0, q0, hargs, rfl, rfl, h0, r0⟩ := trodAll_cons hA
  obtain ⟨v1, vs1, d1, ds1, p1, q1, rfl, rfl, rfl, h1, r1⟩ := trodAll_cons r0
  obtain ⟨rfl, rfl, rfl⟩ := trodAll_nil r1
  obtain rfl : args = #[v0, v1] := by cases args; simp_all
  obtain ⟨rfl, rfl⟩ := trodVars_none hV
  have hsz : ∀ (j : Nat) (t : TypeId) (d : DataW H), ([22, 3] : List TypeId)[j]? = some t → [d0, d1][j]? = some d → ∀ n ∈ d.weights Tryd.prog t, n ≤ reachBytes := by
    intro j t d ht hd n hn
    have hsz1 : (DataW.weightsEach Tryd.prog ([22, 3] : List TypeId) [d0, d1]).all (· ≤ reachBytes) = true := hsz0
    have := List.all_eq_true.1 hsz1 n (DataW.weights_mem_each ht hd n hn)
    simpa using this
  have k0 := h0
  have lt0 : ∀ x ∈ p0, x.block < W.heap.size := by obtain ⟨m, hm⟩ := k0; exact DataW.trod_lt m _ _ _ hm
  obtain ⟨L0, a0, s0, z0⟩ := open_rowsR Tryd.underlying22 Tryd.underlying26 Tryd.underlying5 (by kernel_rfl) (by kernel_rfl) (by kernel_rfl) (by kernel_rfl) (hval 0 22 v0 rfl rfl) h0 (hsz 0 22 _ rfl rfl)
  have k1 := h1
  have lt1 : ∀ x ∈ p1, x.block < W.heap.size := by obtain ⟨m, hm⟩ := k1; exact DataW.trod_lt m _ _ _ hm
  obtain ⟨n1, rfl, rfl, rfl, x1⟩ := open_int Tryd.underlying3 (hval 1 3 v1 rfl rfl) h1
  refine (walk v0 L0 n1 W a0 s0 z0 (bounds_i64 x1)).mono fun e W' ⟨he, bel⟩ => ?_
  subst he
  exact ⟨_, rfl, _, _, _, [], _, [], hW', trodAll_mk1 (shut_bool Tryd.underlying4 _), (trodAll_cons_mk (Below.trod laidOut (by kernel_rfl) (of_decide_eq_true (by kernel_rfl)) k0 bel lt0) (trodAll_cons_mk (Below.trod laidOut (by kernel_rfl) (of_decide_eq_true (by kernel_rfl)) k1 bel lt1) trodAll_mk0)), rfl, bel.frame _, fun h => by cases h⟩

theorem over : Rows.sectorsScansRow.holds Tryd.pinned (OpenSpec.ofChange Rows.sectorsScansSpec) :=
  OpenClaim.holds_of_wide 6 Tryd.f6 rfl rfl rfl rfl rfl rfl rfl ⟨rfl, rfl, rfl, rfl, rfl⟩ rfl rfl rfl rfl rfl (by kernel_rfl) Tryd.func6 (by kernel_rfl)
    (of_decide_eq_true (by kernel_rfl)) (by unfold Func.isWrapper; first | (rw [if_pos (by decide +kernel)]; kernel_rfl) | (rw [if_neg (by decide +kernel)]; exact ⟨rfl, rfl⟩))
    (fun os started H enc _ => lifted os started H enc)

theorem proved : Rows.SectorsScansCardSaid :=
  Claim7.holds_tied_plain_at .later [] [.data, .pinned] true (true, "dc3eabe4416708f3bf80b9d2489c313fb0226dd42c19edfe3363a148024dce7c") true over (fun _ h => by cases h) (by kernel_rfl) (fun _ h => by cases h) sectorsScans_row_tie rfl ⟨rfl, rfl⟩ (by kernel_rfl) rfl
    (fun f fn hf hfn => by
      obtain rfl : f = 6 := Option.some.inj ((show Tryd.prog.funcNamed "sublet/subletlaw10.SectorsScans" = some 6 by kernel_rfl).symm.trans hf) |>.symm
      obtain rfl : fn = Tryd.f6 := (Option.some.inj (Tryd.func6.symm.trans hfn)).symm
      exact ⟨by kernel_rfl, fun j t ht => by
        rw [Tryd.params6] at ht
        have hm : t ∈ ([22, 3] : List TypeId) := by simpa using Array.mem_of_getElem? ht
        have hall : (([22, 3] : List TypeId).all fun u => !Tryd.prog.wantsStandIn u) = true := by kernel_rfl
        exact (show Tryd.prog.wantsStandIn t = false by simpa using List.all_eq_true.1 hall t hm)⟩)
    (by kernel_rfl)
#print axioms proved
end Go.Proofs.YthncnkkpfcbkfaaDoor.sectorsScans
