/- SectorsPacks returns true for any generation, number and bytes: Pack answers what the document says. No condition. -/
import Derived.Test.YthncnkkpfcbkfaaDoorSj
import Derived.Test.YthncnkkpfcbkfaaDoorCards
namespace Go.Proofs.YthncnkkpfcbkfaaDoor.sectorsPacks
open Go.ChangeShapes Go.WideShapes Go.ChangeAt Go.RowKit Go.PlainAid
open Go.ChangeMaps (open_string shut_string)

theorem own : ownKnob Tryd.prog.godebug = none := by kernel_rfl
theorem laidOut : laidOutB Tryd.prog = true := by kernel_rfl
theorem pack_as (gen seq : Int) (A : Option Addr) (n c : Nat) (l : List UInt8) (P : List (List UInt8)) (pe : Int) (hp : packS gen seq l = (P, pe)) (w : World) (hv : ArgB w (.slice A n c) l) (hm : c ≤ maxLen) :
    Calls Tryd.prog 11 #[.int .i64 gen, .int .i64 seq, .slice A n c] w fun e w' => ∃ v, e = .returned (.tuple #[v, .int .i64 pe]) ∧ Rows w' w.heap.size v P ∧ Kp No w w' := by
  refine (pack_any gen seq A n c l w hv hm).mono ?_
  rintro e w' ⟨v, h1, h2, h3⟩
  rw [hp] at h1 h2
  exact ⟨v, h1, h2, h3⟩
theorem rpack_as (gen seq : Int) (A : Option Addr) (n c : Nat) (l : List UInt8) (P : List (List UInt8)) (pe : Int) (hp : packS gen seq l = (P, pe)) (w : World) (hv : ArgB w (.slice A n c) l) :
    Calls Tryd.prog 13 #[.int .i64 gen, .int .i64 seq, .slice A n c] w fun e w' => ∃ v, e = .returned (.tuple #[v, .int .i64 pe]) ∧ Rows w' w.heap.size v P ∧ Kp No w w' := by
  refine (rpack_any gen seq A n c l w hv).mono ?_
  rintro e w' ⟨v, h1, h2, h3⟩
  rw [hp] at h1 h2
  exact ⟨v, h1, h2, h3⟩
theorem pack_len (gen seq : Int) (l : List UInt8) : (packS gen seq l).1.length ≤ 4 := by
  unfold packS
  split
  · simp
  · split
    · simp
    · simp only [partsS_length, chunkN]; omega
set_option maxRecDepth 100000 in
set_option maxHeartbeats 4000000 in
theorem walk (n0 n1 : Int) (A : Option Addr) (n c : Nat) (l : List UInt8) (w : World) (_x0 : -9223372036854775808 ≤ n0 ∧ n0 ≤ 9223372036854775807) (_x1 : -9223372036854775808 ≤ n1 ∧ n1 ≤ 9223372036854775807) (hv : ArgB w (.slice A n c) l) (hc : c ≤ 140737488351232) :
    Calls Tryd.prog 4 #[.int .i64 n0, .int .i64 n1, .slice A n c] w fun e w' => e = .returned (.bool true) ∧ Below w.heap.size w w' := by
  obtain ⟨_, hn, hnc⟩ := hv.cs
  subst hn
  have HV := Lib.hid hv; clear hv _x0 _x1
  obtain ⟨P, pe, hp⟩ : ∃ P pe, packS n0 n1 l = (P, pe) := ⟨_, _, rfl⟩
  have hlen : P.length ≤ 140737488355328 := by have := pack_len n0 n1 l; rw [hp] at this; have h2 : P.length ≤ 4 := this; omega
  have HP := Lib.hid hp; have HLN := Lib.hid hlen; clear hp hlen
  go_enter Tryd.func4, Tryd.ntmps4
  go_wp2_with fail
  refine (awake_any _).mono ?_
  rintro e w1 ⟨rfl, k1⟩
  have K1 := Lib.hid k1; clear k1
  go_wp2_with (at_builtin; refine wpList_appB _ rfl (.tmp 16) (.tmp 17) rfl w1.heap.size _ [] rfl (by exact own_fresh w1 _ _ (Nat.le_refl _)) _ _ _ l rfl rfl ((HV.out.no (K1.out.alloc _)).cs.1) (by simp; omega) (by simp) ?_)
  intro A2 n2 c2 w2 o2 f2 _
  have K2 := Lib.hid (K1.out.trans (f2 w1 (Nat.le_refl _) ((Kp.refl No w1).alloc _)))
  obtain ⟨A3, c3, e3, _, hm3⟩ := own_cap o2
  injection e3 with e1 e2 e3
  subst e1 e3
  clear e2
  have HA2 := Lib.hid (own_argB o2); clear o2 f2
  go_wp2_with fail
  refine (pack_as n0 n1 A2 n2 c2 l P pe HP.out w2 HA2.out hm3).mono ?_
  rintro e w3 ⟨v3, rfl, r3, k3⟩
  have K3 := Lib.hid (K2.out.trans k3); have R3 := Lib.hid r3; clear k3 r3
  go_wp2_with fail
  refine (rpack_as n0 n1 A l.length c l P pe HP.out w3 (HV.out.no K3.out)).mono ?_
  rintro e w4 ⟨v4, rfl, r4, k4⟩
  have K4 := Lib.hid (K3.out.trans k4); have R4 := Lib.hid r4; have R3' := Lib.hid (R3.out.no k4); clear k4 r4
  go_wp2_with fail
  refine (sameAll_eq v3 v4 P P true w4 R3'.out.arg R4.out.arg HLN.out (by simp)).mono ?_
  rintro e w5 ⟨rfl, k5⟩
  have K5 := Lib.hid (K4.out.trans k5); clear k5
  go_wp2
  go_ret
  exact ⟨rfl, K5.out.below (Nat.le_refl _) (fun _ _ m => m)⟩

set_option maxRecDepth 100000 in
theorem lifted (os : Os) (started : os.Started) (H : Type) (enc : TypeId × Value → H) :
    ReturnsInHanded {} Tryd.checked os 4 .any (fun w args => (Rows.sectorsPacksSpec.pre enc Tryd.prog Tryd.f4 Rows.sectorsPacksRow.domain false w args ∧ laidMetH Tryd.prog [("unicode/utf8.acceptRanges", Rows.laid_unicode_utf8_acceptRanges), ("unicode/utf8.first", Rows.laid_unicode_utf8_first)] w) ∧ sizedMet enc Tryd.prog Tryd.f4 (OpenSpec.ofChange Rows.sectorsPacksSpec) false w args)
      (Rows.sectorsPacksSpec.post enc Tryd.prog Tryd.f4 false true false false) := by
  refine returnsInHanded_and_shaped (C := Tryd.checked) (X := (fun w _ => laidMetH Tryd.prog [("unicode/utf8.acceptRanges", Rows.laid_unicode_utf8_acceptRanges), ("unicode/utf8.first", Rows.laid_unicode_utf8_first)] w)) (fun _ _ _ hh h => h.of_heap hh) own started (by kernel_rfl) Tryd.func4
    (ChangeSpec.witness_shaped (enc := enc) (C := Tryd.checked) (os := os) (X := (fun w _ => laidMetH Tryd.prog [("unicode/utf8.acceptRanges", Rows.laid_unicode_utf8_acceptRanges), ("unicode/utf8.first", Rows.laid_unicode_utf8_first)] w)) false (World.laidAll Tryd.prog os [("unicode/utf8.acceptRanges", Rows.laid_unicode_utf8_acceptRanges), ("unicode/utf8.first", Rows.laid_unicode_utf8_first)]) #[.int .i64 0, .int .i64 0, .slice none 0 0] 8 (World.laidAll_os _ _ _)
      (World.shaped_of_ZipB (by kernel_rfl) (by kernel_rfl)) (by kernel_rfl) (by kernel_rfl) (by kernel_rfl)
      (by rw [MakeChecks.laidMetH_plain _ _ _ (by kernel_rfl)]; exact laidMet_laidAll _ (by kernel_rfl) (by kernel_rfl))) ?_
  intro W base args ds gs before hval0 hW hcnd hsz0 hL hsh _
  have hval : ∀ (j : Nat) t v, Tryd.f4.params[j]? = some t → args[j]? = some v → Value.okWide Tryd.prog W .any base t v := hval0
  have hW' := hW
  obtain ⟨p, q, hA0, hV, rfl, hfz, hnd⟩ := hW
  have hA : DataW.TrodAll enc Tryd.prog W 0 (fun _ => true) true Tryd.f4.params.toList args.toList ds p := hA0
  rw [Tryd.params4] at hA hval
  obtain ⟨v0, vs0, d0, ds0, p0, q0, hargs, rfl, rfl, h0, r0⟩ := trodAll_cons hA
  obtain ⟨v1, vs1, d1, ds1, p1, q1, rfl, rfl, rfl, h1, r1⟩ := trodAll_cons r0
  obtain ⟨v2, vs2, d2, ds2, p2, q2, rfl, rfl, rfl, h2, r2⟩ := trodAll_cons r1
  obtain ⟨rfl, rfl, rfl⟩ := trodAll_nil r2
  obtain rfl : args = #[v0, v1, v2] := by cases args; simp_all
  obtain ⟨rfl, rfl⟩ := trodVars_none hV
  have hsz : ∀ (j : Nat) (t : TypeId) (d : DataW H), ([3, 3, 26] : List TypeId)[j]? = some t → [d0, d1, d2][j]? = some d → ∀ n ∈ d.weights Tryd.prog t, n ≤ reachBytes := by
    intro j t d ht hd n hn
    have hsz1 : (DataW.weightsEach Tryd.prog ([3, 3, 26] : List TypeId) [d0, d1, d2]).all (· ≤ reachBytes) = true := hsz0
    have := List.all_eq_true.1 hsz1 n (DataW.weights_mem_each ht hd n hn)
    simpa using this
  have k0 := h0
  have lt0 : ∀ x ∈ p0, x.block < W.heap.size := by obtain ⟨m, hm⟩ := k0; exact DataW.trod_lt m _ _ _ hm
  obtain ⟨n0, rfl, rfl, rfl, x0⟩ := open_int Tryd.underlying3 (hval 0 3 v0 rfl rfl) h0
  have k1 := h1
  have lt1 : ∀ x ∈ p1, x.block < W.heap.size := by obtain ⟨m, hm⟩ := k1; exact DataW.trod_lt m _ _ _ hm
  obtain ⟨n1, rfl, rfl, rfl, x1⟩ := open_int Tryd.underlying3 (hval 1 3 v1 rfl rfl) h1
  have k2 := h2
  have lt2 : ∀ x ∈ p2, x.block < W.heap.size := by obtain ⟨m, hm⟩ := k2; exact DataW.trod_lt m _ _ _ hm
  obtain ⟨A2, n2, c2, l2, rfl, a2, z2⟩ := open_bytesA Tryd.underlying26 Tryd.underlying5 (by kernel_rfl) (by kernel_rfl) (hval 2 26 v2 rfl rfl) h2 (hsz 2 26 _ rfl rfl)
  refine (walk n0 n1 A2 n2 c2 l2 W (bounds_i64 x0) (bounds_i64 x1) a2 z2).mono fun e W' ⟨he, bel⟩ => ?_
  subst he
  exact ⟨_, rfl, _, _, _, [], _, [], hW', trodAll_mk1 (shut_bool Tryd.underlying4 _), (trodAll_cons_mk (Below.trod laidOut (by kernel_rfl) (of_decide_eq_true (by kernel_rfl)) k0 bel lt0) (trodAll_cons_mk (Below.trod laidOut (by kernel_rfl) (of_decide_eq_true (by kernel_rfl)) k1 bel lt1) (trodAll_cons_mk (Below.trod laidOut (by kernel_rfl) (of_decide_eq_true (by kernel_rfl)) k2 bel lt2) trodAll_mk0))), rfl, bel.frame _, fun h => by cases h⟩

theorem over : Rows.sectorsPacksRow.holds Tryd.pinned (OpenSpec.ofChange Rows.sectorsPacksSpec) :=
  OpenClaim.holds_of_wide 4 Tryd.f4 rfl rfl rfl rfl rfl rfl rfl ⟨rfl, rfl, rfl, rfl, rfl⟩ rfl rfl rfl rfl rfl (by kernel_rfl) Tryd.func4 (by kernel_rfl)
    (of_decide_eq_true (by kernel_rfl)) (by unfold Func.isWrapper; first | (rw [if_pos (by decide +kernel)]; kernel_rfl) | (rw [if_neg (by decide +kernel)]; exact ⟨rfl, rfl⟩))
    (fun os started H enc _ => lifted os started H enc)

theorem proved : Rows.SectorsPacksCardSaid :=
  Claim7.holds_tied_plain_at .later [] [.data, .pinned] true (true, "dc3eabe4416708f3bf80b9d2489c313fb0226dd42c19edfe3363a148024dce7c") true over (fun _ h => by cases h) (by kernel_rfl) (fun _ h => by cases h) sectorsPacks_row_tie rfl ⟨rfl, rfl⟩ (by kernel_rfl) rfl
    (fun f fn hf hfn => by
      obtain rfl : f = 4 := Option.some.inj ((show Tryd.prog.funcNamed "sublet/subletlaw10.SectorsPacks" = some 4 by kernel_rfl).symm.trans hf) |>.symm
      obtain rfl : fn = Tryd.f4 := (Option.some.inj (Tryd.func4.symm.trans hfn)).symm
      exact ⟨by kernel_rfl, fun j t ht => by
        rw [Tryd.params4] at ht
        have hm : t ∈ ([3, 3, 26] : List TypeId) := by simpa using Array.mem_of_getElem? ht
        have hall : (([3, 3, 26] : List TypeId).all fun u => !Tryd.prog.wantsStandIn u) = true := by kernel_rfl
        exact (show Tryd.prog.wantsStandIn t = false by simpa using List.all_eq_true.1 hall t hm)⟩)
    (by kernel_rfl)
#print axioms proved
end Go.Proofs.YthncnkkpfcbkfaaDoor.sectorsPacks
