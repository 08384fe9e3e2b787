/- SectorsLooks returns true for any bytes: Look answers what the document says. No condition. -/
import Derived.Test.YthncnkkpfcbkfaaDoorSj
import Derived.Test.YthncnkkpfcbkfaaDoorCards
import Derived.Test.YthncnkkpfcbkfaaDoorRk
namespace Go.Proofs.YthncnkkpfcbkfaaDoor.sectorsLooks
open Go.ChangeShapes Go.WideShapes Go.ChangeAt Go.RowKit Go.PlainAid
open Go.ChangeMaps (open_string shut_string)

theorem own : ownKnob Tryd.prog.godebug = none := by kernel_rfl
theorem laidOut : laidOutB Tryd.prog = true := by kernel_rfl
set_option maxRecDepth 100000 in
set_option maxHeartbeats 4000000 in
theorem walk (A : Option Addr) (n c : Nat) (l : List UInt8) (w : World) (hv : ArgB w (.slice A n c) l) (hc : c ≤ 140737488351232) :
    Calls Tryd.prog 5 #[.slice A n c] w fun e w' => e = .returned (.bool true) ∧ Below w.heap.size w w' := by
  obtain ⟨_, hn, hnc⟩ := hv.cs
  subst hn
  have HV := Lib.hid hv; clear hv
  go_enter Tryd.func5, Tryd.ntmps5
  go_wp2_with fail
  refine (awake_any _).mono ?_
  rintro e w1 ⟨rfl, k1⟩
  have K1 := Lib.hid k1; clear k1
  go_wp2_with (at_builtin; refine wpList_appB _ rfl (.tmp 10) (.tmp 11) rfl w1.heap.size _ [] rfl (by exact own_fresh w1 _ _ (Nat.le_refl _)) _ _ _ l rfl rfl ((HV.out.no (K1.out.alloc _)).cs.1) (by simp; omega) (by simp) ?_)
  intro A2 n2 c2 w2 o2 f2 _
  have K2 := Lib.hid (K1.out.trans (f2 w1 (Nat.le_refl _) ((Kp.refl No w1).alloc _)))
  obtain ⟨A3, c3, e3, _, hm3⟩ := own_cap o2
  injection e3 with e1 e2 e3
  subst e1 e3
  clear e2
  have HA2 := Lib.hid (own_argB o2); clear o2 f2
  go_wp2_with fail
  refine (look_any A2 n2 c2 l w2 HA2.out hm3).mono ?_
  rintro e w3 ⟨k3, hr⟩
  have K3 := Lib.hid (K2.out.trans k3); clear k3
  cases hlo : lookS l with
  | none =>
    rw [hlo] at hr
    simp only at hr
    rw [show noPt = .agg #[.int .i64 0, .int .i64 0, .int .i64 0, .int .i64 0, .slice none 0 0] from rfl] at hr
    subst hr
    have HLO := Lib.hid hlo; clear hlo
    go_wp2_with fail
    refine (rlook_any A l.length c l _ (HV.out.no (K3.out.alloc _))).mono ?_
    rintro e w4 ⟨k4, hr⟩
    rw [HLO.out] at hr
    simp only at hr
    rw [show noPt = .agg #[.int .i64 0, .int .i64 0, .int .i64 0, .int .i64 0, .slice none 0 0] from rfl] at hr
    subst hr
    have K4 := Lib.hid ((K3.out.alloc _).trans k4)
    have bp := (Bk.new w3 33 [.int .i64 0, .int .i64 0, .int .i64 0, .int .i64 0, .slice none 0 0]).no k4
    clear k4
    have p0 : w4.cell? ⟨w3.heap.size, 0, none⟩ = some (.int .i64 0) := bp.cell 0
    have p1 : w4.cell? ⟨w3.heap.size, 1, none⟩ = some (.int .i64 0) := bp.cell 1
    have p2 : w4.cell? ⟨w3.heap.size, 2, none⟩ = some (.int .i64 0) := bp.cell 2
    have p3 : w4.cell? ⟨w3.heap.size, 3, none⟩ = some (.int .i64 0) := bp.cell 3
    have p4 : w4.cell? ⟨w3.heap.size, 4, none⟩ = some (.slice none 0 0) := bp.cell 4
    have hlt := bp.lt
    clear bp
    go_wp2_with fail
    refine (same_true 0 0 0 0 (.slice none 0 0) (.slice none 0 0) [] _ (ArgB.nil _ _ _) (ArgB.nil _ _ _)).mono ?_
    rintro e w5 ⟨rfl, k5⟩
    have K5 := Lib.hid ((K4.out.alloc _).trans k5); clear k5
    go_wp2
    go_ret
    exact ⟨rfl, K5.out.below (Nat.le_refl _) (fun _ _ m => m)⟩
  | some p =>
    rw [hlo] at hr
    simp only at hr
    obtain ⟨dv, hr, hd⟩ := hr
    obtain ⟨Ad, cd, hdv, _⟩ := own_len hd
    subst hdv
    rw [show ptV p (.slice Ad p.data.length cd) = .agg #[.int .i64 (p.gen : Int), .int .i64 (p.seq : Int), .int .i64 (p.idx : Int), .int .i64 (p.parts : Int), .slice Ad p.data.length cd] from rfl] at hr
    subst hr
    have HLO := Lib.hid hlo; clear hlo
    have HD := Lib.hid (own_argB hd); clear hd
    go_wp2_with fail
    refine (rlook_any A l.length c l _ (HV.out.no (K3.out.alloc _))).mono ?_
    rintro e w4 ⟨k4, hr⟩
    rw [HLO.out] at hr
    simp only at hr
    obtain ⟨dv, hr, hd⟩ := hr
    obtain ⟨Au, cu, hdv, _⟩ := own_len hd
    subst hdv
    rw [show ptV p (.slice Au p.data.length cu) = .agg #[.int .i64 (p.gen : Int), .int .i64 (p.seq : Int), .int .i64 (p.idx : Int), .int .i64 (p.parts : Int), .slice Au p.data.length cu] from rfl] at hr
    subst hr
    have HU := Lib.hid (own_argB hd); clear hd
    have K4 := Lib.hid ((K3.out.alloc _).trans k4)
    have bp := (Bk.new w3 33 [.int .i64 (p.gen : Int), .int .i64 (p.seq : Int), .int .i64 (p.idx : Int), .int .i64 (p.parts : Int), .slice Ad p.data.length cd]).no k4
    have HD4 := Lib.hid (HD.out.no (((Kp.refl No _).alloc _).trans k4))
    clear k4
    have p0 : w4.cell? ⟨w3.heap.size, 0, none⟩ = some (.int .i64 (p.gen : Int)) := bp.cell 0
    have p1 : w4.cell? ⟨w3.heap.size, 1, none⟩ = some (.int .i64 (p.seq : Int)) := bp.cell 1
    have p2 : w4.cell? ⟨w3.heap.size, 2, none⟩ = some (.int .i64 (p.idx : Int)) := bp.cell 2
    have p3 : w4.cell? ⟨w3.heap.size, 3, none⟩ = some (.int .i64 (p.parts : Int)) := bp.cell 3
    have p4 : w4.cell? ⟨w3.heap.size, 4, none⟩ = some (.slice Ad p.data.length cd) := bp.cell 4
    have hlt := bp.lt
    clear bp
    go_wp2_with fail
    refine (same_true p.gen p.seq p.idx p.parts (.slice Ad p.data.length cd) (.slice Au p.data.length cu) p.data _ (HD4.out.no ((Kp.refl No _).alloc _)) (HU.out.no ((Kp.refl No _).alloc _))).mono ?_
    rintro e w5 ⟨rfl, k5⟩
    have K5 := Lib.hid ((K4.out.alloc _).trans k5); clear k5
    go_wp2
    go_ret
    exact ⟨rfl, K5.out.below (Nat.le_refl _) (fun _ _ m => m)⟩

set_option maxRecDepth 100000 in
theorem lifted (os : Os) (started : os.Started) (H : Type) (enc : TypeId × Value → H) :
    ReturnsInHanded {} Tryd.checked os 5 .any (fun w args => (Rows.sectorsLooksSpec.pre enc Tryd.prog Tryd.f5 Rows.sectorsLooksRow.domain false w args ∧ laidMetH Tryd.prog [("unicode/utf8.acceptRanges", Rows.laid_unicode_utf8_acceptRanges), ("unicode/utf8.first", Rows.laid_unicode_utf8_first)] w) ∧ sizedMet enc Tryd.prog Tryd.f5 (OpenSpec.ofChange Rows.sectorsLooksSpec) false w args)
      (Rows.sectorsLooksSpec.post enc Tryd.prog Tryd.f5 false true false false) := by
  refine returnsInHanded_and_shaped (C := Tryd.checked) (X := (fun w _ => laidMetH Tryd.prog [("unicode/utf8.acceptRanges", Rows.laid_unicode_utf8_acceptRanges), ("unicode/utf8.first", Rows.laid_unicode_utf8_first)] w)) (fun _ _ _ hh h => h.of_heap hh) own started (by kernel_rfl) Tryd.func5
    (ChangeSpec.witness_shaped (enc := enc) (C := Tryd.checked) (os := os) (X := (fun w _ => laidMetH Tryd.prog [("unicode/utf8.acceptRanges", Rows.laid_unicode_utf8_acceptRanges), ("unicode/utf8.first", Rows.laid_unicode_utf8_first)] w)) false (World.laidAll Tryd.prog os [("unicode/utf8.acceptRanges", Rows.laid_unicode_utf8_acceptRanges), ("unicode/utf8.first", Rows.laid_unicode_utf8_first)]) #[.slice none 0 0] 8 (World.laidAll_os _ _ _)
      (World.shaped_of_ZipB (by kernel_rfl) (by kernel_rfl)) (by kernel_rfl) (by kernel_rfl) (by kernel_rfl)
      (by rw [MakeChecks.laidMetH_plain _ _ _ (by kernel_rfl)]; exact laidMet_laidAll _ (by kernel_rfl) (by kernel_rfl))) ?_
  intro W base args ds gs before hval0 hW hcnd hsz0 hL hsh _
  have hval : ∀ (j : Nat) t v, Tryd.f5.params[j]? = some t → args[j]? = some v → Value.okWide Tryd.prog W .any base t v := hval0
  have hW' := hW
  obtain ⟨p, q, hA0, hV, rfl, hfz, hnd⟩ := hW
  have hA : DataW.TrodAll enc Tryd.prog W 0 (fun _ => true) true Tryd.f5.params.toList args.toList ds p := hA0
  rw [Tryd.params5] at hA hval
  obtain ⟨v0, vs0, d0, ds0, p0, q0, hargs, rfl, rfl, h0, r0⟩ := trodAll_cons hA
  obtain ⟨rfl, rfl, rfl⟩ := trodAll_nil r0
  obtain rfl : args = #[v0] := by cases args; simp_all
  obtain ⟨rfl, rfl⟩ := trodVars_none hV
  have hsz : ∀ (j : Nat) (t : TypeId) (d : DataW H), ([26] : List TypeId)[j]? = some t → [d0][j]? = some d → ∀ n ∈ d.weights Tryd.prog t, n ≤ reachBytes := by
    intro j t d ht hd n hn
    have hsz1 : (DataW.weightsEach Tryd.prog ([26] : List TypeId) [d0]).all (· ≤ reachBytes) = true := hsz0
    have := List.all_eq_true.1 hsz1 n (DataW.weights_mem_each ht hd n hn)
    simpa using this
  have k0 := h0
  have lt0 : ∀ x ∈ p0, x.block < W.heap.size := by obtain ⟨m, hm⟩ := k0; exact DataW.trod_lt m _ _ _ hm
  obtain ⟨A0, n0, c0, l0, rfl, a0, z0⟩ := open_bytesA Tryd.underlying26 Tryd.underlying5 (by kernel_rfl) (by kernel_rfl) (hval 0 26 v0 rfl rfl) h0 (hsz 0 26 _ rfl rfl)
  refine (walk A0 n0 c0 l0 W a0 z0).mono fun e W' ⟨he, bel⟩ => ?_
  subst he
  exact ⟨_, rfl, _, _, _, [], _, [], hW', trodAll_mk1 (shut_bool Tryd.underlying4 _), (trodAll_cons_mk (Below.trod laidOut (by kernel_rfl) (of_decide_eq_true (by kernel_rfl)) k0 bel lt0) trodAll_mk0), rfl, bel.frame _, fun h => by cases h⟩

theorem over : Rows.sectorsLooksRow.holds Tryd.pinned (OpenSpec.ofChange Rows.sectorsLooksSpec) :=
  OpenClaim.holds_of_wide 5 Tryd.f5 rfl rfl rfl rfl rfl rfl rfl ⟨rfl, rfl, rfl, rfl, rfl⟩ rfl rfl rfl rfl rfl (by kernel_rfl) Tryd.func5 (by kernel_rfl)
    (of_decide_eq_true (by kernel_rfl)) (by unfold Func.isWrapper; first | (rw [if_pos (by decide +kernel)]; kernel_rfl) | (rw [if_neg (by decide +kernel)]; exact ⟨rfl, rfl⟩))
    (fun os started H enc _ => lifted os started H enc)

theorem proved : Rows.SectorsLooksCardSaid :=
  Claim7.holds_tied_plain_at .later [] [.data, .pinned] true (true, "dc3eabe4416708f3bf80b9d2489c313fb0226dd42c19edfe3363a148024dce7c") true over (fun _ h => by cases h) (by kernel_rfl) (fun _ h => by cases h) sectorsLooks_row_tie rfl ⟨rfl, rfl⟩ (by kernel_rfl) rfl
    (fun f fn hf hfn => by
      obtain rfl : f = 5 := Option.some.inj ((show Tryd.prog.funcNamed "sublet/subletlaw10.SectorsLooks" = some 5 by kernel_rfl).symm.trans hf) |>.symm
      obtain rfl : fn = Tryd.f5 := (Option.some.inj (Tryd.func5.symm.trans hfn)).symm
      exact ⟨by kernel_rfl, fun j t ht => by
        rw [Tryd.params5] at ht
        have hm : t ∈ ([26] : List TypeId) := by simpa using Array.mem_of_getElem? ht
        have hall : (([26] : List TypeId).all fun u => !Tryd.prog.wantsStandIn u) = true := by kernel_rfl
        exact (show Tryd.prog.wantsStandIn t = false by simpa using List.all_eq_true.1 hall t hm)⟩)
    (by kernel_rfl)
#print axioms proved
end Go.Proofs.YthncnkkpfcbkfaaDoor.sectorsLooks
