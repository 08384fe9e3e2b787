/- StampsMakes returns true for any list and number: Extend and Next answer what the document says. No condition. -/
import Derived.Test.YtfbogdeodpkhcaaDoorStJ
import Derived.Test.YtfbogdeodpkhcaaDoorCards
namespace Go.Proofs.YtfbogdeodpkhcaaDoor.stampsMakes
open Go.ChangeShapes Go.WideShapes Go.ChangeAt Go.RowKit Go.PlainAid
open Go.ChangeMaps (open_string shut_string)

theorem own : ownKnob Tryd.prog.godebug = none := by kernel_rfl
theorem laidOut : laidOutB Tryd.prog = true := by kernel_rfl
set_option maxRecDepth 100000 in
set_option maxHeartbeats 4000000 in
theorem walk (v0 : Value) (L0 : List Int) (n1 : Int) (w : World) (a0 : ArgInts w v0 L0) (l0 : L0.length ≤ 17592186043904) (z0 : ∀ n ∈ L0, -9223372036854775808 ≤ n ∧ n ≤ 9223372036854775807) (_x1 : n1 < 9223372036854775808) (hL : Lw w) : Calls Tryd.prog 5 #[v0, .int .i64 n1] w fun e w' => e = .returned (.bool true) ∧ Below w.heap.size w w' := by
  have HL := Lib.hid hL; clear hL
  have H0 := Lib.hid a0; clear a0
  have m0 : L0.length ≤ maxLen := by unfold maxLen; omega
  go_enter Tryd.func5, Tryd.ntmps5
  go_wp2_with fail
  refine (awakeS_any _ HL.out).mono ?_
  rintro e w1 ⟨rfl, k⟩
  have K1 := Lib.hid k; clear k
  go_wp2_with fail
  refine (ownS_any _ _ _ (H0.out.no K1.out) l0).mono ?_
  rintro e w2 ⟨rA1, rfl, o, k⟩
  have K2 := Lib.hid k; clear k
  have A1 := Lib.hid o.arg
  have OA1 := Lib.hid o; clear o
  go_wp2_with fail
  refine (extS_any _ _ n1 _ A1.out m0).mono ?_
  rintro e w3 ⟨rX1, rfl, o, k⟩
  have K3 := Lib.hid k; clear k
  have X1 := Lib.hid o.arg
  have OX1 := Lib.hid o; clear o
  go_wp2_with fail
  refine (rextS_any _ _ n1 _ (((H0.out.no K1.out).no K2.out).no K3.out) m0).mono ?_
  rintro e w4 ⟨rX2, rfl, o, k⟩
  have K4 := Lib.hid k; clear k
  have X2 := Lib.hid o.arg
  have OX2 := Lib.hid o; clear o
  go_wp2_with fail
  refine (ownS_any _ _ _ ((((H0.out.no K1.out).no K2.out).no K3.out).no K4.out) l0).mono ?_
  rintro e w5 ⟨rA2, rfl, o, k⟩
  have K5 := Lib.hid k; clear k
  have A2 := Lib.hid o.arg
  have OA2 := Lib.hid o; clear o
  go_wp2_with fail
  refine (nextS_any _ _ _ A2.out m0).mono ?_
  rintro e w6 ⟨rY1, rfl, o, k⟩
  have K6 := Lib.hid k; clear k
  have Y1 := Lib.hid o.arg
  have OY1 := Lib.hid o; clear o
  go_wp2_with fail
  refine (rnextS_any _ _ _ ((((((H0.out.no K1.out).no K2.out).no K3.out).no K4.out).no K5.out).no K6.out) m0).mono ?_
  rintro e w7 ⟨rY2, rfl, o, k⟩
  have K7 := Lib.hid k; clear k
  have Y2 := Lib.hid o.arg
  have OY2 := Lib.hid o; clear o
  go_wp2_with fail
  refine (sameS_eq _ _ _ _ _ ((((X1.out.no K4.out).no K5.out).no K6.out).no K7.out) (((X2.out.no K5.out).no K6.out).no K7.out) (ext_max _ _) rfl).mono ?_
  rintro e w8 ⟨rfl, k⟩
  have K8 := Lib.hid k; clear k
  go_wp2_with fail
  refine (sameS_eq _ _ _ _ _ ((Y1.out.no K7.out).no K8.out) (Y2.out.no K8.out) (next_max m0) rfl).mono ?_
  rintro e w9 ⟨rfl, k⟩
  have K9 := Lib.hid k; clear k
  go_wp2
  go_ret
  exact ⟨rfl, (((((((((((((((((K1.out).trans K2.out)).trans K3.out)).trans K4.out)).trans K5.out)).trans K6.out)).trans K7.out)).trans K8.out)).trans K9.out)).below (Nat.le_refl _) (fun _ _ m => m)⟩

set_option maxRecDepth 100000 in
theorem lifted (os : Os) (started : os.Started) (H : Type) (enc : TypeId × Value → H) :
    ReturnsInHanded {} Tryd.checked os 5 .any (fun w args => (Rows.stampsMakesSpec.pre enc Tryd.prog Tryd.f5 Rows.stampsMakesRow.domain false w args ∧ laidMetH Tryd.prog LAID w) ∧ sizedMet enc Tryd.prog Tryd.f5 (OpenSpec.ofChange Rows.stampsMakesSpec) false w args)
      (Rows.stampsMakesSpec.post enc Tryd.prog Tryd.f5 false true false false) := by
  refine returnsInHanded_and_shaped (C := Tryd.checked) (X := (fun w _ => laidMetH Tryd.prog LAID w)) (fun _ _ _ hh h => h.of_heap hh) own started (by kernel_rfl) Tryd.func5
    (ChangeSpec.witness_shaped (enc := enc) (C := Tryd.checked) (os := os) (X := (fun w _ => laidMetH Tryd.prog LAID w)) false (World.laidAll Tryd.prog os LAID) #[.slice none 0 0, .int .i64 0] 8 (World.laidAll_os _ _ _)
      (World.shaped_of_ZipB (by kernel_rfl) (by kernel_rfl)) (by kernel_rfl) (by kernel_rfl) (by kernel_rfl)
      (by rw [MakeChecks.laidMetH_plain _ _ _ (by kernel_rfl)]; exact laidMet_laidAll _ (by kernel_rfl) (by kernel_rfl))) ?_
  intro W base args ds gs before hval0 hW hcnd hsz0 hL hsh _
  have hval : ∀ (j : Nat) t v, Tryd.f5.params[j]? = some t → args[j]? = some v → Value.okWide Tryd.prog W .any base t v := hval0
  have hW' := hW
  obtain ⟨p, q, hA0, hV, rfl, hfz, hnd⟩ := hW
  have hA : DataW.TrodAll enc Tryd.prog W 0 (fun _ => true) true Tryd.f5.params.toList args.toList ds p := hA0
  rw [Tryd.params5] at hA hval
  obtain ⟨v0, vs0, d0, ds0, p0, q0, hargs, rfl, rfl, h0, r0⟩ := trodAll_cons hA
  obtain ⟨v1, vs1, d1, ds1, p1, q1, rfl, rfl, rfl, h1, r1⟩ := trodAll_cons r0
  obtain ⟨rfl, rfl, rfl⟩ := trodAll_nil r1
  obtain rfl : args = #[v0, v1] := by cases args; simp_all
  obtain ⟨rfl, rfl⟩ := trodVars_none hV
  have hsz : ∀ (j : Nat) (t : TypeId) (d : DataW H), ([22, 3] : List TypeId)[j]? = some t → [d0, d1][j]? = some d → ∀ n ∈ d.weights Tryd.prog t, n ≤ reachBytes := by
    intro j t d ht hd n hn
    have hsz1 : (DataW.weightsEach Tryd.prog ([22, 3] : List TypeId) [d0, d1]).all (· ≤ reachBytes) = true := hsz0
    have := List.all_eq_true.1 hsz1 n (DataW.weights_mem_each ht hd n hn)
    simpa using this
  have k0 := h0
  have lt0 : ∀ x ∈ p0, x.block < W.heap.size := by obtain ⟨m, hm⟩ := k0; exact DataW.trod_lt m _ _ _ hm
  obtain ⟨L0, a0, l0, z0⟩ := open_intsA Tryd.underlying22 Tryd.underlying3 (by kernel_rfl) (by kernel_rfl) (hval 0 22 v0 rfl rfl) h0 (hsz 0 22 _ rfl rfl)
  have k1 := h1
  have lt1 : ∀ x ∈ p1, x.block < W.heap.size := by obtain ⟨m, hm⟩ := k1; exact DataW.trod_lt m _ _ _ hm
  obtain ⟨n1, rfl, rfl, rfl, x1⟩ := open_int Tryd.underlying3 (hval 1 3 v1 rfl rfl) h1
  refine (walk v0 L0 n1 W a0 l0 z0 (by have := bounds_i64 x1; omega) (lw_of hL hsh)).mono fun e W' ⟨he, bel⟩ => ?_
  subst he
  exact ⟨_, rfl, _, _, _, [], _, [], hW', trodAll_mk1 (shut_bool Tryd.underlying4 _), (trodAll_cons_mk (Below.trod laidOut (by kernel_rfl) (of_decide_eq_true (by kernel_rfl)) k0 bel lt0) (trodAll_cons_mk (Below.trod laidOut (by kernel_rfl) (of_decide_eq_true (by kernel_rfl)) k1 bel lt1) trodAll_mk0)), rfl, bel.frame _, fun h => by cases h⟩

theorem over : Rows.stampsMakesRow.holds Tryd.pinned (OpenSpec.ofChange Rows.stampsMakesSpec) :=
  OpenClaim.holds_of_wide 5 Tryd.f5 rfl rfl rfl rfl rfl rfl rfl ⟨rfl, rfl, rfl, rfl, rfl⟩ rfl rfl rfl rfl rfl (by kernel_rfl) Tryd.func5 (by kernel_rfl)
    (of_decide_eq_true (by kernel_rfl)) (by unfold Func.isWrapper; first | (rw [if_pos (by decide +kernel)]; kernel_rfl) | (rw [if_neg (by decide +kernel)]; exact ⟨rfl, rfl⟩))
    (fun os started H enc _ => lifted os started H enc)

theorem proved : Rows.StampsMakesCardSaid :=
  Claim7.holds_tied_plain_at .later [] [.data, .data, .data, .data, .sentinel, .sentinel, .pinned] true (true, "5f12fa10b805fcb0d992aeb5db102955f99dabd546fdc4991e02cd6d2c5be258") true over (fun _ h => by cases h) (by kernel_rfl) (fun _ h => by cases h) stampsMakes_row_tie rfl ⟨rfl, rfl⟩ (by kernel_rfl) rfl
    (fun f fn hf hfn => by
      obtain rfl : f = 5 := Option.some.inj ((show Tryd.prog.funcNamed "sublet/subletlaw04.StampsMakes" = some 5 by kernel_rfl).symm.trans hf) |>.symm
      obtain rfl : fn = Tryd.f5 := (Option.some.inj (Tryd.func5.symm.trans hfn)).symm
      exact ⟨by kernel_rfl, fun j t ht => by
        rw [Tryd.params5] at ht
        have hm : t ∈ ([22, 3] : List TypeId) := by simpa using Array.mem_of_getElem? ht
        have hall : (([22, 3] : List TypeId).all fun u => !Tryd.prog.wantsStandIn u) = true := by kernel_rfl
        exact (show Tryd.prog.wantsStandIn t = false by simpa using List.all_eq_true.1 hall t hm)⟩)
    (by kernel_rfl)
#print axioms proved
end Go.Proofs.YtfbogdeodpkhcaaDoor.stampsMakes
