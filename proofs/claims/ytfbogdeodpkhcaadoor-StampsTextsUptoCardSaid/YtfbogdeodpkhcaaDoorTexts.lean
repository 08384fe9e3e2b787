/- StampsTexts returns true for any list and text, of bulk at most the given number together: Text and Parse answer what the document says. -/
import Derived.Test.YtfbogdeodpkhcaaDoorStJ
import Derived.Test.YtfbogdeodpkhcaaDoorCards
import Derived.Test.YtfbogdeodpkhcaaDoorStG
import Derived.Test.YtfbogdeodpkhcaaDoorStK
namespace Go.Proofs.YtfbogdeodpkhcaaDoor.stampsTexts
open Go.ChangeShapes Go.WideShapes Go.ChangeAt Go.RowKit Go.PlainAid
open Go.ChangeMaps (open_string shut_string)

theorem own : ownKnob Tryd.prog.godebug = none := by kernel_rfl
theorem laidOut : laidOutB Tryd.prog = true := by kernel_rfl
set_option maxRecDepth 100000 in
set_option maxHeartbeats 4000000 in
theorem walk (v0 : Value) (L0 : List Int) (s1 : ByteArray) (w : World) (a0 : ArgInts w v0 L0) (l0 : L0.length ≤ 1048576) (z0 : ∀ n ∈ L0, -9223372036854775808 ≤ n ∧ n ≤ 9223372036854775807) (l1 : s1.size ≤ 1048576) (hL : Lw w) : Calls Tryd.prog 6 #[v0, .string s1] w fun e w' => e = .returned (.bool true) ∧ Below w.heap.size w w' := by
  have HL := Lib.hid hL; clear hL
  have H0 := Lib.hid a0; clear a0
  have m0 : L0.length ≤ maxLen := by unfold maxLen; omega
  have n0 : L0.length ≤ 17592186043904 := by omega
  have Z0 := Lib.hid z0; clear z0
  go_enter Tryd.func6, Tryd.ntmps6
  go_wp2_with fail
  refine (awakeS_any _ HL.out).mono ?_
  rintro e w1 ⟨rfl, k⟩
  have K1 := Lib.hid k; clear k
  obtain ⟨Y, f, hY, hYl⟩ : ∃ Y f, parseS s1.data.toList = (Y, f) ∧ Y.length ≤ maxLen := ⟨(parseS s1.data.toList).1, (parseS s1.data.toList).2, rfl, by
    rcases parse_back s1.data.toList with h | ⟨Y, h, hv, _⟩
    · rw [h]; decide
    · rw [h]; exact Nat.le_trans (valid_rng hv).1 (by decide)⟩
  have HB := Lib.hid hY; clear hY
  obtain ⟨z, hz⟩ : ∃ z : ByteArray, (⟨(textS L0).toArray⟩ : ByteArray) = z := ⟨_, rfl⟩
  have HZ := Lib.hid hz; clear hz
  go_wp2_with fail
  have cc := parseS_any s1 _ (by omega) (HL.out.no (K1.out))
  rw [HB.out] at cc
  refine cc.mono ?_
  clear cc
  rintro e w2 ⟨rE, rfl, o, k⟩
  have K2 := Lib.hid k; clear k
  have E := Lib.hid o.arg; clear o
  go_wp2_with fail
  have cc := rparseS_any s1 w2 l1
  rw [HB.out] at cc
  refine cc.mono ?_
  clear cc
  rintro e w3 ⟨rG, rfl, o, k⟩
  have K3 := Lib.hid k; clear k
  have G := Lib.hid o.arg; clear o
  go_wp2_with fail
  refine (ownS_any _ _ _ (((H0.out.no K1.out).no K2.out).no K3.out) n0).mono ?_
  rintro e w4 ⟨rA1, rfl, o, k⟩
  have K4 := Lib.hid k; clear k
  have A1 := Lib.hid o.arg
  have OA1 := Lib.hid o; clear o
  go_wp2_with fail
  have cc := textS_any _ _ _ A1.out l0 Z0.out (HL.out.no (((((((K1.out).trans K2.out)).trans K3.out)).trans K4.out)))
  rw [HZ.out] at cc
  refine cc.mono ?_
  clear cc
  rintro e w5 ⟨rfl, k⟩
  have K5 := Lib.hid k; clear k
  go_wp2_with fail
  have cc := rtextS_any _ _ _ (((((H0.out.no K1.out).no K2.out).no K3.out).no K4.out).no K5.out) l0 Z0.out
  rw [HZ.out] at cc
  refine cc.mono ?_
  clear cc
  rintro e w6 ⟨rfl, k⟩
  have K6 := Lib.hid k; clear k
  go_wp2_with fail
  refine (sameS_eq _ _ _ _ _ ((((E.out.no K3.out).no K4.out).no K5.out).no K6.out) (((G.out.no K4.out).no K5.out).no K6.out) hYl rfl).mono ?_
  rintro e w7 ⟨rfl, k⟩
  have K7 := Lib.hid k; clear k
  go_wp2
  go_ret
  exact ⟨rfl, (((((((((((((K1.out).trans K2.out)).trans K3.out)).trans K4.out)).trans K5.out)).trans K6.out)).trans K7.out)).below (Nat.le_refl _) (fun _ _ m => m)⟩

set_option maxRecDepth 100000 in
theorem lifted (os : Os) (started : os.Started) (H : Type) (enc : TypeId × Value → H) (F : Stop.Interp) :
    ReturnsInHanded {} Tryd.checked os 6 .any ((Rows.OpenSpec.upto Rows.stampsTextsSpec).preRow enc Tryd.prog Tryd.f6 Rows.stampsTextsUptoRow.domain false Rows.stampsTextsUptoRow.laid)
      (((Rows.OpenSpec.upto Rows.stampsTextsSpec).at F).post enc Tryd.prog Tryd.f6 false true false false) := by
  refine returnsInHanded_of_row (C := Tryd.checked) (s := Rows.OpenSpec.upto Rows.stampsTextsSpec) own started (by kernel_rfl) Tryd.func6
    (witness_row_at (enc := enc) (C := Tryd.checked) false (World.laidAll Tryd.prog os LAID) #[.slice none 0 0, .string ⟨#[]⟩] (World.laidAll_os _ _ _) (by kernel_rfl) (by kernel_rfl) (by kernel_rfl)
      (OpenSpec.preRow_of_cond (x := ([.nil, .lit (.string [])], [], [])) 8 (by kernel_rfl) (by kernel_rfl) (fun k hk => by cases hk; kernel_rfl) (by kernel_rfl) (laidMet_laidAll _ (by kernel_rfl) (by kernel_rfl)))) ?_
  intro W base args ds gs before hval0 hW hcnd hbulk hsz0 hL hsh _
  replace hbulk := hbulk _ rfl
  have hval : ∀ (j : Nat) t v, Tryd.f6.params[j]? = some t → args[j]? = some v → Value.okWide Tryd.prog W .any base t v := hval0
  have hW' := hW
  obtain ⟨p, q, hA0, hV, rfl, hfz, hnd⟩ := hW
  have hA : DataW.TrodAll enc Tryd.prog W 0 (fun _ => true) true Tryd.f6.params.toList args.toList ds p := hA0
  rw [Tryd.params6] at hA hval
  obtain ⟨v0, vs0, d0, ds0, p0, q0, hargs, rfl, rfl, h0, r0⟩ := trodAll_cons hA
  obtain ⟨v1, vs1, d1, ds1, p1, q1, rfl, rfl, rfl, h1, r1⟩ := trodAll_cons r0
  obtain ⟨rfl, rfl, rfl⟩ := trodAll_nil r1
  obtain rfl : args = #[v0, v1] := by cases args; simp_all
  obtain ⟨rfl, rfl⟩ := trodVars_none hV
  have hsz : ∀ (j : Nat) (t : TypeId) (d : DataW H), ([22, 9] : List TypeId)[j]? = some t → [d0, d1][j]? = some d → ∀ n ∈ d.weights Tryd.prog t, n ≤ reachBytes := by
    intro j t d ht hd n hn
    have hsz1 : (DataW.weightsEach Tryd.prog ([22, 9] : List TypeId) [d0, d1]).all (· ≤ reachBytes) = true := hsz0
    have := List.all_eq_true.1 hsz1 n (DataW.weights_mem_each ht hd n hn)
    simpa using this
  have hb0 := bulk_of hbulk (d := d0) (by simp)
  have hb1 := bulk_of hbulk (d := d1) (by simp)
  have k0 := h0
  have lt0 : ∀ x ∈ p0, x.block < W.heap.size := by obtain ⟨m, hm⟩ := k0; exact DataW.trod_lt m _ _ _ hm
  obtain ⟨L0, a0, l0, z0⟩ := open_intsU Tryd.underlying22 Tryd.underlying3 (by kernel_rfl) (by kernel_rfl) (hval 0 22 v0 rfl rfl) h0 (hsz 0 22 _ rfl rfl) hb0
  have k1 := h1
  have lt1 : ∀ x ∈ p1, x.block < W.heap.size := by obtain ⟨m, hm⟩ := k1; exact DataW.trod_lt m _ _ _ hm
  obtain ⟨s1, rfl, rfl, rfl, w1⟩ := open_string Tryd.underlying9 (hval 1 9 v1 rfl rfl) h1
  have l1 : s1.size ≤ 1048576 := by rw [bulk_string] at hb1; simp at hb1; omega
  refine (walk v0 L0 s1 W a0 l0 z0 l1 (lw_of hL hsh)).mono fun e W' ⟨he, bel⟩ => ?_
  subst he
  exact ⟨_, rfl, _, _, _, [], _, [], hW', trodAll_mk1 (shut_bool Tryd.underlying4 _), (trodAll_cons_mk (Below.trod laidOut (by kernel_rfl) (of_decide_eq_true (by kernel_rfl)) k0 bel lt0) (trodAll_cons_mk (Below.trod laidOut (by kernel_rfl) (of_decide_eq_true (by kernel_rfl)) k1 bel lt1) trodAll_mk0)), rfl, bel.frame _, fun h => by cases h⟩

theorem over : Rows.stampsTextsUptoRow.holds Tryd.pinned (Rows.OpenSpec.upto Rows.stampsTextsSpec) :=
  OpenClaim.holds_of_cond 6 Tryd.f6 rfl rfl rfl rfl rfl rfl rfl ⟨rfl, rfl, rfl, rfl, rfl⟩ rfl rfl rfl rfl rfl (by kernel_rfl) Tryd.func6 (by kernel_rfl)
    (of_decide_eq_true (by kernel_rfl)) (by unfold Func.isWrapper; first | (rw [if_pos (by decide +kernel)]; kernel_rfl) | (rw [if_neg (by decide +kernel)]; exact ⟨rfl, rfl⟩))
    (fun os started H enc _ F => by rw [OpenClaim.pre_eq_preRow]; exact lifted os started H enc F)

theorem proved : Rows.StampsTextsUptoCardSaid :=
  Claim7.holds_tied_plain_at .later [] [.data, .data, .data, .data, .sentinel, .sentinel, .pinned] true (true, "5f12fa10b805fcb0d992aeb5db102955f99dabd546fdc4991e02cd6d2c5be258") true over (fun _ h => by cases h) (by kernel_rfl) (fun _ h => by cases h) stampsTextsUpto_row_tie rfl ⟨rfl, rfl⟩ (by kernel_rfl) rfl
    (fun f fn hf hfn => by
      obtain rfl : f = 6 := Option.some.inj ((show Tryd.prog.funcNamed "sublet/subletlaw04.StampsTexts" = some 6 by kernel_rfl).symm.trans hf) |>.symm
      obtain rfl : fn = Tryd.f6 := (Option.some.inj (Tryd.func6.symm.trans hfn)).symm
      exact ⟨by kernel_rfl, fun j t ht => by
        rw [Tryd.params6] at ht
        have hm : t ∈ ([22, 9] : List TypeId) := by simpa using Array.mem_of_getElem? ht
        have hall : (([22, 9] : List TypeId).all fun u => !Tryd.prog.wantsStandIn u) = true := by kernel_rfl
        exact (show Tryd.prog.wantsStandIn t = false by simpa using List.all_eq_true.1 hall t hm)⟩)
    (by kernel_rfl)
#print axioms proved
end Go.Proofs.YtfbogdeodpkhcaaDoor.stampsTexts
