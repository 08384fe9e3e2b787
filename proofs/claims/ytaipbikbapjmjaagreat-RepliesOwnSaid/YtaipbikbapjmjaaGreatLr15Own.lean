/- RepliesOwn: messages that are handed in stay and are not kept, answers share no memory, and nil replies keep nothing, for every two messages. No condition. -/
import Derived.Test.YtaipbikbapjmjaaGreatB20
import Derived.Test.YtaipbikbapjmjaaGreatC7
import Derived.Test.YtaipbikbapjmjaaGreatC6
import Derived.IntWalk
import Derived.Laws.OwnMore
import Derived.ProofKit
import Derived.OpenShut
import Derived.ShutString
import Derived.ChangeOld
import Derived.SizedLaws
import Derived.Below
namespace Go.Proofs.YtaipbikbapjmjaaGreat.repliesOwn
open Go.ChangeShapes Go.WideShapes Go.ChangeAt Go.RowKit
open Go.ChangeMaps (open_string shut_string)

theorem own : ownKnob Tryz.prog.godebug = none := by kernel_rfl
theorem laidOut : laidOutB Tryz.prog = true := by kernel_rfl
/-- a whole array read under a guard that holds -/
theorem wpList_load_mid_g {P : Program} {ops : Array Oper} {rest : List Oper} {op : Oper} {a : Act} {w : World} {Q : Exit → Act → World → Prop} (hw : Region.wanted op (yielded ops a.tmps) = true) (ty : TypeId) (x : Operand) (ho : op.op = .load ty x)
    (b o : Nat) (hx : a.eval x = .pointer (some ⟨b, o, none⟩)) (cs : List Value) (d : TypeDesc) (hc : w.rangeAt b o cs)
    (hu : P.underlying ty = some d) (hd : d.isRow = true) (hi : (P.info? ty).map (·.size) = some cs.length)
    (h : wpList P ops Q rest (a.put op.dst (.agg cs.toArray)) w) : wpList P ops Q (op :: rest) a w :=
  wpList_step fun K hK => by
    rw [if_pos hw]
    exact wp_load_mid ty x ho b o hx cs d hc hu hd hi (hK _ _ h)
section
variable {P : Program} {ops : Array Oper} {Q : Exit → Act → World → Prop} {md : Region.Mode} {F : World → Prop} {d : Nat}
/-- the two that may come up -/
theorem rg_two {i j : Nat} {oi oj : Oper} {fuel : Nat} {listed : Array Bool} {a : Act} {w : World} (hi : ops[i]? = some oi) (hj : ops[j]? = some oj) (hr : (Region.ready md ops listed == [i, j]) = true) (hyi : Region.wanted oi (yielded ops a.tmps) = true) (hyj : Region.wanted oj (yielded ops a.tmps) = true)
    (h1 : ∀ K : Act → World → Prop, (∀ a w, (i ≠ d → F w) → wpAnyD P md ops Q F d fuel (listed.setIfInBounds i true) a w → K a w) → Oper.wp P oi a w K Q)
    (h2 : ∀ K : Act → World → Prop, (∀ a w, (j ≠ d → F w) → wpAnyD P md ops Q F d fuel (listed.setIfInBounds j true) a w → K a w) → Oper.wp P oj a w K Q) : wpAnyD P md ops Q F d (fuel + 1) listed a w := by
  have hr' : Region.ready md ops listed = [i, j] := by simpa using hr
  refine ⟨fun h0 => (by rw [hr'] at h0; cases h0), fun k hk => ?_⟩
  rw [hr'] at hk
  unfold wpOp
  rcases List.mem_cons.1 hk with rfl | hk
  · simp only [hi, hyi, if_true]
    exact .inl (h1 _ fun a w h1 h2 => ⟨h1, h2⟩)
  · obtain rfl : k = j := by simpa using hk
    simp only [hj, hyj, if_true]
    exact .inl (h2 _ fun a w h1 h2 => ⟨h1, h2⟩)
end
theorem own_bkG {w : World} {B g n n' c : Nat} {t : TypeId} {xs : List Value} (h : w.ownsRow B t 1 (.slice (some ⟨g, 0, none⟩) n' c) n xs) : ∃ cs, Bk w g t cs ∧ n ≤ cs.length ∧ cs.take n = xs := by
  rcases h.2 with ⟨hb, _⟩ | ⟨g', cap, cur, hv, hB, hh, h1, h2, h3, h4⟩
  · cases hb
  · injection hv with e1 e2 e3
    injection e1 with e1
    injection e1 with e1
    subst e1 e2 e3
    refine ⟨cur.toList, by unfold Bk; simpa using hh, by simp; omega, by rw [← h4, Nat.mul_one]⟩
theorem ints_set (L : List Int) (j : Nat) (x : Int) : (ints L).set j (.int .i64 x) = ints (L.set j x) := by simp [ints, List.map_set]
theorem own_setI {w : World} {B a n c j : Nat} {L : List Int} (h : w.ownsRow B 3 1 (.slice (some ⟨a, 0, Option.none⟩) n c) n (ints L)) (x : Int) : (w.setCell ⟨a, j, Option.none⟩ (.int .i64 x)).ownsRow B 3 1 (.slice (some ⟨a, 0, Option.none⟩) n c) n (ints (L.set j x)) := by
  have := (World.ownsRow.stored h j (.int .i64 x)).1
  rwa [ints_set] at this
set_option maxRecDepth 100000 in
set_option maxHeartbeats 40000000 in
theorem walk (m : Msg) (A : Option Addr) (c : Nat) (a : Msg) (B : Option Addr) (d : Nat) (W : World) (ham : ArgInts W (.slice A m.stamp.length c) m.stamp) (hrm : Rng m) (hsm : Short maxLen m) (hlm : m.stamp.length ≤ 17592186043904) (_hpm : m.path.length ≤ 140737488355328) (haa : ArgInts W (.slice B a.stamp.length d) a.stamp) (hra : Rng a) (hsa : Short maxLen a) (hla : a.stamp.length ≤ 17592186043904) (_hpa : a.path.length ≤ 140737488355328) :
    Calls Tryz.prog 7 #[.agg (mcells m (.slice A m.stamp.length c)).toArray, .agg (mcells a (.slice B a.stamp.length d)).toArray] W fun e w' => e = .returned (.bool true) ∧ Below W.heap.size W w' := by
  have HAm := Lib.hid ham; have HAa := Lib.hid haa; have HRm := Lib.hid hrm; have HRa := Lib.hid hra; have HSm := Lib.hid hsm; have HSa := Lib.hid hsa
  have QM := Lib.hid (show ∀ W2, Kp No W W2 → Calls Tryz.prog 17 #[.agg (mcells m (.slice A m.stamp.length c)).toArray] W2 (OwnMR W2 m) from fun W2 k => own_any m _ W2 (ham.no k) (by omega))
  have QA := Lib.hid (show ∀ W2, Kp No W W2 → Calls Tryz.prog 17 #[.agg (mcells a (.slice B a.stamp.length d)).toArray] W2 (OwnMR W2 a) from fun W2 k => own_any a _ W2 (haa.no k) (by omega))
  have HM := Lib.hid (show Bk ((W.alloc (.cells (mcells m (.slice A m.stamp.length c)).toArray 32)).alloc (.cells (mcells a (.slice B a.stamp.length d)).toArray 32)) W.heap.size 32 (mcells m (.slice A m.stamp.length c)) from (Bk.new' rfl rfl).alloc _)
  have HA := Lib.hid (show Bk ((W.alloc (.cells (mcells m (.slice A m.stamp.length c)).toArray 32)).alloc (.cells (mcells a (.slice B a.stamp.length d)).toArray 32)) (W.heap.size + 1) 32 (mcells a (.slice B a.stamp.length d)) from Bk.new' (by simp) rfl)
  have HK := Lib.hid (show Kp No W ((W.alloc (.cells (mcells m (.slice A m.stamp.length c)).toArray 32)).alloc (.cells (mcells a (.slice B a.stamp.length d)).toArray 32)) from ((Kp.refl No W).alloc _).alloc _)
  have hia : Hid ((Tryz.prog.info? 32).map (·.size) = some (mcells m (.slice A m.stamp.length c)).length) := Lib.hid (by kernel_rfl)
  have hib : Hid ((Tryz.prog.info? 32).map (·.size) = some (mcells a (.slice B a.stamp.length d)).length) := Lib.hid (by kernel_rfl)
  have HUH := Lib.hid (Tryz.underlying32)
  have HLm := Lib.hid hlm; have HLa := Lib.hid hla
  clear ham haa hrm hra hsm hsa hlm hla _hpm _hpa
  obtain ⟨CM, hCM⟩ : ∃ C, C = mcells m (.slice A m.stamp.length c) := ⟨_, rfl⟩
  obtain ⟨CA, hCA⟩ : ∃ C, C = mcells a (.slice B a.stamp.length d) := ⟨_, rfl⟩
  rw [← hCM] at QM HM HA HK hia ⊢
  rw [← hCA] at QA HM HA HK hib ⊢
  have HCA := Lib.hid hCA
  clear hCM hCA
  go_enter Tryz.func7, Tryz.ntmps7
  go_wp2_with fail
  refine (awake_any _).mono ?_
  rintro e w1 ⟨rfl, k1⟩
  have HM' := Lib.hid (HM.out.no k1); have HA' := Lib.hid (HA.out.no k1); have HK' := Lib.hid (HK.out.trans k1)
  clear HM HA HK
  have HM := HM'; have HA := HA'; have HK := HK'
  clear HM' HA' HK'
  clear k1
  go_wp2_with (refine wpList_load_mid rfl _ _ rfl W.heap.size 0 rfl CM _ (range_of HM.out) HUH.out rfl hia.out ?_)
  refine (QM.out _ HK.out).mono ?_
  rintro e w2 ⟨sv2, rfl, _, k2⟩
  have HM' := Lib.hid (HM.out.no k2); have HA' := Lib.hid (HA.out.no k2); have HK' := Lib.hid (HK.out.trans k2)
  clear HM HA HK
  have HM := HM'; have HA := HA'; have HK := HK'
  clear HM' HA' HK'
  clear k2
  go_wp2_with fail
  refine (rseen_nil m sv2 _).mono ?_
  rintro e w3 ⟨rfl, k3⟩
  have HM' := Lib.hid (HM.out.no k3); have HA' := Lib.hid (HA.out.no k3); have HK' := Lib.hid (HK.out.trans k3)
  clear HM HA HK
  have HM := HM'; have HA := HA'; have HK := HK'
  clear HM' HA' HK'
  clear k3
  go_upto_region 5 with (refine wpList_store_mid rfl _ _ _ rfl w3.heap.size 0 (mcells ({} : Msg) (.slice none 0 0)).toArray rfl rfl (msg_there _ _ _) (msg_info _ _) (msg_one _ _ _ _) ?_)
  have g4 := msg_store w3 ({} : Msg) none 0 0
  generalize hw4 : World.setCells _ w3.heap.size 0 _ = w4
  rw [show (w3.alloc (.cells #[.int .i64 0, .int .i64 0, .int .i64 0, .int .i64 0, .int .i64 0, .int .i64 0, .int .i64 0, .string ⟨#[]⟩, .int .i64 0, .int .i64 0, .int .i64 0, .bool false, .int .i64 0, .slice none 0 0, .int .i64 0, .int .i64 0] 32)).setCells w3.heap.size 0 (mcells ({} : Msg) (.slice none 0 0)) = w4 from hw4] at g4
  clear hw4
  obtain ⟨b4, k4⟩ := g4
  have HB7 := Lib.hid b4
  have HM' := Lib.hid (HM.out.no k4); have HA' := Lib.hid (HA.out.no k4); have HK' := Lib.hid (HK.out.trans k4)
  clear HM HA HK
  have HM := HM'; have HA := HA'; have HK := HK'
  clear HM' HA' HK'
  clear k4 b4
  simp only [Act.put]
  go_cut [50] (fun s wx => s = .bool false ∧ Kp No w4 wx)
  case first =>
    as_aux_lemma =>
    have hF : Kp No w4 w4.drew := (Kp.refl No w4).drew
    refine rg_begin (fun W2 => Kp No w4 W2) 20 (by kernel_rfl) ?_
    refine rg_take (i := 0) (v := ?ve0) (by simp only [List.getElem?_toArray, List.getElem?_cons_zero]; rfl) (by kernel_rfl) (by exact fun _ _ _ h => h) (by rfl) ?re0 hF ?se0
    case re0 => (intro W hW; clear hW; go_simp; try with_reducible rfl)
    try simp only [Act.put, List.setIfInBounds_toArray, List.set_cons_zero, List.set_cons_succ]
    refine rg_take (i := 1) (v := ?ve1) (by simp only [List.getElem?_toArray, List.getElem?_cons_succ, List.getElem?_cons_zero]; rfl) (by kernel_rfl) (by exact fun _ _ _ h => h) (by rfl) ?re1 hF ?se1
    case re1 => (intro W hW; clear hW; go_simp; try with_reducible rfl)
    try simp only [Act.put, List.setIfInBounds_toArray, List.set_cons_zero, List.set_cons_succ]
    refine rg_take (i := 2) (v := ?ve2) (by simp only [List.getElem?_toArray, List.getElem?_cons_succ, List.getElem?_cons_zero]; rfl) (by kernel_rfl) (by exact fun _ _ _ h => h) (by rfl) ?re2 hF ?se2
    case re2 => (intro W hW; clear hW; go_simp; try with_reducible rfl)
    try simp only [Act.put, List.setIfInBounds_toArray, List.set_cons_zero, List.set_cons_succ]
    refine rg_take (i := 3) (v := ?ve3) (by simp only [List.getElem?_toArray, List.getElem?_cons_succ, List.getElem?_cons_zero]; rfl) (by kernel_rfl) (by exact fun _ _ _ h => h) (by rfl) ?re3 hF ?se3
    case re3 => (intro W hW; clear hW; go_simp; try with_reducible rfl)
    try simp only [Act.put, List.setIfInBounds_toArray, List.set_cons_zero, List.set_cons_succ]
    refine rg_take (i := 4) (v := ?ve4) (by simp only [List.getElem?_toArray, List.getElem?_cons_succ, List.getElem?_cons_zero]; rfl) (by kernel_rfl) (by exact fun _ _ _ h => h) (by rfl) ?re4 hF ?se4
    case re4 => (intro W9 hW; have z0 : W9.cell? ⟨w3.heap.size, 0, none⟩ = some (.int .i64 0) := (HB7.out.no hW).cell 0; go_simp; try with_reducible rfl)
    try simp only [Act.put, List.setIfInBounds_toArray, List.set_cons_zero, List.set_cons_succ]
    refine rg_take (i := 5) (v := ?ve5) (by simp only [List.getElem?_toArray, List.getElem?_cons_succ, List.getElem?_cons_zero]; rfl) (by kernel_rfl) (by exact fun _ _ _ h => h) (by rfl) ?re5 hF ?se5
    case re5 => (intro W hW; clear hW; go_simp; try with_reducible rfl)
    try simp only [Act.put, List.setIfInBounds_toArray, List.set_cons_zero, List.set_cons_succ]
    refine rg_take (i := 6) (v := ?ve6) (by simp only [List.getElem?_toArray, List.getElem?_cons_succ, List.getElem?_cons_zero]; rfl) (by kernel_rfl) (by exact fun _ _ _ h => h) (by rfl) ?re6 hF ?se6
    case re6 => (intro W hW; clear hW; go_simp; try with_reducible rfl)
    try simp only [Act.put, List.setIfInBounds_toArray, List.set_cons_zero, List.set_cons_succ]
    refine rg_take (i := 7) (v := ?ve7) (by simp only [List.getElem?_toArray, List.getElem?_cons_succ, List.getElem?_cons_zero]; rfl) (by kernel_rfl) (by exact fun _ _ _ h => h) (by rfl) ?re7 hF ?se7
    case re7 => (intro W hW; clear hW; go_simp; try with_reducible rfl)
    try simp only [Act.put, List.setIfInBounds_toArray, List.set_cons_zero, List.set_cons_succ]
    refine rg_take (i := 8) (v := ?ve8) (by simp only [List.getElem?_toArray, List.getElem?_cons_succ, List.getElem?_cons_zero]; rfl) (by kernel_rfl) (by exact fun _ _ _ h => h) (by rfl) ?re8 hF ?se8
    case re8 => (intro W hW; clear hW; go_simp; try with_reducible rfl)
    try simp only [Act.put, List.setIfInBounds_toArray, List.set_cons_zero, List.set_cons_succ]
    refine rg_take (i := 9) (v := ?ve9) (by simp only [List.getElem?_toArray, List.getElem?_cons_succ, List.getElem?_cons_zero]; rfl) (by kernel_rfl) (by exact fun _ _ _ h => h) (by rfl) ?re9 hF ?se9
    case re9 => (intro W9 hW; refine exec_load_mid W9 32 (.tmp 2) ?_ W.heap.size 0 ?_ CM _ (range_of (HM.out.no hW)) HUH.out ?_ hia.out; exact rfl; exact rfl; exact rfl)
    try simp only [Act.put, List.setIfInBounds_toArray, List.set_cons_zero, List.set_cons_succ]
    refine rg_take (i := 11) (v := ?ve11) (by simp only [List.getElem?_toArray, List.getElem?_cons_succ, List.getElem?_cons_zero]; rfl) (by kernel_rfl) (by exact fun _ _ _ h => h) (by rfl) ?re11 hF ?se11
    case re11 => (intro W9 hW; refine exec_load_mid W9 32 (.tmp 3) ?_ (W.heap.size + 1) 0 ?_ CA _ (range_of (HA.out.no hW)) HUH.out ?_ hib.out; exact rfl; exact rfl; exact rfl)
    try simp only [Act.put, List.setIfInBounds_toArray, List.set_cons_zero, List.set_cons_succ]
    refine rg_one (i := 10) (oi := ?oe10) ?ae10 ?be10 ?ce10 ?de10
    case ae10 => (simp only [List.getElem?_toArray, List.getElem?_cons_succ, List.getElem?_cons_zero]; rfl)
    case be10 => kernel_rfl
    case ce10 => rfl
    intro K hK
    (go_simp; refine (QM.out _ (HK.out.trans (Kp.refl No w4).drew)).mono ?_; rintro e wM ⟨sM, rfl, hoM, kM⟩)
    refine rg_use hK (((Kp.refl No w4).drew.trans kM)) (fun hF => ?_)
    clear hK K
    try simp only [Act.put, List.setIfInBounds_toArray, List.set_cons_zero, List.set_cons_succ]
    refine rg_one (i := 12) (oi := ?oe12) ?ae12 ?be12 ?ce12 ?de12
    case ae12 => (simp only [List.getElem?_toArray, List.getElem?_cons_succ, List.getElem?_cons_zero]; rfl)
    case be12 => kernel_rfl
    case ce12 => rfl
    intro K hK
    (go_simp; refine (QA.out _ (HK.out.trans ((Kp.refl No w4).drew.trans kM))).mono ?_; rintro e wN ⟨sN, rfl, hoN, kN⟩)
    refine rg_use hK ((((Kp.refl No w4).drew.trans kM).trans kN)) (fun hF => ?_)
    clear hK K
    try simp only [Act.put, List.setIfInBounds_toArray, List.set_cons_zero, List.set_cons_succ]
    refine rg_one (i := 13) (oi := ?oe13) ?ae13 ?be13 ?ce13 ?de13
    case ae13 => (simp only [List.getElem?_toArray, List.getElem?_cons_succ, List.getElem?_cons_zero]; rfl)
    case be13 => kernel_rfl
    case ce13 => rfl
    intro K hK
    (go_simp; refine (rkeep_nil m a sM sN _ ((own_slI hoM).no kN) (own_slI hoN) HRa.out HSa.out).mono ?_; rintro e wK ⟨rfl, kK⟩)
    refine rg_use hK (((((Kp.refl No w4).drew.trans kM).trans kN).trans kK)) (fun hF => ?_)
    clear hK K
    try simp only [Act.put, List.setIfInBounds_toArray, List.set_cons_zero, List.set_cons_succ]
    refine rg_take (i := 14) (v := ?ve14) (by simp only [List.getElem?_toArray, List.getElem?_cons_succ, List.getElem?_cons_zero]; rfl) (by kernel_rfl) (by exact fun _ _ _ h => h) (by rfl) ?re14 hF ?se14
    case re14 => (intro W hW; clear hW; go_simp; try with_reducible rfl)
    try simp only [Act.put, List.setIfInBounds_toArray, List.set_cons_zero, List.set_cons_succ]
    refine rg_take (i := 15) (v := ?ve15) (by simp only [List.getElem?_toArray, List.getElem?_cons_succ, List.getElem?_cons_zero]; rfl) (by kernel_rfl) (by exact fun _ _ _ h => h) (by rfl) ?re15 hF ?se15
    case re15 => (intro W hW; clear hW; go_simp; try with_reducible rfl)
    try simp only [Act.put, List.setIfInBounds_toArray, List.set_cons_zero, List.set_cons_succ]
    refine rg_take (i := 16) (v := ?ve16) (by simp only [List.getElem?_toArray, List.getElem?_cons_succ, List.getElem?_cons_zero]; rfl) (by kernel_rfl) (by exact fun _ _ _ h => h) (by rfl) ?re16 hF ?se16
    case re16 => (intro W hW; clear hW; go_simp; try with_reducible rfl)
    try simp only [Act.put, List.setIfInBounds_toArray, List.set_cons_zero, List.set_cons_succ]
    refine rg_one (i := 17) (oi := ?oe17) ?ae17 ?be17 ?ce17 ?de17
    case ae17 => (simp only [List.getElem?_toArray, List.getElem?_cons_succ, List.getElem?_cons_zero]; rfl)
    case be17 => kernel_rfl
    case ce17 => rfl
    intro K hK
    (go_simp; refine (rlen_nil 1 _).mono ?_; rintro e w' ⟨rfl, rfl⟩)
    refine rg_use hK (((((Kp.refl No w4).drew.trans kM).trans kN).trans kK)) (fun hF => ?_)
    clear hK K
    try simp only [Act.put, List.setIfInBounds_toArray, List.set_cons_zero, List.set_cons_succ]
    refine rg_take (i := 18) (v := ?ve18) (by simp only [List.getElem?_toArray, List.getElem?_cons_succ, List.getElem?_cons_zero]; rfl) (by kernel_rfl) (by exact fun _ _ _ h => h) (by rfl) ?re18 hF ?se18
    case re18 => (intro W hW; clear hW; go_simp; try with_reducible rfl)
    try simp only [Act.put, List.setIfInBounds_toArray, List.set_cons_zero, List.set_cons_succ]
    refine rg_take (i := 19) (v := ?ve19) (by simp only [List.getElem?_toArray, List.getElem?_cons_succ, List.getElem?_cons_zero]; rfl) (by kernel_rfl) (by exact fun _ _ _ h => h) (by rfl) ?re19 hF ?se19
    case re19 => (intro W hW; clear hW; go_simp; try with_reducible rfl)
    try simp only [Act.put, List.setIfInBounds_toArray, List.set_cons_zero, List.set_cons_succ]
    refine rg_done (by kernel_rfl) ?_
    go_wp2
    go_meet
    exact ⟨rfl, hF⟩
  case rest =>
    obtain ⟨rfl, kc⟩ := hcut
  
    have HM' := Lib.hid (HM.out.no kc); have HA' := Lib.hid (HA.out.no kc); have HK' := Lib.hid (HK.out.trans kc)
    clear HM HA HK
    have HM := HM'; have HA := HA'; have HK := HK'
    clear HM' HA' HK'
    clear kc HB7
    have HBR := Lib.hid (show W.heap.size ≤ wc.heap.size from HK.out.size)
    go_wp2_with fail
    refine (rnew_any _).mono ?_
    rintro e w6 ⟨rfl, hb6, k6⟩
    have HM' := Lib.hid (HM.out.no k6); have HA' := Lib.hid (HA.out.no k6); have HK' := Lib.hid (HK.out.trans k6)
    clear HM HA HK
    have HM := HM'; have HA := HA'; have HK := HK'
    clear HM' HA' HK'
    obtain ⟨P0, hP0⟩ : ∃ P, P = List.replicate 8 ({} : Pc) := ⟨_, rfl⟩
    have HR := Lib.hid (show RpB w6 wc.heap.size (fun _ => False) P0 from by rw [hP0]; exact rpB_newP (fun _ => False) hb6)
    have HP0 := Lib.hid hP0; clear hP0
    have HBN := Lib.hid (show wc.heap.size < w6.heap.size from hb6.lt)
    have HBS := Lib.hid (show W.heap.size ≤ w6.heap.size from HK.out.size)
    clear k6 hb6
    go_wp2_with fail
    refine (rnew_any _).mono ?_
    rintro e w7 ⟨rfl, hb7, k7⟩
    have HM' := Lib.hid (HM.out.no k7); have HA' := Lib.hid (HA.out.no k7); have HK' := Lib.hid (HK.out.trans k7)
    clear HM HA HK
    have HM := HM'; have HA := HA'; have HK := HK'
    clear HM' HA' HK'
    have HRr := Lib.hid (HR.out.no k7); have HRs := Lib.hid (show RpB w7 w6.heap.size (fun _ => False) P0 from by rw [HP0.out]; exact rpB_newP (fun _ => False) hb7)
    clear HR k7 hb7
    generalize wc.heap.size = br at *
    generalize w6.heap.size = bs at *
    go_wp2_with (refine wpList_load_mid rfl _ _ rfl (W.heap.size + 1) 0 rfl CA _ (range_of HA.out) HUH.out rfl hib.out ?_)
    refine (QA.out _ HK.out).mono ?_
    rintro e w8 ⟨svi, rfl, hoi, k8⟩
    obtain ⟨Ai, ci, rfl, _⟩ := own_len hoi
    have HM' := Lib.hid (HM.out.no k8); have HA' := Lib.hid (HA.out.no k8); have HK' := Lib.hid (HK.out.trans k8)
    clear HM HA HK
    have HM := HM'; have HA := HA'; have HK := HK'
    clear HM' HA' HK'
    have HRr8 := Lib.hid (HRr.out.no k8); have HRs8 := Lib.hid (HRs.out.no k8)
    have HB7 := Lib.hid (show W.heap.size ≤ w7.heap.size from Nat.le_trans HBS.out (by have := HRs.out.lt; omega))
    clear k8 HRr HRs
    go_upto_region 9 with (refine wpList_store_mid rfl _ _ _ rfl w8.heap.size 0 (mcells a (.slice Ai a.stamp.length ci)).toArray rfl rfl (msg_there _ _ _) (msg_info _ _) (msg_one _ _ _ _) ?_)
    have g9 := msg_store w8 a Ai a.stamp.length ci
    generalize hw9 : World.setCells _ w8.heap.size 0 _ = w9
    rw [show (w8.alloc (.cells #[.int .i64 0, .int .i64 0, .int .i64 0, .int .i64 0, .int .i64 0, .int .i64 0, .int .i64 0, .string ⟨#[]⟩, .int .i64 0, .int .i64 0, .int .i64 0, .bool false, .int .i64 0, .slice none 0 0, .int .i64 0, .int .i64 0] 32)).setCells w8.heap.size 0 (mcells a (.slice Ai a.stamp.length ci)) = w9 from hw9] at g9
    clear hw9
    obtain ⟨b9, k9⟩ := g9
    have HIN := Lib.hid b9
    have HOI := Lib.hid (own_kp hoi k9 fun _ _ m => m)
    have HX10 := Lib.hid (show W.heap.size ≤ w8.heap.size from HK.out.size)
    have HGI := Lib.hid (show ∀ g, (Value.slice Ai a.stamp.length ci).ownBlock = some g → w7.heap.size ≤ g ∧ g < w8.heap.size from fun g e => by
      obtain ⟨cs, hb⟩ := own_bk hoi g e
      refine ⟨?_, hb.lt⟩
      rcases hoi.2 with ⟨e2, _⟩ | ⟨g', cap, cur, e2, hg, _⟩
      · rw [e2] at e; simp [Value.ownBlock] at e
      · rw [e2] at e
        have : g' = g := by simpa [Value.ownBlock] using e
        subst this; exact hg)
    have HS89 := Lib.hid (show w8.heap.size ≤ w9.heap.size from k9.size)
    have HM' := Lib.hid (HM.out.no k9); have HA' := Lib.hid (HA.out.no k9); have HK' := Lib.hid (HK.out.trans k9)
    clear HM HA HK
    have HM := HM'; have HA := HA'; have HK := HK'
    clear HM' HA' HK'
    have HRr := Lib.hid (HRr8.out.no k9); have HRs := Lib.hid (HRs8.out.no k9)
    clear k9 b9 hoi HRr8 HRs8
    as_aux_lemma =>
    have HNR := Lib.hid (show ∀ q t cs, Bk w9 q t cs → t ≠ 69 → ¬ One br q from fun q t cs hb ht e => by
      have e : q = br := e
      subst e
      obtain ⟨cs2, h2⟩ := HRr.out.at_
      exact hb.ne_ h2 ht rfl)
    simp only [Act.put]
    have hF : Kp (One br) w9 w9.drew := (Kp.refl _ w9).drew
    refine rg_begin (fun W2 => Kp (One br) w9 W2) 6 (by kernel_rfl) ?_
    refine rg_take (i := 0) (v := ?vn0) (by simp only [List.getElem?_toArray, List.getElem?_cons_zero]; rfl) (by kernel_rfl) (by exact fun _ _ _ h => h) (by rfl) ?rn0 hF ?sn0
    case rn0 => (intro W hW; clear hW; go_simp; try with_reducible rfl)
    try simp only [Act.put, List.setIfInBounds_toArray, List.set_cons_zero, List.set_cons_succ]
    refine rg_take (i := 1) (v := ?vn1) (by simp only [List.getElem?_toArray, List.getElem?_cons_succ, List.getElem?_cons_zero]; rfl) (by kernel_rfl) (by exact fun _ _ _ h => h) (by rfl) ?rn1 hF ?sn1
    case rn1 => (intro W9 hW; refine exec_load_mid W9 32 (.tmp 2) ?_ W.heap.size 0 ?_ CM _ (range_of (HM.out.kp hW (HNR.out _ _ _ HM.out (by decide)))) HUH.out ?_ hia.out; exact rfl; exact rfl; exact rfl)
    try simp only [Act.put, List.setIfInBounds_toArray, List.set_cons_zero, List.set_cons_succ]
    refine rg_take (i := 3) (v := ?vn3) (by simp only [List.getElem?_toArray, List.getElem?_cons_succ, List.getElem?_cons_zero]; rfl) (by kernel_rfl) (by exact fun _ _ _ h => h) (by rfl) ?rn3 hF ?sn3
    case rn3 => (intro W9 hW; refine exec_load_mid W9 32 (.tmp 10) ?_ w8.heap.size 0 ?_ (mcells a (.slice Ai a.stamp.length ci)) _ (range_of (HIN.out.kp hW (HNR.out _ _ _ HIN.out (by decide)))) HUH.out ?_ (by kernel_rfl); exact rfl; exact rfl; exact rfl)
    try simp only [Act.put, List.setIfInBounds_toArray, List.set_cons_zero, List.set_cons_succ]
    refine rg_one (i := 2) (oi := ?on2) ?an2 ?bn2 ?cn2 ?dn2
    case an2 => (simp only [List.getElem?_toArray, List.getElem?_cons_succ, List.getElem?_cons_zero]; rfl)
    case bn2 => kernel_rfl
    case cn2 => rfl
    intro K hK
    (go_simp; refine (QM.out _ (HK.out.trans (Kp.refl No w9).drew)).mono ?_; rintro e wM ⟨sM, rfl, hoM, kM⟩)
    refine rg_use hK (Kp.of_no ((Kp.refl No w9).drew.trans kM)) (fun hF => ?_)
    clear hK K
    try simp only [Act.put, List.setIfInBounds_toArray, List.set_cons_zero, List.set_cons_succ]
    refine rg_one (i := 4) (oi := ?on4) ?an4 ?bn4 ?cn4 ?dn4
    case an4 => (simp only [List.getElem?_toArray, List.getElem?_cons_succ, List.getElem?_cons_zero]; rfl)
    case bn4 => kernel_rfl
    case cn4 => rfl
    intro K hK
    (go_simp; refine (rkeep_any br (fun _ => False) P0 m a sM (.slice Ai a.stamp.length ci) _ (HRr.out.no ((Kp.refl No w9).drew.trans kM)) (own_slI hoM) HRm.out HSm.out ((own_slI HOI.out).no ((Kp.refl No w9).drew.trans kM)) HRa.out HSa.out).mono ?_; rintro e wK hkr; unfold KeepR at hkr; obtain ⟨hrK, kK, rfl⟩ := hkr)
    refine rg_use hK (((Kp.of_no ((Kp.refl No w9).drew.trans kM)).trans kK)) (fun hF => ?_)
    clear hK K
    try simp only [Act.put, List.setIfInBounds_toArray, List.set_cons_zero, List.set_cons_succ]
    refine rg_take (i := 5) (v := ?vn5) (by simp only [List.getElem?_toArray, List.getElem?_cons_succ, List.getElem?_cons_zero]; rfl) (by kernel_rfl) (by exact fun _ _ _ h => h) (by rfl) ?rn5 hF ?sn5
    case rn5 => (intro W hW; clear hW; go_simp; try with_reducible rfl)
    try simp only [Act.put, List.setIfInBounds_toArray, List.set_cons_zero, List.set_cons_succ]
    refine rg_done (by kernel_rfl) ?_
    skip
    have HRr9 := Lib.hid (show RpB wK br (fun k => w9.heap.size ≤ k ∧ k < wK.heap.size) (keepP P0 m a).1 from hrK.tight.mono fun k h => ⟨by
      rcases h.1 with h1 | h1
      · exact h1.elim
      · exact Nat.le_trans ((Kp.refl No w9).drew.trans kM).size h1, h.2⟩)
    have HMk := Lib.hid (HM.out.kp hF (HNR.out _ _ _ HM.out (by decide))); have HAk := Lib.hid (HA.out.kp hF (HNR.out _ _ _ HA.out (by decide))); have HINk := Lib.hid (HIN.out.kp hF (HNR.out _ _ _ HIN.out (by decide)))
    have HOIk := Lib.hid (own_kp HOI.out hF fun g e => by
      obtain ⟨cs, hb⟩ := own_bk HOI.out g e
      exact HNR.out _ _ _ hb (by decide))
    have HKk := Lib.hid (HK.out.then_ hF fun j hj e => by have e : j = br := e; have := HBR.out; omega)
    have HRsk := Lib.hid (HRs.out.kp hF (fun e => by have e : bs = br := e; have := HBN.out; omega) fun q cs hb _ => HNR.out _ _ _ hb (by decide))
    have HSZ := Lib.hid (show w9.heap.size ≤ wK.heap.size from hF.size)
    clear hrK kK hF hoM kM HM HA HIN HOI HK HRs HRr HNR
    have HM := HMk; have HA := HAk; have HIN := HINk; have HOI := HOIk; have HK := HKk; have HRs := HRsk; have HRr := HRr9
    clear HMk HAk HINk HOIk HKk HRsk HRr9
    generalize hpk : keepP P0 m a = pk at *
    have HPK := Lib.hid hpk; clear hpk
    obtain ⟨psk, kept⟩ := pk
    simp only at HRr
    have HNS := Lib.hid (show ∀ q t cs, Bk wK q t cs → t ≠ 69 → ¬ One bs q from fun q t cs hb ht e => by
      have e : q = bs := e
      subst e
      obtain ⟨cs2, h2⟩ := HRs.out.at_
      exact hb.ne_ h2 ht rfl)
    go_upto_region 10 with (fail)
    try simp only [Act.put, List.setIfInBounds_toArray, List.set_cons_zero, List.set_cons_succ]
    go_cut [65] (fun _ wx => RpB wx bs (fun k => wK.heap.size ≤ k ∧ k < wx.heap.size) psk ∧ Kp (One bs) wK wx)
    case first =>
      as_aux_lemma =>
      have hF : Kp (One bs) wK wK.drew := (Kp.refl _ wK).drew
      refine rg_begin (fun W2 => Kp (One bs) wK W2) 6 (by kernel_rfl) ?_
      refine rg_take (i := 0) (v := ?vk0) (by simp only [List.getElem?_toArray, List.getElem?_cons_zero]; rfl) (by kernel_rfl) (by exact fun _ _ _ h => h) (by rfl) ?rk0 hF ?sk0
      case rk0 => (intro W hW; clear hW; go_simp; try with_reducible rfl)
      try simp only [Act.put, List.setIfInBounds_toArray, List.set_cons_zero, List.set_cons_succ]
      refine rg_take (i := 1) (v := ?vk1) (by simp only [List.getElem?_toArray, List.getElem?_cons_succ, List.getElem?_cons_zero]; rfl) (by kernel_rfl) (by exact fun _ _ _ h => h) (by rfl) ?rk1 hF ?sk1
      case rk1 => (intro W9 hW; refine exec_load_mid W9 32 (.tmp 2) ?_ W.heap.size 0 ?_ CM _ (range_of (HM.out.kp hW (HNS.out _ _ _ HM.out (by decide)))) HUH.out ?_ hia.out; exact rfl; exact rfl; exact rfl)
      try simp only [Act.put, List.setIfInBounds_toArray, List.set_cons_zero, List.set_cons_succ]
      refine rg_take (i := 3) (v := ?vk3) (by simp only [List.getElem?_toArray, List.getElem?_cons_succ, List.getElem?_cons_zero]; rfl) (by kernel_rfl) (by exact fun _ _ _ h => h) (by rfl) ?rk3 hF ?sk3
      case rk3 => (intro W9 hW; refine exec_load_mid W9 32 (.tmp 3) ?_ (W.heap.size + 1) 0 ?_ CA _ (range_of (HA.out.kp hW (HNS.out _ _ _ HA.out (by decide)))) HUH.out ?_ hib.out; exact rfl; exact rfl; exact rfl)
      try simp only [Act.put, List.setIfInBounds_toArray, List.set_cons_zero, List.set_cons_succ]
      refine rg_one (i := 2) (oi := ?ok2) ?ak2 ?bk2 ?ck2 ?dk2
      case ak2 => (simp only [List.getElem?_toArray, List.getElem?_cons_succ, List.getElem?_cons_zero]; rfl)
      case bk2 => kernel_rfl
      case ck2 => rfl
      intro K hK
      (go_simp; refine (QM.out _ (HK.out.trans (Kp.refl No wK).drew)).mono ?_; rintro e wM ⟨sM, rfl, hoM, kM⟩)
      refine rg_use hK (Kp.of_no ((Kp.refl No wK).drew.trans kM)) (fun hF => ?_)
      clear hK K
      try simp only [Act.put, List.setIfInBounds_toArray, List.set_cons_zero, List.set_cons_succ]
      refine rg_one (i := 4) (oi := ?ok4) ?ak4 ?bk4 ?ck4 ?dk4
      case ak4 => (simp only [List.getElem?_toArray, List.getElem?_cons_succ, List.getElem?_cons_zero]; rfl)
      case bk4 => kernel_rfl
      case ck4 => rfl
      intro K hK
      (go_simp; refine (QA.out _ (HK.out.trans ((Kp.refl No wK).drew.trans kM))).mono ?_; rintro e wN ⟨sN, rfl, hoN, kN⟩)
      refine rg_use hK (Kp.of_no (((Kp.refl No wK).drew.trans kM).trans kN)) (fun hF => ?_)
      clear hK K
      try simp only [Act.put, List.setIfInBounds_toArray, List.set_cons_zero, List.set_cons_succ]
      refine rg_one (i := 5) (oi := ?ok5) ?ak5 ?bk5 ?ck5 ?dk5
      case ak5 => (simp only [List.getElem?_toArray, List.getElem?_cons_succ, List.getElem?_cons_zero]; rfl)
      case bk5 => kernel_rfl
      case ck5 => rfl
      intro K hK
      (go_simp; refine (rkeep_any bs (fun _ => False) P0 m a sM sN _ (HRs.out.no (((Kp.refl No wK).drew.trans kM).trans kN)) ((own_slI hoM).no kN) HRm.out HSm.out (own_slI hoN) HRa.out HSa.out).mono ?_; rintro e wL hkr; unfold KeepR at hkr; obtain ⟨hrL, kL, rfl⟩ := hkr)
      refine rg_use hK (((Kp.of_no (((Kp.refl No wK).drew.trans kM).trans kN)).trans kL)) (fun hF => ?_)
      clear hK K
      try simp only [Act.put, List.setIfInBounds_toArray, List.set_cons_zero, List.set_cons_succ]
      refine rg_done (by kernel_rfl) ?_
      rw [HPK.out] at hrL
      have HFIN := Lib.hid (show RpB wL bs (fun k => wK.heap.size ≤ k ∧ k < wL.heap.size) psk ∧ Kp (One bs) wK wL from ⟨hrL.tight.mono fun k h => ⟨by
        rcases h.1 with h1 | h1
        · exact h1.elim
        · exact Nat.le_trans (((Kp.refl No wK).drew.trans kM).trans kN).size h1, h.2⟩, hF⟩)
      clear hrL kL hF
      go_wp2
      go_meet
      exact HFIN.out
    case rest =>
      obtain ⟨hrs, kc⟩ := hcut
      have HMk := Lib.hid (HM.out.kp kc (HNS.out _ _ _ HM.out (by decide))); have HAk := Lib.hid (HA.out.kp kc (HNS.out _ _ _ HA.out (by decide))); have HINk := Lib.hid (HIN.out.kp kc (HNS.out _ _ _ HIN.out (by decide)))
      have HOIk := Lib.hid (own_kp HOI.out kc fun g e => by
        obtain ⟨cs, hb⟩ := own_bk HOI.out g e
        exact HNS.out _ _ _ hb (by decide))
      have HKk := Lib.hid (HK.out.then_ kc fun j hj e => by have e : j = bs := e; have := HBS.out; omega)
      have HRrk := Lib.hid (HRr.out.kp kc (fun e => by have e : br = bs := e; have := HBN.out; omega) fun q cs hb _ => HNS.out _ _ _ hb (by decide))
      have HRsk := Lib.hid hrs
      have HSZ2 := Lib.hid (show wK.heap.size ≤ wc.heap.size from kc.size)
      clear hrs kc HM HA HIN HOI HK HRs HRr HNS
      have HM := HMk; have HA := HAk; have HIN := HINk; have HOI := HOIk; have HK := HKk; have HRs := HRsk; have HRr := HRrk
      clear HMk HAk HINk HOIk HKk HRsk HRrk
      have hii : Hid ((Tryz.prog.info? 32).map (·.size) = some (mcells a (.slice Ai a.stamp.length ci)).length) := Lib.hid (by kernel_rfl)
      have pss := rsame_any a a Ai B ci d wc (own_argI HOI.out) (HAa.out.no HK.out) (by have := HLa.out; unfold maxLen; omega) (by have := HLa.out; unfold maxLen; omega)
      rw [decide_eq_true rfl, ← HCA.out] at pss
      go_wp2_with (first
        | (refine wpList_load_mid rfl _ _ rfl w8.heap.size 0 rfl (mcells a (.slice Ai a.stamp.length ci)) _ (range_of HIN.out) HUH.out rfl hii.out ?_)
        | (refine wpList_load_mid rfl _ _ rfl (W.heap.size + 1) 0 rfl CA _ (range_of HA.out) HUH.out rfl hib.out ?_))
      refine pss.mono ?_
      rintro e w12 ⟨rfl, k12⟩
      clear pss
      have HM' := Lib.hid (HM.out.no k12)
      have HA' := Lib.hid (HA.out.no k12)
      have HIN' := Lib.hid (HIN.out.no k12)
      have HOI' := Lib.hid (own_kp HOI.out k12 fun _ _ m => m)
      have HK' := Lib.hid (HK.out.trans k12)
      have HRs' := Lib.hid (HRs.out.no k12)
      have HRr' := Lib.hid (HRr.out.no k12)
      clear HM HA HIN HOI HK HRs HRr
      have HM := HM'
      have HA := HA'
      have HIN := HIN'
      have HOI := HOI'
      have HK := HK'
      have HRs := HRs'
      have HRr := HRr'
      clear HM' HA' HIN' HOI' HK' HRs' HRr'
      have HSZ3 := Lib.hid (show wc.heap.size ≤ w12.heap.size from k12.size)
      clear k12
      have HNI := Lib.hid (show ∀ q t cs, Bk w12 q t cs → t ≠ 3 → ¬ ((Value.slice Ai a.stamp.length ci).ownBlock = some q) from fun q t cs hb ht e => own_ne HOI.out hb (fun e2 => ht e2.symm) e)
      have HLP := Lib.hid (show a.stamp.length ≤ 17592186043904 from by have := HLa.out; omega)
      have b13 : w12.cell? ⟨w8.heap.size, 13, none⟩ = some (.slice Ai a.stamp.length ci) := HIN.out.cell 13
      go_upto_region 14 with (fail)
      clear b13
      as_aux_lemma =>
      go_wp2_with fail
      go_loopw [73] (fun i wr => ∃ k : Nat, k ≤ a.stamp.length ∧ i = .int .i64 k ∧ (∃ L, L.length = a.stamp.length ∧ wr.ownsRow w7.heap.size 3 1 (.slice Ai a.stamp.length ci) a.stamp.length (ints L)) ∧ Bk wr w8.heap.size 32 (mcells a (.slice Ai a.stamp.length ci)) ∧ Kp (fun g => (Value.slice Ai a.stamp.length ci).ownBlock = some g) w12 wr) (fun i _ => a.stamp.length - (intOf i).toNat)
      case atStart => exact ⟨0, Nat.zero_le _, rfl, ⟨_, rfl, HOI.out⟩, HIN.out, Kp.refl _ _⟩
      case round =>
      obtain ⟨k4, hk, rfl, ⟨L, hLl, ho⟩, hbx, hkp⟩ := hrel
      by_cases hlt : k4 < a.stamp.length
      · have hk0 : (0 : Int) ≤ (k4 : Int) := by omega
        have hbd := HLP.out
        have hk1 : (k4 : Int) < (a.stamp.length : Int) := by omega
        have b13 : wr.cell? ⟨w8.heap.size, 13, none⟩ = some (.slice Ai a.stamp.length ci) := hbx.cell 13
        obtain ⟨pg, cap, e, _, _, _⟩ := own_form ho (by omega)
        obtain rfl : Ai = some ⟨pg, 0, none⟩ := by injection e
        clear e
        obtain ⟨cs, hb, hlc, _⟩ := own_bkG ho
        obtain ⟨zc, z0⟩ : ∃ zc, wr.cell? ⟨pg, k4, none⟩ = some zc := ⟨cs[k4]'(by omega), by rw [hb.cell, List.getElem?_eq_getElem]⟩
        have zf := hb.frozen k4
        have HNB := Lib.hid (show w8.heap.size ≠ pg from fun e => hbx.ne_ (by rw [e]; exact hb) (by decide) rfl)
        have HO2 := Lib.hid ho; have HK4 := Lib.hid hkp; have HBX := Lib.hid hbx; have HLL := Lib.hid hLl
        clear hb hkp hlc ho hbx hLl
        as_aux_lemma =>
        go_wp2
        go_roundw
        case rel => exact ⟨k4 + 1, by omega, by go_num, ⟨_, by rw [List.length_set]; exact HLL.out, own_setI HO2.out (77)⟩, HBX.out.far (p := ⟨pg, k4, none⟩) HNB.out _, HK4.out.set (.inl rfl) k4 _⟩
        case measure => simp [intOf]; omega
      have hk1 : ¬ (k4 : Int) < (a.stamp.length : Int) := by omega
      have HK4 := Lib.hid hkp
      clear ho hkp hlt hk hbx hLl HIN HOI
      obtain ⟨wd, hwd⟩ : ∃ wd : World, wd = wr := ⟨_, rfl⟩
      subst hwd
      have HMk := Lib.hid (HM.out.kp HK4.out (HNI.out _ _ _ HM.out (by decide))); have HAk := Lib.hid (HA.out.kp HK4.out (HNI.out _ _ _ HA.out (by decide)))
      have HKk := Lib.hid (HK.out.then_ HK4.out fun j hj e => by have h1 := HGI.out j e; have := HB7.out; omega)
      have HRrk := Lib.hid (HRr.out.kp HK4.out (fun e => by obtain ⟨cs, h2⟩ := HRr.out.at_; exact HNI.out _ _ _ h2 (by decide) e) fun q cs _ hp e => by have h1 := HGI.out q e; have h2 := HS89.out; omega)
      have HRsk := Lib.hid (HRs.out.kp HK4.out (fun e => by obtain ⟨cs, h2⟩ := HRs.out.at_; exact HNI.out _ _ _ h2 (by decide) e) fun q cs _ hp e => by have h1 := HGI.out q e; have h2 := HS89.out; have h3 := HSZ.out; omega)
      have HSZ4 := Lib.hid (show w12.heap.size ≤ wd.heap.size from HK4.out.size)
      clear HM HA HK HRr HRs HK4 HNI HGI
      have HM := HMk; have HA := HAk; have HK := HKk; have HRr := HRrk; have HRs := HRsk
      clear HMk HAk HKk HRrk HRsk
      have HWM := Lib.hid (show W.heap.size + 1 < wd.heap.size from HA.out.lt)
      have HBRL := Lib.hid (show br < wd.heap.size from HRr.out.lt); have HBSL := Lib.hid (show bs < wd.heap.size from HRs.out.lt)
      have HGO := Lib.hid (show GoodO kept m a psk from by have h := GoodO.init m a; rw [← HP0.out, HPK.out] at h; exact h)
      obtain ⟨T, hT⟩ : ∃ T, T = toldO kept a := ⟨_, rfl⟩
      have HT := Lib.hid hT
      have HLT := Lib.hid (show T.stamp.length ≤ 17592186043904 from by rw [hT]; have := toldO_len kept a; have := HLa.out; omega)
      have HGS := Lib.hid HGO.out
      clear hT HLP
      as_aux_lemma =>
      go_upto_region 18 with (fail)
      go_wp2_with (refine wpList_load_mid rfl _ _ rfl W.heap.size 0 rfl CM _ (range_of HM.out) HUH.out rfl hia.out ?_)
      refine (QM.out _ HK.out).mono ?_
      rintro e wm13 ⟨so13, rfl, ho13, k13⟩
      have HZ13 := Lib.hid k13.size
      have HM' := Lib.hid (HM.out.no k13)
      have HA' := Lib.hid (HA.out.no k13)
      have HK' := Lib.hid (HK.out.trans k13)
      have HRs' := Lib.hid (HRs.out.no k13)
      have HRr' := Lib.hid (HRr.out.no k13)
      clear HM HA HK HRs HRr
      have HM := HM'
      have HA := HA'
      have HK := HK'
      have HRs := HRs'
      have HRr := HRr'
      clear HM' HA' HK' HRs' HRr'
      clear k13
      have ps := rseen_any br _ psk m so13 _ HRr.out (own_slI ho13) HRm.out HSm.out
      have hnb : ∀ q t cs, Bk wm13 q t cs → t ≠ 69 → ¬ One br q := fun q t cs hb ht e => by
        have e : q = br := e
        subst e
        obtain ⟨cs2, h2⟩ := HRr.out.at_
        exact hb.ne_ h2 ht rfl
      go_wp2_with fail
      refine ps.mono ?_
      rintro e ws13 hsr
      unfold SeenR at hsr
      obtain ⟨hrs, ks, svp, rfl, hop⟩ := hsr
      clear ps ho13
      obtain ⟨g1, g2, g3⟩ := HGO.out.seen
      rw [← HT.out] at g3
      generalize hsn : seenP psk m = sn at *
      clear hsn
      obtain ⟨ps13, v13, p13⟩ := sn
      simp only at g1 g2 g3 hrs hop
      have g4 := g3.symm
      clear g3
      subst g4
      obtain ⟨Ap13, cp13, rfl, _⟩ := own_len hop
      have HM' := Lib.hid (HM.out.kp ks (hnb _ _ _ HM.out (by decide)))
      have HA' := Lib.hid (HA.out.kp ks (hnb _ _ _ HA.out (by decide)))
      have HK' := Lib.hid (HK.out.then_ ks fun j hj e => by have e : j = br := e; have := HBR.out; omega)
      have HRs' := Lib.hid (HRs.out.kp ks (fun e => by have e : _ = br := e; have := HBN.out; omega) fun q cs hb _ => hnb _ _ _ hb (by decide))
      have HY13 := Lib.hid ks.size
      have HRr' := Lib.hid hrs
      have HO13' := Lib.hid hop
      have HE13 := Lib.hid g2
      have HGO' := Lib.hid g1
      have HG13 := Lib.hid (show ∀ g, (Value.slice Ap13 T.stamp.length cp13).ownBlock = some g → wm13.heap.size ≤ g ∧ g < ws13.heap.size from fun g e => by
        obtain ⟨cs, hb⟩ := own_bk hop g e
        refine ⟨?_, hb.lt⟩
        rcases hop.2 with ⟨e2, _⟩ | ⟨g', cap, cur, e2, hg, _⟩
        · rw [e2] at e; simp [Value.ownBlock] at e
        · rw [e2] at e
          have : g' = g := by simpa [Value.ownBlock] using e
          subst this; exact hg)
      clear HM HA HK HRs HRr HGO hrs ks hop g1 g2 hnb
      have HM := HM'
      have HA := HA'
      have HK := HK'
      have HRs := HRs'
      have HRr := HRr'
      have HO13 := HO13'
      have HGO := HGO'
      clear HM' HA' HK' HRs' HRr' HO13' HGO'
      go_upto_region 19 with (refine wpList_store_mid rfl _ _ _ rfl ws13.heap.size 0 (mcells T (.slice Ap13 T.stamp.length cp13)).toArray rfl rfl (msg_there _ _ _) (msg_info _ _) (msg_one _ _ _ _) ?_)
      have gx := msg_store ws13 T Ap13 T.stamp.length cp13
      generalize hwx : World.setCells _ ws13.heap.size 0 _ = wx13
      rw [show (ws13.alloc (.cells #[.int .i64 0, .int .i64 0, .int .i64 0, .int .i64 0, .int .i64 0, .int .i64 0, .int .i64 0, .string ⟨#[]⟩, .int .i64 0, .int .i64 0, .int .i64 0, .bool false, .int .i64 0, .slice none 0 0, .int .i64 0, .int .i64 0] 32)).setCells ws13.heap.size 0 (mcells T (.slice Ap13 T.stamp.length cp13)) = wx13 from hwx] at gx
      clear hwx
      obtain ⟨bx, kx⟩ := gx
      have HX13 := Lib.hid bx
      have HL13 := Lib.hid bx.lt
      have HM' := Lib.hid (HM.out.no kx)
      have HA' := Lib.hid (HA.out.no kx)
      have HK' := Lib.hid (HK.out.trans kx)
      have HRs' := Lib.hid (HRs.out.no kx)
      have HRr' := Lib.hid (HRr.out.no kx)
      have HO13' := Lib.hid (own_kp HO13.out kx fun _ _ m => m)
      clear HM HA HK HRs HRr HO13
      have HM := HM'
      have HA := HA'
      have HK := HK'
      have HRs := HRs'
      have HRr := HRr'
      have HO13 := HO13'
      clear HM' HA' HK' HRs' HRr' HO13'
      clear kx bx
      as_aux_lemma =>
      go_wp2_with (refine wpList_load_mid rfl _ _ rfl W.heap.size 0 rfl CM _ (range_of HM.out) HUH.out rfl hia.out ?_)
      refine (QM.out _ HK.out).mono ?_
      rintro e wm15 ⟨so15, rfl, ho15, k15⟩
      have HZ15 := Lib.hid k15.size
      have HM' := Lib.hid (HM.out.no k15)
      have HA' := Lib.hid (HA.out.no k15)
      have HX13' := Lib.hid (HX13.out.no k15)
      have HO13' := Lib.hid (own_kp HO13.out k15 fun _ _ m => m)
      have HK' := Lib.hid (HK.out.trans k15)
      have HRs' := Lib.hid (HRs.out.no k15)
      have HRr' := Lib.hid (HRr.out.no k15)
      clear HM HA HX13 HO13 HK HRs HRr
      have HM := HM'
      have HA := HA'
      have HX13 := HX13'
      have HO13 := HO13'
      have HK := HK'
      have HRs := HRs'
      have HRr := HRr'
      clear HM' HA' HX13' HO13' HK' HRs' HRr'
      clear k15
      have ps := rseen_any br _ ps13 m so15 _ HRr.out (own_slI ho15) HRm.out HSm.out
      have hnb : ∀ q t cs, Bk wm15 q t cs → t ≠ 69 → ¬ One br q := fun q t cs hb ht e => by
        have e : q = br := e
        subst e
        obtain ⟨cs2, h2⟩ := HRr.out.at_
        exact hb.ne_ h2 ht rfl
      go_wp2_with fail
      refine ps.mono ?_
      rintro e ws15 hsr
      unfold SeenR at hsr
      obtain ⟨hrs, ks, svp, rfl, hop⟩ := hsr
      clear ps ho15
      obtain ⟨g1, g2, g3⟩ := HGO.out.seen
      rw [← HT.out] at g3
      generalize hsn : seenP ps13 m = sn at *
      clear hsn
      obtain ⟨ps15, v15, p15⟩ := sn
      simp only at g1 g2 g3 hrs hop
      have g4 := g3.symm
      clear g3
      subst g4
      obtain ⟨Ap15, cp15, rfl, _⟩ := own_len hop
      have HM' := Lib.hid (HM.out.kp ks (hnb _ _ _ HM.out (by decide)))
      have HA' := Lib.hid (HA.out.kp ks (hnb _ _ _ HA.out (by decide)))
      have HX13' := Lib.hid (HX13.out.kp ks (hnb _ _ _ HX13.out (by decide)))
      have HO13' := Lib.hid (own_kp HO13.out ks fun g e => by
        obtain ⟨cs, hb⟩ := own_bk HO13.out g e
        exact hnb _ _ _ hb (by decide))
      have HK' := Lib.hid (HK.out.then_ ks fun j hj e => by have e : j = br := e; have := HBR.out; omega)
      have HRs' := Lib.hid (HRs.out.kp ks (fun e => by have e : _ = br := e; have := HBN.out; omega) fun q cs hb _ => hnb _ _ _ hb (by decide))
      have HY15 := Lib.hid ks.size
      have HRr' := Lib.hid hrs
      have HO15' := Lib.hid hop
      have HE15 := Lib.hid g2
      have HGO' := Lib.hid g1
      have HG15 := Lib.hid (show ∀ g, (Value.slice Ap15 T.stamp.length cp15).ownBlock = some g → wm15.heap.size ≤ g ∧ g < ws15.heap.size from fun g e => by
        obtain ⟨cs, hb⟩ := own_bk hop g e
        refine ⟨?_, hb.lt⟩
        rcases hop.2 with ⟨e2, _⟩ | ⟨g', cap, cur, e2, hg, _⟩
        · rw [e2] at e; simp [Value.ownBlock] at e
        · rw [e2] at e
          have : g' = g := by simpa [Value.ownBlock] using e
          subst this; exact hg)
      clear HM HA HX13 HO13 HK HRs HRr HGO hrs ks hop g1 g2 hnb
      have HM := HM'
      have HA := HA'
      have HX13 := HX13'
      have HO13 := HO13'
      have HK := HK'
      have HRs := HRs'
      have HRr := HRr'
      have HO15 := HO15'
      have HGO := HGO'
      clear HM' HA' HX13' HO13' HK' HRs' HRr' HO15' HGO'
      go_upto_region 20 with (refine wpList_store_mid rfl _ _ _ rfl ws15.heap.size 0 (mcells T (.slice Ap15 T.stamp.length cp15)).toArray rfl rfl (msg_there _ _ _) (msg_info _ _) (msg_one _ _ _ _) ?_)
      have gx := msg_store ws15 T Ap15 T.stamp.length cp15
      generalize hwx : World.setCells _ ws15.heap.size 0 _ = wx15
      rw [show (ws15.alloc (.cells #[.int .i64 0, .int .i64 0, .int .i64 0, .int .i64 0, .int .i64 0, .int .i64 0, .int .i64 0, .string ⟨#[]⟩, .int .i64 0, .int .i64 0, .int .i64 0, .bool false, .int .i64 0, .slice none 0 0, .int .i64 0, .int .i64 0] 32)).setCells ws15.heap.size 0 (mcells T (.slice Ap15 T.stamp.length cp15)) = wx15 from hwx] at gx
      clear hwx
      obtain ⟨bx, kx⟩ := gx
      have HX15 := Lib.hid bx
      have HL15 := Lib.hid bx.lt
      have HM' := Lib.hid (HM.out.no kx)
      have HA' := Lib.hid (HA.out.no kx)
      have HX13' := Lib.hid (HX13.out.no kx)
      have HO13' := Lib.hid (own_kp HO13.out kx fun _ _ m => m)
      have HK' := Lib.hid (HK.out.trans kx)
      have HRs' := Lib.hid (HRs.out.no kx)
      have HRr' := Lib.hid (HRr.out.no kx)
      have HO15' := Lib.hid (own_kp HO15.out kx fun _ _ m => m)
      clear HM HA HX13 HO13 HK HRs HRr HO15
      have HM := HM'
      have HA := HA'
      have HX13 := HX13'
      have HO13 := HO13'
      have HK := HK'
      have HRs := HRs'
      have HRr := HRr'
      have HO15 := HO15'
      clear HM' HA' HX13' HO13' HK' HRs' HRr' HO15'
      clear kx bx
      as_aux_lemma =>
      have e13 := HE13.out
      have HLP := Lib.hid HLT.out
      have b13 : wx15.cell? ⟨ws13.heap.size, 13, none⟩ = some (.slice Ap13 T.stamp.length cp13) := HX13.out.cell 13
      have HNI := Lib.hid (show ∀ q t cs, Bk wx15 q t cs → t ≠ 3 → ¬ ((Value.slice Ap13 T.stamp.length cp13).ownBlock = some q) from fun q t cs hb ht e => own_ne HO13.out hb (fun e2 => ht e2.symm) e)
      go_wp2_with fail
      clear b13 e13
      go_loopw [102] (fun i wr => ∃ k : Nat, k ≤ T.stamp.length ∧ i = .int .i64 k ∧ (∃ L, L.length = T.stamp.length ∧ wr.ownsRow wm13.heap.size 3 1 (.slice Ap13 T.stamp.length cp13) T.stamp.length (ints L)) ∧ Bk wr ws13.heap.size 32 (mcells T (.slice Ap13 T.stamp.length cp13)) ∧ Kp (fun g => (Value.slice Ap13 T.stamp.length cp13).ownBlock = some g) wx15 wr) (fun i _ => T.stamp.length - (intOf i).toNat)
      case atStart => exact ⟨0, Nat.zero_le _, rfl, ⟨_, rfl, HO13.out⟩, HX13.out, Kp.refl _ _⟩
      case round =>
      obtain ⟨k4, hk, rfl, ⟨L, hLl, ho⟩, hbx, hkp⟩ := hrel
      by_cases hlt : k4 < T.stamp.length
      · have hk0 : (0 : Int) ≤ (k4 : Int) := by omega
        have hbd := HLP.out
        have hk1 : (k4 : Int) < (T.stamp.length : Int) := by omega
        have b13 : wr.cell? ⟨ws13.heap.size, 13, none⟩ = some (.slice Ap13 T.stamp.length cp13) := hbx.cell 13
        obtain ⟨pg, cap, e, _, _, _⟩ := own_form ho (by omega)
        obtain rfl : Ap13 = some ⟨pg, 0, none⟩ := by injection e
        clear e
        obtain ⟨cs, hb, hlc, _⟩ := own_bkG ho
        obtain ⟨zc, z0⟩ : ∃ zc, wr.cell? ⟨pg, k4, none⟩ = some zc := ⟨cs[k4]'(by omega), by rw [hb.cell, List.getElem?_eq_getElem]⟩
        have zf := hb.frozen k4
        have HNB := Lib.hid (show ws13.heap.size ≠ pg from fun e => hbx.ne_ (by rw [e]; exact hb) (by decide) rfl)
        have HO2 := Lib.hid ho; have HK4 := Lib.hid hkp; have HBX := Lib.hid hbx; have HLL := Lib.hid hLl
        clear hb hkp hlc ho hbx hLl
        as_aux_lemma =>
        go_wp2
        go_roundw
        case rel => exact ⟨k4 + 1, by omega, by go_num, ⟨_, by rw [List.length_set]; exact HLL.out, own_setI HO2.out (-5)⟩, HBX.out.far (p := ⟨pg, k4, none⟩) HNB.out _, HK4.out.set (.inl rfl) k4 _⟩
        case measure => simp [intOf]; omega
      have hk1 : ¬ (k4 : Int) < (T.stamp.length : Int) := by omega
      have HP4 := Lib.hid hkp
      have HPd := Lib.hid ho; have HBd := Lib.hid hbx; have HLL := Lib.hid hLl
      clear ho hkp hlt hk hbx hLl HX13 HO13
      obtain ⟨we, hwe⟩ : ∃ we : World, we = wr := ⟨_, rfl⟩
      subst hwe
      obtain ⟨D, hD⟩ : ∃ D : Nat → Prop, D = fun g => (Value.slice Ap13 T.stamp.length cp13).ownBlock = some g ∨ g = ws13.heap.size := ⟨_, rfl⟩
      have HD := Lib.hid hD; clear hD
      as_aux_lemma =>
      have b13 : we.cell? ⟨ws13.heap.size, 13, none⟩ = some (.slice Ap13 T.stamp.length cp13) := HBd.out.cell 13
      go_wp2_with fail
      clear b13
      go_loopw [17] (fun i wr => ∃ k : Nat, k ≤ 9 ∧ i = .int .i64 k ∧ (∃ L A2 c2, wr.ownsRow 0 3 1 (.slice A2 L.length c2) L.length (ints L) ∧ L.length ≤ T.stamp.length + k ∧ (∀ g, (Value.slice A2 L.length c2).ownBlock = some g → D g ∨ we.heap.size ≤ g) ∧ Bk wr ws13.heap.size 32 (mcells T (.slice A2 L.length c2))) ∧ Kp D we wr) (fun i _ => 9 - (intOf i).toNat)
      case atStart =>
        refine ⟨0, Nat.zero_le _, rfl, ⟨L, Ap13, cp13, ?_, by have := HLL.out; omega, fun g hg => .inl (by rw [HD.out]; exact .inl (by rw [← HLL.out]; exact hg)), ?_⟩, Kp.refl _ _⟩
        · rw [HLL.out]; exact own_base HPd.out (Nat.zero_le _)
        · rw [HLL.out]; exact HBd.out
      case round =>
      obtain ⟨k5, hk, rfl, ⟨L5, A5, c5, hoi, hli, hzi, hbx⟩, hkp⟩ := hrel
      have HIO := Lib.hid hoi; have HIL := Lib.hid hli; have HID := Lib.hid hzi; have HIB := Lib.hid hbx; have HK5 := Lib.hid hkp
      clear hoi hli hzi hbx hkp
      by_cases hlt : k5 < 9
      · have hk1 : (k5 : Int) < 9 := by omega
        have hi1 := HIL.out
        have hi2 := HLT.out
        have b13 : wr.cell? ⟨ws13.heap.size, 13, none⟩ = some (.slice A5 L5.length c5) := HIB.out.cell 13
        have hbl := HIB.out.lt
        have I2E := Lib.hid (own_kp HIO.out ((Kp.refl No wr).alloc (.cells #[.int .i64 (-6)] 3)) (fun _ _ m => m))
        as_aux_lemma =>
        go_wp2_with (at_builtin; refine (wpList_appV _ rfl _ _ 30 rfl 0 3 _ 8 Tryz.underlying30 Tryz.infoI rfl _ L5.length (ints L5) rfl I2E.out _ 1 1 [.int .i64 (-6)] rfl rfl (cs_new rfl rfl) (by intro u hu; cases hu with | head => rfl | tail _ h => cases h) (by omega) (by omega) (Nat.zero_le _) ?_); intro y3 w3b o3 k3 n3; have hk3 : Kp (fun g => (Value.slice A5 L5.length c5).ownBlock = some g) (wr.alloc (.cells #[.int .i64 (-6)] 3)) w3b := k3; have HK3b := Lib.hid hk3; have HN3 := Lib.hid n3; have B3 := Lib.hid ((HIB.out.alloc (.cells #[.int .i64 (-6)] 3)).kp hk3 (fun e => own_ne HIO.out HIB.out (by decide) e)); obtain ⟨A6, c6, hy3, _⟩ := own_len o3; subst hy3; have I3 := Lib.hid o3; have c13 : w3b.cell? ⟨ws13.heap.size, 13, none⟩ = some (.slice A5 L5.length c5) := B3.out.cell 13; have cf := B3.out.frozen 13; clear o3 k3 n3 hk3 b13)
        go_roundw
        case rel =>
          have e6 : ints L5 ++ [.int .i64 (-6)] = ints (L5 ++ [-6]) := by simp [ints]
          have hl6 : (L5 ++ [-6]).length = L5.length + 1 := by simp
          have I4 := I3.out
          rw [e6, ← hl6] at I4
          have hne : ∀ g, (Value.slice A6 (L5.length + 1) c6).ownBlock = some g → g ≠ ws13.heap.size := fun g hg e => own_ne I3.out B3.out (by decide) (by rw [hg, e])
          have kw : Kp (One ws13.heap.size) w3b (w3b.setCell ⟨ws13.heap.size, 13, none⟩ (.slice A6 (L5.length + 1) c6)) := (Kp.refl (One ws13.heap.size) w3b).set (.inl rfl) 13 _
          refine ⟨k5 + 1, by omega, by go_num, ⟨L5 ++ [-6], A6, c6, ?_, by rw [hl6]; omega, fun g hg => ?_, ?_⟩, ?_⟩
          · rw [hl6] at I4 ⊢
            exact own_kp I4 kw (fun g hg e => hne g hg e)
          · rw [hl6] at hg
            rcases HN3.out g hg with h | h
            · exact HID.out g h
            · right; have h1 := HK5.out.size; simp at h; omega
          · rw [hl6]; exact B3.out.set_ 13 _
          · refine ((HK5.out.then_ ((Kp.refl No wr).alloc _) fun _ _ m => m.elim).then_ HK3b.out fun i hi e => ?_).then_ kw fun i _ e => ?_
            · rcases HID.out i e with h | h
              · exact h
              · omega
            · rw [HD.out]; exact .inr e
        case measure => simp [intOf]; omega
      have hk1 : ¬ (k5 : Int) < 9 := by omega
      obtain ⟨wf, hwf⟩ : ∃ wf : World, wf = wr := ⟨_, rfl⟩
      subst hwf
      have KT := Lib.hid (show Kp D wx15 wf from (HP4.out.mono fun i _ e => by rw [HD.out]; exact .inl e).then_ HK5.out fun i _ e => e)
      have HDZ := Lib.hid (show ∀ g, D g → (wm13.heap.size ≤ g ∧ g ≤ ws13.heap.size) from fun g hg => by
        rw [HD.out] at hg
        rcases hg with h | h
        · have := HG13.out g h; omega
        · have := HZ13.out; have := HY13.out; omega)
      have HDT := Lib.hid (show ∀ q t cs, Bk wx15 q t cs → t ≠ 3 → q ≠ ws13.heap.size → ¬ D q from fun q t cs hb ht hq e => by
        rw [HD.out] at e
        rcases e with h | h
        · exact HNI.out q t cs hb ht h
        · exact hq h)
      have HZW := Lib.hid (show W.heap.size ≤ wd.heap.size ∧ wK.heap.size ≤ wd.heap.size ∧ wc.heap.size ≤ wd.heap.size from by have h1 := HSZ4.out; have h2 := HSZ3.out; have h3 := HSZ2.out; have h4 := HX10.out; have h5 := HS89.out; have h6 := HSZ.out; omega)
      have HMk := Lib.hid (HM.out.kp KT.out fun e => by have h1 := HDZ.out _ e; have h2 := HZ13.out; have h3 := HZW.out; have h4 := HWM.out; omega)
      have HAk := Lib.hid (HA.out.kp KT.out fun e => by have h1 := HDZ.out _ e; have h2 := HZ13.out; have h3 := HZW.out; have h4 := HWM.out; omega)
      have HX15k := Lib.hid (HX15.out.kp KT.out fun e => by have h1 := HDZ.out _ e; have h2 := HL13.out; have h3 := HZ15.out; have h4 := HY15.out; omega)
      have HO15k := Lib.hid (own_kp HO15.out KT.out fun g hg e => by have h1 := HDZ.out _ e; have h2 := HG15.out g hg; have h3 := HL13.out; have h4 := HZ15.out; omega)
      have HKk := Lib.hid (HK.out.then_ KT.out fun j hj e => by have h1 := HDZ.out _ e; have h2 := HZ13.out; have h3 := HZW.out; omega)
      have HRrk := Lib.hid (HRr.out.kp KT.out (fun e => by have h1 := HDZ.out _ e; have h2 := HBRL.out; have h3 := HZ13.out; have h4 := HZW.out; omega) fun q cs hb hp e => by have h1 := HDZ.out _ e; have h3 := HZ13.out; have h4 := HZW.out; omega)
      have HRsk := Lib.hid (HRs.out.kp KT.out (fun e => by have h1 := HDZ.out _ e; have h2 := HBSL.out; have h3 := HZ13.out; have h4 := HZW.out; omega) fun q cs hb hp e => by have h1 := HDZ.out _ e; have h3 := HZ13.out; have h4 := HZW.out; omega)
      clear HM HA HX15 HO15 HK HRr HRs KT HDZ HDT HNI HIO HIL HID HIB HK5 HP4 HPd HBd HLL HD hlt hk HG13 HG15
      have HM := HMk; have HA := HAk; have HX15 := HX15k; have HO15 := HO15k; have HK := HKk; have HRr := HRrk; have HRs := HRsk
      clear HMk HAk HX15k HO15k HKk HRrk HRsk
      as_aux_lemma =>
      go_upto_region 31 with (fail)
      go_wp2_with (refine wpList_load_mid rfl _ _ rfl W.heap.size 0 rfl CM _ (range_of HM.out) HUH.out rfl hia.out ?_)
      refine (QM.out _ HK.out).mono ?_
      rintro e wm19 ⟨so19, rfl, ho19, k19⟩
      have HZ19 := Lib.hid k19.size
      have HM' := Lib.hid (HM.out.no k19)
      have HA' := Lib.hid (HA.out.no k19)
      have HX15' := Lib.hid (HX15.out.no k19)
      have HO15' := Lib.hid (own_kp HO15.out k19 fun _ _ m => m)
      have HK' := Lib.hid (HK.out.trans k19)
      have HRs' := Lib.hid (HRs.out.no k19)
      have HRr' := Lib.hid (HRr.out.no k19)
      clear HM HA HX15 HO15 HK HRs HRr
      have HM := HM'
      have HA := HA'
      have HX15 := HX15'
      have HO15 := HO15'
      have HK := HK'
      have HRs := HRs'
      have HRr := HRr'
      clear HM' HA' HX15' HO15' HK' HRs' HRr'
      clear k19
      have ps := rseen_any br _ ps15 m so19 _ HRr.out (own_slI ho19) HRm.out HSm.out
      have hnb : ∀ q t cs, Bk wm19 q t cs → t ≠ 69 → ¬ One br q := fun q t cs hb ht e => by
        have e : q = br := e
        subst e
        obtain ⟨cs2, h2⟩ := HRr.out.at_
        exact hb.ne_ h2 ht rfl
      go_wp2_with fail
      refine ps.mono ?_
      rintro e ws19 hsr
      unfold SeenR at hsr
      obtain ⟨hrs, ks, svp, rfl, hop⟩ := hsr
      clear ps ho19
      obtain ⟨g1, g2, g3⟩ := HGO.out.seen
      rw [← HT.out] at g3
      generalize hsn : seenP ps15 m = sn at *
      clear hsn
      obtain ⟨ps19, v19, p19⟩ := sn
      simp only at g1 g2 g3 hrs hop
      have g4 := g3.symm
      clear g3
      subst g4
      obtain ⟨Ap19, cp19, rfl, _⟩ := own_len hop
      have HM' := Lib.hid (HM.out.kp ks (hnb _ _ _ HM.out (by decide)))
      have HA' := Lib.hid (HA.out.kp ks (hnb _ _ _ HA.out (by decide)))
      have HX15' := Lib.hid (HX15.out.kp ks (hnb _ _ _ HX15.out (by decide)))
      have HO15' := Lib.hid (own_kp HO15.out ks fun g e => by
        obtain ⟨cs, hb⟩ := own_bk HO15.out g e
        exact hnb _ _ _ hb (by decide))
      have HK' := Lib.hid (HK.out.then_ ks fun j hj e => by have e : j = br := e; have := HBR.out; omega)
      have HRs' := Lib.hid (HRs.out.kp ks (fun e => by have e : _ = br := e; have := HBN.out; omega) fun q cs hb _ => hnb _ _ _ hb (by decide))
      have HY19 := Lib.hid ks.size
      have HRr' := Lib.hid hrs
      have HO19' := Lib.hid hop
      have HE19 := Lib.hid g2
      have HGO' := Lib.hid g1
      have HG19 := Lib.hid (show ∀ g, (Value.slice Ap19 T.stamp.length cp19).ownBlock = some g → wm19.heap.size ≤ g ∧ g < ws19.heap.size from fun g e => by
        obtain ⟨cs, hb⟩ := own_bk hop g e
        refine ⟨?_, hb.lt⟩
        rcases hop.2 with ⟨e2, _⟩ | ⟨g', cap, cur, e2, hg, _⟩
        · rw [e2] at e; simp [Value.ownBlock] at e
        · rw [e2] at e
          have : g' = g := by simpa [Value.ownBlock] using e
          subst this; exact hg)
      clear HM HA HX15 HO15 HK HRs HRr HGO hrs ks hop g1 g2 hnb
      have HM := HM'
      have HA := HA'
      have HX15 := HX15'
      have HO15 := HO15'
      have HK := HK'
      have HRs := HRs'
      have HRr := HRr'
      have HO19 := HO19'
      have HGO := HGO'
      clear HM' HA' HX15' HO15' HK' HRs' HRr' HO19' HGO'
      go_upto_region 32 with (refine wpList_store_mid rfl _ _ _ rfl ws19.heap.size 0 (mcells T (.slice Ap19 T.stamp.length cp19)).toArray rfl rfl (msg_there _ _ _) (msg_info _ _) (msg_one _ _ _ _) ?_)
      have gx := msg_store ws19 T Ap19 T.stamp.length cp19
      generalize hwx : World.setCells _ ws19.heap.size 0 _ = wx19
      rw [show (ws19.alloc (.cells #[.int .i64 0, .int .i64 0, .int .i64 0, .int .i64 0, .int .i64 0, .int .i64 0, .int .i64 0, .string ⟨#[]⟩, .int .i64 0, .int .i64 0, .int .i64 0, .bool false, .int .i64 0, .slice none 0 0, .int .i64 0, .int .i64 0] 32)).setCells ws19.heap.size 0 (mcells T (.slice Ap19 T.stamp.length cp19)) = wx19 from hwx] at gx
      clear hwx
      obtain ⟨bx, kx⟩ := gx
      have HX19 := Lib.hid bx
      have HL19 := Lib.hid bx.lt
      have HM' := Lib.hid (HM.out.no kx)
      have HA' := Lib.hid (HA.out.no kx)
      have HX15' := Lib.hid (HX15.out.no kx)
      have HO15' := Lib.hid (own_kp HO15.out kx fun _ _ m => m)
      have HK' := Lib.hid (HK.out.trans kx)
      have HRs' := Lib.hid (HRs.out.no kx)
      have HRr' := Lib.hid (HRr.out.no kx)
      have HO19' := Lib.hid (own_kp HO19.out kx fun _ _ m => m)
      clear HM HA HX15 HO15 HK HRs HRr HO19
      have HM := HM'
      have HA := HA'
      have HX15 := HX15'
      have HO15 := HO15'
      have HK := HK'
      have HRs := HRs'
      have HRr := HRr'
      have HO19 := HO19'
      clear HM' HA' HX15' HO15' HK' HRs' HRr' HO19'
      clear kx bx
      as_aux_lemma =>
      go_wp2_with (refine wpList_load_mid rfl _ _ rfl W.heap.size 0 rfl CM _ (range_of HM.out) HUH.out rfl hia.out ?_)
      refine (QM.out _ HK.out).mono ?_
      rintro e wm21 ⟨so21, rfl, ho21, k21⟩
      have HZ21 := Lib.hid k21.size
      have HM' := Lib.hid (HM.out.no k21)
      have HA' := Lib.hid (HA.out.no k21)
      have HX15' := Lib.hid (HX15.out.no k21)
      have HO15' := Lib.hid (own_kp HO15.out k21 fun _ _ m => m)
      have HX19' := Lib.hid (HX19.out.no k21)
      have HO19' := Lib.hid (own_kp HO19.out k21 fun _ _ m => m)
      have HK' := Lib.hid (HK.out.trans k21)
      have HRr' := Lib.hid (HRr.out.no k21)
      have HRs' := Lib.hid (HRs.out.no k21)
      clear HM HA HX15 HO15 HX19 HO19 HK HRr HRs
      have HM := HM'
      have HA := HA'
      have HX15 := HX15'
      have HO15 := HO15'
      have HX19 := HX19'
      have HO19 := HO19'
      have HK := HK'
      have HRr := HRr'
      have HRs := HRs'
      clear HM' HA' HX15' HO15' HX19' HO19' HK' HRr' HRs'
      clear k21
      have ps := rseen_any bs _ psk m so21 _ HRs.out (own_slI ho21) HRm.out HSm.out
      have hnb : ∀ q t cs, Bk wm21 q t cs → t ≠ 69 → ¬ One bs q := fun q t cs hb ht e => by
        have e : q = bs := e
        subst e
        obtain ⟨cs2, h2⟩ := HRs.out.at_
        exact hb.ne_ h2 ht rfl
      go_wp2_with fail
      refine ps.mono ?_
      rintro e ws21 hsr
      unfold SeenR at hsr
      obtain ⟨hrs, ks, svp, rfl, hop⟩ := hsr
      clear ps ho21
      obtain ⟨g1, g2, g3⟩ := HGS.out.seen
      rw [← HT.out] at g3
      generalize hsn : seenP psk m = sn at *
      clear hsn
      obtain ⟨ps21, v21, p21⟩ := sn
      simp only at g1 g2 g3 hrs hop
      have g4 := g3.symm
      clear g3
      subst g4
      obtain ⟨Ap21, cp21, rfl, _⟩ := own_len hop
      have HM' := Lib.hid (HM.out.kp ks (hnb _ _ _ HM.out (by decide)))
      have HA' := Lib.hid (HA.out.kp ks (hnb _ _ _ HA.out (by decide)))
      have HX15' := Lib.hid (HX15.out.kp ks (hnb _ _ _ HX15.out (by decide)))
      have HX19' := Lib.hid (HX19.out.kp ks (hnb _ _ _ HX19.out (by decide)))
      have HO15' := Lib.hid (own_kp HO15.out ks fun g e => by
        obtain ⟨cs, hb⟩ := own_bk HO15.out g e
        exact hnb _ _ _ hb (by decide))
      have HO19' := Lib.hid (own_kp HO19.out ks fun g e => by
        obtain ⟨cs, hb⟩ := own_bk HO19.out g e
        exact hnb _ _ _ hb (by decide))
      have HK' := Lib.hid (HK.out.then_ ks fun j hj e => by have e : j = bs := e; have := HBS.out; omega)
      have HRr' := Lib.hid (HRr.out.kp ks (fun e => by have e : _ = bs := e; have := HBN.out; omega) fun q cs hb _ => hnb _ _ _ hb (by decide))
      have HY21 := Lib.hid ks.size
      have HRs' := Lib.hid hrs
      have HO21' := Lib.hid hop
      have HE21 := Lib.hid g2
      have HGS' := Lib.hid g1
      have HG21 := Lib.hid (show ∀ g, (Value.slice Ap21 T.stamp.length cp21).ownBlock = some g → wm21.heap.size ≤ g ∧ g < ws21.heap.size from fun g e => by
        obtain ⟨cs, hb⟩ := own_bk hop g e
        refine ⟨?_, hb.lt⟩
        rcases hop.2 with ⟨e2, _⟩ | ⟨g', cap, cur, e2, hg, _⟩
        · rw [e2] at e; simp [Value.ownBlock] at e
        · rw [e2] at e
          have : g' = g := by simpa [Value.ownBlock] using e
          subst this; exact hg)
      clear HM HA HX15 HO15 HX19 HO19 HK HRr HRs HGS hrs ks hop g1 g2 hnb
      have HM := HM'
      have HA := HA'
      have HX15 := HX15'
      have HO15 := HO15'
      have HX19 := HX19'
      have HO19 := HO19'
      have HK := HK'
      have HRr := HRr'
      have HRs := HRs'
      have HO21 := HO21'
      have HGS := HGS'
      clear HM' HA' HX15' HO15' HX19' HO19' HK' HRr' HRs' HO21' HGS'
      go_upto_region 33 with (refine wpList_store_mid rfl _ _ _ rfl ws21.heap.size 0 (mcells T (.slice Ap21 T.stamp.length cp21)).toArray rfl rfl (msg_there _ _ _) (msg_info _ _) (msg_one _ _ _ _) ?_)
      have gx := msg_store ws21 T Ap21 T.stamp.length cp21
      generalize hwx : World.setCells _ ws21.heap.size 0 _ = wx21
      rw [show (ws21.alloc (.cells #[.int .i64 0, .int .i64 0, .int .i64 0, .int .i64 0, .int .i64 0, .int .i64 0, .int .i64 0, .string ⟨#[]⟩, .int .i64 0, .int .i64 0, .int .i64 0, .bool false, .int .i64 0, .slice none 0 0, .int .i64 0, .int .i64 0] 32)).setCells ws21.heap.size 0 (mcells T (.slice Ap21 T.stamp.length cp21)) = wx21 from hwx] at gx
      clear hwx
      obtain ⟨bx, kx⟩ := gx
      have HX21 := Lib.hid bx
      have HL21 := Lib.hid bx.lt
      have HM' := Lib.hid (HM.out.no kx)
      have HA' := Lib.hid (HA.out.no kx)
      have HX15' := Lib.hid (HX15.out.no kx)
      have HO15' := Lib.hid (own_kp HO15.out kx fun _ _ m => m)
      have HX19' := Lib.hid (HX19.out.no kx)
      have HO19' := Lib.hid (own_kp HO19.out kx fun _ _ m => m)
      have HK' := Lib.hid (HK.out.trans kx)
      have HRr' := Lib.hid (HRr.out.no kx)
      have HRs' := Lib.hid (HRs.out.no kx)
      have HO21' := Lib.hid (own_kp HO21.out kx fun _ _ m => m)
      clear HM HA HX15 HO15 HX19 HO19 HK HRr HRs HO21
      have HM := HM'
      have HA := HA'
      have HX15 := HX15'
      have HO15 := HO15'
      have HX19 := HX19'
      have HO19 := HO19'
      have HK := HK'
      have HRr := HRr'
      have HRs := HRs'
      have HO21 := HO21'
      clear HM' HA' HX15' HO15' HX19' HO19' HK' HRr' HRs' HO21'
      clear kx bx
      as_aux_lemma =>
      rcases Bool.eq_false_or_eq_true kept with hk | hk
      · subst hk
        have hTa : T = a := HT.out.trans (if_pos rfl)
        subst hTa
        obtain ⟨a, hab⟩ : ∃ a2, a2 = T := ⟨_, rfl⟩
        subst hab
        have pq := rsame_any a a Ap15 B cp15 d wx21 (own_argI HO15.out) (HAa.out.no HK.out) (by have := HLa.out; unfold maxLen; omega) (by have := HLa.out; unfold maxLen; omega)
        rw [decide_eq_true rfl, ← HCA.out] at pq
        have hix : Hid ((Tryz.prog.info? 32).map (·.size) = some (mcells a (.slice Ap15 a.stamp.length cp15)).length) := Lib.hid (by kernel_rfl)
        go_wp2_with (first
          | (refine wpList_load_mid_g (by rfl) _ _ rfl ws15.heap.size 0 rfl (mcells a (.slice Ap15 a.stamp.length cp15)) _ (range_of HX15.out) HUH.out rfl hix.out ?_)
          | (refine wpList_load_mid_g (by rfl) _ _ rfl (W.heap.size + 1) 0 rfl CA _ (range_of HA.out) HUH.out rfl hib.out ?_))
        refine pq.mono ?_
        rintro e wz1 ⟨rfl, kq⟩
        clear pq hix
        have HA' := Lib.hid (HA.out.no kq)
        have HX19' := Lib.hid (HX19.out.no kq)
        have HO19' := Lib.hid (own_kp HO19.out kq fun _ _ m => m)
        have HX21' := Lib.hid (HX21.out.no kq)
        have HO21' := Lib.hid (own_kp HO21.out kq fun _ _ m => m)
        have HK' := Lib.hid (HK.out.trans kq)
        clear HA HX19 HO19 HX21 HO21 HK
        have HA := HA'
        have HX19 := HX19'
        have HO19 := HO19'
        have HX21 := HX21'
        have HO21 := HO21'
        have HK := HK'
        clear HA' HX19' HO19' HX21' HO21' HK'
        clear kq
        have pq := rsame_any a a Ap19 B cp19 d wz1 (own_argI HO19.out) (HAa.out.no HK.out) (by have := HLa.out; unfold maxLen; omega) (by have := HLa.out; unfold maxLen; omega)
        rw [decide_eq_true rfl, ← HCA.out] at pq
        have hix : Hid ((Tryz.prog.info? 32).map (·.size) = some (mcells a (.slice Ap19 a.stamp.length cp19)).length) := Lib.hid (by kernel_rfl)
        go_wp2_with (first
          | (refine wpList_load_mid_g (by rfl) _ _ rfl ws19.heap.size 0 rfl (mcells a (.slice Ap19 a.stamp.length cp19)) _ (range_of HX19.out) HUH.out rfl hix.out ?_)
          | (refine wpList_load_mid_g (by rfl) _ _ rfl (W.heap.size + 1) 0 rfl CA _ (range_of HA.out) HUH.out rfl hib.out ?_))
        refine pq.mono ?_
        rintro e wz2 ⟨rfl, kq⟩
        clear pq hix
        have HA' := Lib.hid (HA.out.no kq)
        have HX21' := Lib.hid (HX21.out.no kq)
        have HO21' := Lib.hid (own_kp HO21.out kq fun _ _ m => m)
        have HK' := Lib.hid (HK.out.trans kq)
        clear HA HX21 HO21 HK
        have HA := HA'
        have HX21 := HX21'
        have HO21 := HO21'
        have HK := HK'
        clear HA' HX21' HO21' HK'
        clear kq
        have pq := rsame_any a a Ap21 B cp21 d wz2 (own_argI HO21.out) (HAa.out.no HK.out) (by have := HLa.out; unfold maxLen; omega) (by have := HLa.out; unfold maxLen; omega)
        rw [decide_eq_true rfl, ← HCA.out] at pq
        have hix : Hid ((Tryz.prog.info? 32).map (·.size) = some (mcells a (.slice Ap21 a.stamp.length cp21)).length) := Lib.hid (by kernel_rfl)
        go_wp2_with (first
          | (refine wpList_load_mid_g (by rfl) _ _ rfl ws21.heap.size 0 rfl (mcells a (.slice Ap21 a.stamp.length cp21)) _ (range_of HX21.out) HUH.out rfl hix.out ?_)
          | (refine wpList_load_mid_g (by rfl) _ _ rfl (W.heap.size + 1) 0 rfl CA _ (range_of HA.out) HUH.out rfl hib.out ?_))
        refine pq.mono ?_
        rintro e wz3 ⟨rfl, kq⟩
        clear pq hix
        have HK' := Lib.hid (HK.out.trans kq)
        clear HK
        have HK := HK'
        clear HK'
        clear kq
        go_wp2
        go_ret
        exact ⟨rfl, HK.out.below (Nat.le_refl _) fun _ _ m => m⟩
      · subst hk
        go_wp2
        go_ret
        exact ⟨rfl, HK.out.below (Nat.le_refl _) fun _ _ m => m⟩

/-! ### The row's step -/
set_option maxRecDepth 100000 in
theorem lifted (os : Os) (started : os.Started) (H : Type) (enc : TypeId × Value → H) :
    ReturnsInHanded {} Tryz.checked os 7 .any (Rows.repliesOwnSpec.pre6 enc Tryz.prog Tryz.f7 Rows.repliesOwnRow.domain false) (Rows.repliesOwnSpec.post enc Tryz.prog Tryz.f7 false true false false) := by
  refine returnsInHanded_of_change_sized (C := Tryz.checked) own started (by kernel_rfl) Tryz.func7
    (ChangeSpec.witness6 (enc := enc) (C := Tryz.checked) false ⟨#[], #[.agg #[.int .i64 0, .int .i64 0, .int .i64 0, .int .i64 0, .int .i64 0, .int .i64 0, .int .i64 0, .string ⟨#[]⟩, .int .i64 0, .int .i64 0, .int .i64 0, .bool false, .int .i64 0, .slice none 0 0, .int .i64 0, .int .i64 0], .agg #[.int .i64 0, .int .i64 0, .int .i64 0, .int .i64 0, .int .i64 0, .int .i64 0, .int .i64 0, .string ⟨#[]⟩, .int .i64 0, .int .i64 0, .int .i64 0, .bool false, .int .i64 0, .slice none 0 0, .int .i64 0, .int .i64 0]], []⟩ 8 (by kernel_rfl) (by kernel_rfl) (by kernel_rfl) (by kernel_rfl)) ?_
  intro W base args ds gs before hval0 hW hcnd hsz0 _
  have hval : ∀ (j : Nat) t v, Tryz.f7.params[j]? = some t → args[j]? = some v → Value.okWide Tryz.prog W .any base t v := hval0
  have hW' := hW
  obtain ⟨p, q, hA0, hV, rfl, hfz, hnd⟩ := hW
  have hA : DataW.TrodAll enc Tryz.prog W 0 (fun _ => true) true Tryz.f7.params.toList args.toList ds p := hA0
  rw [Tryz.params7] at hA hval
  obtain ⟨v0, vs0, d0, ds0, p0, q0, hargs, rfl, rfl, h0, r0⟩ := trodAll_cons hA
  obtain ⟨v1, vs1, d1, ds1, p1, q1, rfl, rfl, rfl, h1, r1⟩ := trodAll_cons r0
  obtain ⟨rfl, rfl, rfl⟩ := trodAll_nil r1
  obtain rfl : args = #[v0, v1] := by cases args; simp_all
  obtain ⟨rfl, rfl⟩ := trodVars_none hV
  have hsz : ∀ (j : Nat) (t : TypeId) (d : DataW H), ([32, 32] : List TypeId)[j]? = some t → [d0, d1][j]? = some d → ∀ n ∈ d.weights Tryz.prog t, n ≤ reachBytes := by
    intro j t d ht hd n hn
    have hsz1 : (DataW.weightsEach Tryz.prog ([32, 32] : List TypeId) [d0, d1]).all (· ≤ reachBytes) = true := hsz0
    have := List.all_eq_true.1 hsz1 n (DataW.weights_mem_each ht hd n hn)
    simpa using this
  have k0 := h0
  have lt0 : ∀ x ∈ p0, x.block < W.heap.size := by obtain ⟨m, hm⟩ := k0; exact DataW.trod_lt m _ _ _ hm
  obtain ⟨m0, A0, c0, rfl, a0, r0x, s0, z0, p0⟩ := open_msg2 (hval 0 32 v0 rfl rfl) h0 (hsz 0 32 _ rfl rfl)
  have k1 := h1
  have lt1 : ∀ x ∈ p1, x.block < W.heap.size := by obtain ⟨m, hm⟩ := k1; exact DataW.trod_lt m _ _ _ hm
  obtain ⟨m1, A1, c1, rfl, a1, r1x, s1, z1, p1⟩ := open_msg2 (hval 1 32 v1 rfl rfl) h1 (hsz 1 32 _ rfl rfl)
  refine (walk m0 A0 c0 m1 A1 c1 W a0 r0x s0 z0 p0 a1 r1x s1 z1 p1).mono fun e W' ⟨he, bel⟩ => ?_
  subst he
  exact ⟨_, rfl, _, _, _, [], _, [], hW', trodAll_mk1 (shut_bool Tryz.underlying4 _), (trodAll_cons_mk (Below.trod laidOut (by kernel_rfl) (of_decide_eq_true (by kernel_rfl)) k0 bel lt0) (trodAll_cons_mk (Below.trod laidOut (by kernel_rfl) (of_decide_eq_true (by kernel_rfl)) k1 bel lt1) trodAll_mk0)), rfl, bel.frame _, fun h => by cases h⟩

theorem over : Rows.repliesOwnRow.holds Tryz.pinned (OpenSpec.ofChange Rows.repliesOwnSpec) :=
  OpenClaim.holds_of_wide 7 Tryz.f7 rfl rfl rfl rfl rfl rfl rfl ⟨rfl, rfl, rfl, rfl, rfl⟩ rfl rfl rfl rfl rfl (by kernel_rfl) Tryz.func7 (by kernel_rfl)
    (of_decide_eq_true (by kernel_rfl)) (by unfold Func.isWrapper; first | (rw [if_pos (by decide +kernel)]; kernel_rfl) | (rw [if_neg (by decide +kernel)]; exact ⟨rfl, rfl⟩))
    (fun os started H enc _ => lifted os started H enc)

theorem proved : Rows.RepliesOwnSaid := over
#print axioms proved
end Go.Proofs.YtaipbikbapjmjaaGreat.repliesOwn
