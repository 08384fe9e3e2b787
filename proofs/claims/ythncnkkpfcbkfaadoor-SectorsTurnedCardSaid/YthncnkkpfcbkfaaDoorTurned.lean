/- SectorsTurned returns true for any bytes, place and turn: a sector in which one byte is turned is no record's. No condition. -/
import Derived.Test.YthncnkkpfcbkfaaDoorSj
import Derived.Test.YthncnkkpfcbkfaaDoorCards
import Derived.Test.YthncnkkpfcbkfaaDoorTv
namespace Go.Proofs.YthncnkkpfcbkfaaDoor.sectorsTurned
open Go.ChangeShapes Go.WideShapes Go.ChangeAt Go.RowKit Go.PlainAid
open Go.ChangeMaps (open_string shut_string)

theorem own : ownKnob Tryd.prog.godebug = none := by kernel_rfl
theorem laidOut : laidOutB Tryd.prog = true := by kernel_rfl
def TurnedInv (w : World) (g : Nat) (P : List (List UInt8)) (iv : Value) (wr : World) : Prop :=
  ∃ k : Nat, k ≤ P.length ∧ iv = .int .i64 k ∧ (∀ j (h : j < P.length), k ≤ j → ∃ a c, wr.cell? ⟨g, j, none⟩ = some (.slice (some ⟨a, 0, none⟩) 64 c) ∧ c ≤ maxLen ∧ OwnB wr w.heap.size (.slice (some ⟨a, 0, none⟩) 64 c) P[j]) ∧ (∃ cs, Bk wr g 26 cs) ∧ Kp No w wr
theorem parts_ne (data : List UInt8) (hd : data.length ≤ 188) {i j : Nat} (hi : i < (partsS 1 5 data).length) (hj : j < (partsS 1 5 data).length) (hne : i ≠ j) : (partsS 1 5 data)[i] ≠ (partsS 1 5 data)[j] := fun e => by
  rw [partsS_length] at hi hj
  simp only [partsS, List.getElem_map, List.getElem_range] at e
  have := congrArg readS e
  rw [readS_layS _ (okPt_piece data (by omega) (by omega) (by omega) hd hi), readS_layS _ (okPt_piece data (by omega) (by omega) (by omega) hd hj)] at this
  injection this with _ _ h
  exact hne h
set_option maxRecDepth 100000 in
set_option maxHeartbeats 4000000 in
theorem walk (A : Option Addr) (n c : Nat) (l : List UInt8) (n1 n2 : Int) (w : World) (hb : ArgB w (.slice A n c) l) (hc : c ≤ 140737488351232) (x1 : -9223372036854775808 ≤ n1 ∧ n1 ≤ 9223372036854775807) (x2 : 0 ≤ n2 ∧ n2 ≤ 255) :
    Calls Tryd.prog 9 #[.slice A n c, .int .i64 n1, .int .u8 n2] w fun e w' => e = .returned (.bool true) ∧ Below w.heap.size w w' := by
  obtain ⟨_, hn, hnc⟩ := hb.cs
  subst hn
  have HB := Lib.hid hb; clear hb
  go_enter Tryd.func9, Tryd.ntmps9
  go_wp2_with fail
  refine (awake_any _).mono ?_
  rintro e w1 ⟨rfl, k1⟩
  have K1 := Lib.hid k1; clear k1
  go_wp2_with (at_builtin; refine wpList_appB _ rfl (.tmp 16) (.tmp 17) rfl w1.heap.size _ [] rfl (by exact own_fresh w1 _ _ (Nat.le_refl _)) _ _ _ l rfl rfl ((HB.out.no (K1.out.alloc _)).cs.1) (by simp; omega) (by simp) ?_)
  intro a2 n2' c2 w2 o2 f2 _
  have K2 := Lib.hid (K1.out.trans (f2 w1 (Nat.le_refl _) ((Kp.refl No w1).alloc _)))
  obtain ⟨A3, c3, e3, _, hm3⟩ := own_cap o2
  injection e3 with e1 e2 e3
  subst e1 e3
  clear e2
  have HA2 := Lib.hid (own_argB o2); clear o2 f2
  have pk := pack_any 1 5 a2 n2' c2 l w2 HA2.out hm3
  unfold PackA at pk
  by_cases hl8 : l.length ≤ 188
  · have hp : packS 1 5 l = (partsS 1 5 l, 0) := by unfold packS; rw [if_neg (by omega), if_neg (by omega)]; rfl
    rw [hp] at pk
    clear hp
    simp only at pk
    go_wp2_with fail
    refine pk.mono ?_
    clear pk
    rintro e w3 ⟨v3, rfl, r3, k3⟩
    have K3 := Lib.hid (K2.out.trans k3); have hw2 := K2.out.size; clear k3
    have h64 : ∀ b ∈ partsS 1 5 l, b.length = 64 := fun b hb => by
      simp only [partsS, List.mem_map, List.mem_range] at hb
      obtain ⟨i, hi, rfl⟩ := hb
      exact layS_length _ (by simp [pieceS]; omega)
    have hNp : 0 < (partsS 1 5 l).length := by rw [partsS_length]; have := chunk_pos l; omega
    have hN4 : (partsS 1 5 l).length ≤ 4 := by rw [partsS_length]; exact chunk_le hl8
    have HNE := Lib.hid (fun i j (hi : i < (partsS 1 5 l).length) (hj : j < (partsS 1 5 l).length) (hne : i ≠ j) => parts_ne l hl8 hi hj hne)
    have HTU := Lib.hid (show ∀ k (hk : k < (partsS 1 5 l).length) (p : Nat) (hp : p < ((partsS 1 5 l)[k]).length) (x : UInt8), x ≠ ((partsS 1 5 l)[k])[p] → lookS (((partsS 1 5 l)[k]).set p x) = none from fun k hk p hp x hx => by
      have e : (partsS 1 5 l)[k] = layS ⟨1, 5, k, chunkN l, pieceS l k⟩ := by simp only [partsS, List.getElem_map, List.getElem_range]
      generalize (partsS 1 5 l)[k] = b at *
      subst e
      exact lookS_turned _ (by simp [pieceS]; omega) p hp x hx)
    obtain ⟨g, c4, rfl, hg, hbk, hx⟩ := (r3.mono hw2).own_at hNp (fun i hi => by rw [h64 _ (List.getElem_mem hi)]; omega)
    obtain ⟨P, hP⟩ : ∃ P, partsS 1 5 l = P := ⟨_, rfl⟩
    rw [hP] at h64 hNp hN4 HNE HTU hx
    have H64 := Lib.hid h64; have HX := Lib.hid hx; have HBK := Lib.hid hbk
    rw [hP]
    clear hP h64 hx hbk r3
    by_cases t1 : n1 < 0
    · have d1 : decide (n1 < 0) = true := decide_eq_true t1
      go_wp2
      go_ret
      exact ⟨rfl, K3.out.below (Nat.le_refl _) (fun _ _ m => m)⟩
    have d1 : decide (n1 < 0) = false := decide_eq_false t1
    by_cases t2 : 64 ≤ n1
    · have d2 : decide (64 ≤ n1) = true := decide_eq_true t2
      go_wp2
      go_ret
      exact ⟨rfl, K3.out.below (Nat.le_refl _) (fun _ _ m => m)⟩
    have d2 : decide (64 ≤ n1) = false := decide_eq_false t2
    by_cases t3 : n2 = 0
    · have d3 : (n2 == 0) = true := beq_iff_eq.2 t3
      have T3 := Lib.hid t3; clear t3
      go_wp2
      go_ret
      exact ⟨rfl, K3.out.below (Nat.le_refl _) (fun _ _ m => m)⟩
    have d3 : (n2 == 0) = false := beq_eq_false_iff_ne.2 t3
    obtain ⟨p, rfl⟩ := Int.eq_ofNat_of_zero_le (show 0 ≤ n1 by omega)
    obtain ⟨y, hy⟩ : ∃ y : UInt8, n2 = (y.toNat : Int) := ⟨UInt8.ofNat n2.toNat, by rw [UInt8.toNat_ofNat']; omega⟩
    have hy0 : y ≠ 0 := fun e => t3 (by rw [hy, e]; rfl)
    subst hy
    have HY0 := Lib.hid hy0
    have hp64 : p < 64 := by omega
    clear t3 hy0
    go_wp2
    go_loopw [38] (fun i wr => TurnedInv w g P i wr) (fun i _ => P.length - (intOf i).toNat)
    case atStart => exact ⟨0, Nat.zero_le _, rfl, fun j h _ => by obtain ⟨a, k, h1, h2, h3⟩ := HX.out j h; rw [H64.out _ (List.getElem_mem h)] at h1 h3; exact ⟨a, k, h1, h2, h3⟩, HBK.out, K3.out⟩
    case round =>
      clear HX HBK K3
      obtain ⟨k, hk, rfl, hx, ⟨cs, hbk⟩, hkw⟩ := hrel
      have HKW := Lib.hid hkw; have HBK := Lib.hid hbk; have HX := Lib.hid hx
      clear hkw hbk hx
      have hk0 : (0 : Int) ≤ (k : Int) := by omega
      by_cases hlt : k < P.length
      · have hkI : (k : Int) < (P.length : Int) := by omega
        obtain ⟨a, ca, hca, hcm, hoa⟩ := HX.out k hlt (Nat.le_refl _)
        have hl64 := H64.out _ (List.getElem_mem hlt)
        obtain ⟨ds, hbd, htk, hBa, hlen⟩ := hoa.bk
        have hc64 : 64 ≤ ca := by have := (own_argB hoa).cs.2.2; exact this
        have HTK := Lib.hid (HTU.out k hlt p (by omega))
        have HNK := Lib.hid (show ∀ j (h : j < P.length), k < j → P[k] ≠ P[j] from fun j h hj => HNE.out k j hlt h (by omega))
        obtain ⟨b, hb⟩ : ∃ b, P[k] = b := ⟨_, rfl⟩
        rw [hb] at hoa hl64 htk hlen HNK
        have hxp : p < b.length := by omega
        have HTK' := Lib.hid (show ∀ x, x ≠ b[p] → lookS (b.set p x) = none from fun x hx => by
          have := HTK.out x
          simp only [hb] at this
          exact this hx)
        clear HTK hb
        have hcell : wr.cell? ⟨a, p, none⟩ = some (.int .u8 (b[p].toNat : Int)) := by
          rw [hbd.cell]
          have : (ds.take b.length)[p]? = (u8s b)[p]? := by rw [htk]
          rw [List.getElem?_take, if_pos hxp, u8s_get, List.getElem?_eq_getElem hxp] at this
          exact this
        have hfrz := hbd.frozen p
        have hne : b[p] ^^^ y ≠ b[p] := fun e => by
          apply HY0.out
          have h2 := congrArg (b[p] ^^^ ·) e
          simpa [← UInt8.xor_assoc] using h2
        have hln := HTK'.out _ hne
        have hxor := xor_u8 b[p] y
        generalize b[p] ^^^ y = z at *
        have hbs := hbd.set_ p (.int .u8 (z.toNat : Int))
        have hab : ArgB (wr.setCell ⟨a, p, none⟩ (.int .u8 (z.toNat : Int))) (.slice (some ⟨a, 0, none⟩) 64 ca) (b.set p z) := by
          have e : ds.set p (.int .u8 (z.toNat : Int)) = u8s (b.set p z) ++ ds.drop b.length := by
            rw [← u8s_set, ← htk, ← List.take_set]
            conv => lhs; rw [← List.take_append_drop b.length (ds.set p (.int .u8 (z.toNat : Int)))]
            rw [List.drop_set_of_lt hxp]
          rw [e] at hbs
          have h2 := bk_argB hbs (c := ca) (by rw [List.length_set]; omega)
          rw [List.length_set, hl64] at h2
          exact h2
        have HOA := Lib.hid hoa; have HBD := Lib.hid hbd; have HBS := Lib.hid hbs
        have hga : g ≠ a := HBK.out.ne_ hbd (by decide)
        have KS : Kp (One a) wr (wr.setCell ⟨a, p, none⟩ (.int .u8 (z.toNat : Int))) := (Kp.refl _ _).set (.inl (One.self _)) _ _
        have HKS := Lib.hid KS; have HKW2 := Lib.hid (HKW.out.set (.inr hBa) p (.int .u8 (z.toNat : Int)))
        have lk := look_any (some ⟨a, 0, none⟩) 64 ca (b.set p z) _ hab hcm
        have hp0 : (0 : Int) ≤ (p : Int) := by omega
        have hpI : (p : Int) < 64 := by omega
        generalize hbp : b[p] = bp at *
        have hbb := byte_bd bp; have hby := byte_bd y
        clear hoa hbd hbs hab KS htk hlen hbp hne HTK'
        go_wp2_with fail
        refine lk.mono ?_
        clear lk
        rintro e w5 ⟨k5, hr⟩
        rw [hln] at hr
        simp only at hr
        rw [show noPt = .agg #[.int .i64 0, .int .i64 0, .int .i64 0, .int .i64 0, .slice none 0 0] from rfl] at hr
        subst hr
        have K5 := Lib.hid k5; clear k5 hln
        go_wp2_with fail
        refine (same_true 0 0 0 0 (.slice none 0 0) (.slice none 0 0) [] _ (ArgB.nil _ _ _) (ArgB.nil _ _ _)).mono ?_
        rintro e w6 ⟨rfl, k6⟩
        have K6 := Lib.hid (K5.out.trans (((Kp.refl No w5).alloc (.cells #[.int .i64 0, .int .i64 0, .int .i64 0, .int .i64 0, .slice none 0 0] 33)).trans k6)); clear k6
        go_wp2
        go_roundw
        case rel =>
          refine ⟨k + 1, by omega, by go_num, fun j h hj => ?_, ⟨cs, (HBK.out.kp HKS.out hga).no K6.out⟩, HKW2.out.trans K6.out⟩
          obtain ⟨a', c', h1, h2, h3⟩ := HX.out j h (by omega)
          have hne : a' ≠ a := fun e => by
            subst e
            have h64j := H64.out _ (List.getElem_mem h)
            exact HNK.out j h (by omega) (own_same (own_argB HOA.out) (own_argB h3))
          have hcj : w6.cell? ⟨g, j, none⟩ = some (.slice (some ⟨a', 0, none⟩) 64 c') := by
            refine cell_no ?_ K6.out
            rw [World.cell?_setCell_other _ _ _ _ (by intro e; injection e with e; exact hga e.symm)]
            exact h1
          exact ⟨a', c', hcj, h2, (h3.kp HKS.out (fun g0 h0 h1 => by
            have e1 : a' = g0 := by simpa [Value.ownBlock] using h0
            have e2 : g0 = a := h1
            exact hne (e1.trans e2))).no K6.out⟩
        case measure => simp [intOf]; omega
      · have hge : ¬ (k : Int) < (P.length : Int) := by omega
        have hpos : (0 : Int) < (P.length : Int) := by omega
        go_wp2
        go_ret
        exact ⟨rfl, HKW.out.below (Nat.le_refl _) (fun _ _ m => m)⟩
  · have hp : packS 1 5 l = ([], 41) := by unfold packS; rw [if_neg (by omega), if_pos (by omega)]
    rw [hp] at pk
    clear hp
    simp only at pk
    go_wp2_with fail
    refine pk.mono ?_
    clear pk
    rintro e w3 ⟨v3, rfl, r3, k3⟩
    have K3 := Lib.hid (K2.out.trans k3); clear k3 r3
    go_wp2
    go_ret
    exact ⟨rfl, K3.out.below (Nat.le_refl _) (fun _ _ m => m)⟩

set_option maxRecDepth 100000 in
theorem lifted (os : Os) (started : os.Started) (H : Type) (enc : TypeId × Value → H) :
    ReturnsInHanded {} Tryd.checked os 9 .any (fun w args => (Rows.sectorsTurnedSpec.pre enc Tryd.prog Tryd.f9 Rows.sectorsTurnedRow.domain false w args ∧ laidMetH Tryd.prog [("unicode/utf8.acceptRanges", Rows.laid_unicode_utf8_acceptRanges), ("unicode/utf8.first", Rows.laid_unicode_utf8_first)] w) ∧ sizedMet enc Tryd.prog Tryd.f9 (OpenSpec.ofChange Rows.sectorsTurnedSpec) false w args)
      (Rows.sectorsTurnedSpec.post enc Tryd.prog Tryd.f9 false true false false) := by
  refine returnsInHanded_and_shaped (C := Tryd.checked) (X := (fun w _ => laidMetH Tryd.prog [("unicode/utf8.acceptRanges", Rows.laid_unicode_utf8_acceptRanges), ("unicode/utf8.first", Rows.laid_unicode_utf8_first)] w)) (fun _ _ _ hh h => h.of_heap hh) own started (by kernel_rfl) Tryd.func9
    (ChangeSpec.witness_shaped (enc := enc) (C := Tryd.checked) (os := os) (X := (fun w _ => laidMetH Tryd.prog [("unicode/utf8.acceptRanges", Rows.laid_unicode_utf8_acceptRanges), ("unicode/utf8.first", Rows.laid_unicode_utf8_first)] w)) false (World.laidAll Tryd.prog os [("unicode/utf8.acceptRanges", Rows.laid_unicode_utf8_acceptRanges), ("unicode/utf8.first", Rows.laid_unicode_utf8_first)]) #[.slice none 0 0, .int .i64 0, .int .u8 0] 8 (World.laidAll_os _ _ _)
      (World.shaped_of_ZipB (by kernel_rfl) (by kernel_rfl)) (by kernel_rfl) (by kernel_rfl) (by kernel_rfl)
      (by rw [MakeChecks.laidMetH_plain _ _ _ (by kernel_rfl)]; exact laidMet_laidAll _ (by kernel_rfl) (by kernel_rfl))) ?_
  intro W base args ds gs before hval0 hW hcnd hsz0 hL hsh _
  have hval : ∀ (j : Nat) t v, Tryd.f9.params[j]? = some t → args[j]? = some v → Value.okWide Tryd.prog W .any base t v := hval0
  have hW' := hW
  obtain ⟨p, q, hA0, hV, rfl, hfz, hnd⟩ := hW
  have hA : DataW.TrodAll enc Tryd.prog W 0 (fun _ => true) true Tryd.f9.params.toList args.toList ds p := hA0
  rw [Tryd.params9] at hA hval
  obtain ⟨v0, vs0, d0, ds0, p0, q0, hargs, rfl, rfl, h0, r0⟩ := trodAll_cons hA
  obtain ⟨v1, vs1, d1, ds1, p1, q1, rfl, rfl, rfl, h1, r1⟩ := trodAll_cons r0
  obtain ⟨v2, vs2, d2, ds2, p2, q2, rfl, rfl, rfl, h2, r2⟩ := trodAll_cons r1
  obtain ⟨rfl, rfl, rfl⟩ := trodAll_nil r2
  obtain rfl : args = #[v0, v1, v2] := by cases args; simp_all
  obtain ⟨rfl, rfl⟩ := trodVars_none hV
  have hsz : ∀ (j : Nat) (t : TypeId) (d : DataW H), ([26, 3, 5] : List TypeId)[j]? = some t → [d0, d1, d2][j]? = some d → ∀ n ∈ d.weights Tryd.prog t, n ≤ reachBytes := by
    intro j t d ht hd n hn
    have hsz1 : (DataW.weightsEach Tryd.prog ([26, 3, 5] : List TypeId) [d0, d1, d2]).all (· ≤ reachBytes) = true := hsz0
    have := List.all_eq_true.1 hsz1 n (DataW.weights_mem_each ht hd n hn)
    simpa using this
  have k0 := h0
  have lt0 : ∀ x ∈ p0, x.block < W.heap.size := by obtain ⟨m, hm⟩ := k0; exact DataW.trod_lt m _ _ _ hm
  obtain ⟨A0, n0, c0, l0, rfl, a0, z0⟩ := open_bytesA Tryd.underlying26 Tryd.underlying5 (by kernel_rfl) (by kernel_rfl) (hval 0 26 v0 rfl rfl) h0 (hsz 0 26 _ rfl rfl)
  have k1 := h1
  have lt1 : ∀ x ∈ p1, x.block < W.heap.size := by obtain ⟨m, hm⟩ := k1; exact DataW.trod_lt m _ _ _ hm
  obtain ⟨n1, rfl, rfl, rfl, x1⟩ := open_int Tryd.underlying3 (hval 1 3 v1 rfl rfl) h1
  have k2 := h2
  have lt2 : ∀ x ∈ p2, x.block < W.heap.size := by obtain ⟨m, hm⟩ := k2; exact DataW.trod_lt m _ _ _ hm
  obtain ⟨n2, rfl, rfl, rfl, x2⟩ := open_int Tryd.underlying5 (hval 2 5 v2 rfl rfl) h2
  refine (walk A0 n0 c0 l0 n1 n2 W a0 z0 (bounds_i64 x1) (bounds_u8 x2)).mono fun e W' ⟨he, bel⟩ => ?_
  subst he
  exact ⟨_, rfl, _, _, _, [], _, [], hW', trodAll_mk1 (shut_bool Tryd.underlying4 _), (trodAll_cons_mk (Below.trod laidOut (by kernel_rfl) (of_decide_eq_true (by kernel_rfl)) k0 bel lt0) (trodAll_cons_mk (Below.trod laidOut (by kernel_rfl) (of_decide_eq_true (by kernel_rfl)) k1 bel lt1) (trodAll_cons_mk (Below.trod laidOut (by kernel_rfl) (of_decide_eq_true (by kernel_rfl)) k2 bel lt2) trodAll_mk0))), rfl, bel.frame _, fun h => by cases h⟩

theorem over : Rows.sectorsTurnedRow.holds Tryd.pinned (OpenSpec.ofChange Rows.sectorsTurnedSpec) :=
  OpenClaim.holds_of_wide 9 Tryd.f9 rfl rfl rfl rfl rfl rfl rfl ⟨rfl, rfl, rfl, rfl, rfl⟩ rfl rfl rfl rfl rfl (by kernel_rfl) Tryd.func9 (by kernel_rfl)
    (of_decide_eq_true (by kernel_rfl)) (by unfold Func.isWrapper; first | (rw [if_pos (by decide +kernel)]; kernel_rfl) | (rw [if_neg (by decide +kernel)]; exact ⟨rfl, rfl⟩))
    (fun os started H enc _ => lifted os started H enc)

theorem proved : Rows.SectorsTurnedCardSaid :=
  Claim7.holds_tied_plain_at .later [] [.data, .pinned] true (true, "dc3eabe4416708f3bf80b9d2489c313fb0226dd42c19edfe3363a148024dce7c") true over (fun _ h => by cases h) (by kernel_rfl) (fun _ h => by cases h) sectorsTurned_row_tie rfl ⟨rfl, rfl⟩ (by kernel_rfl) rfl
    (fun f fn hf hfn => by
      obtain rfl : f = 9 := Option.some.inj ((show Tryd.prog.funcNamed "sublet/subletlaw10.SectorsTurned" = some 9 by kernel_rfl).symm.trans hf) |>.symm
      obtain rfl : fn = Tryd.f9 := (Option.some.inj (Tryd.func9.symm.trans hfn)).symm
      exact ⟨by kernel_rfl, fun j t ht => by
        rw [Tryd.params9] at ht
        have hm : t ∈ ([26, 3, 5] : List TypeId) := by simpa using Array.mem_of_getElem? ht
        have hall : (([26, 3, 5] : List TypeId).all fun u => !Tryd.prog.wantsStandIn u) = true := by kernel_rfl
        exact (show Tryd.prog.wantsStandIn t = false by simpa using List.all_eq_true.1 hall t hm)⟩)
    (by kernel_rfl)
#print axioms proved
end Go.Proofs.YthncnkkpfcbkfaaDoor.sectorsTurned
