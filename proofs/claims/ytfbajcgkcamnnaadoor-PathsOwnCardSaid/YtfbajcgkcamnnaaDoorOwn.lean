/- PathsOwn returns true for any text and any list of texts: lists that are handed in stay, lists that are answered share no memory. No condition. -/
import Derived.Test.YtfbajcgkcamnnaaDoorK3
import Derived.Test.YtfbajcgkcamnnaaDoorCards
namespace Go.Proofs.YtfbajcgkcamnnaaDoor.pathsOwn
open Go.ChangeShapes Go.WideShapes Go.ChangeAt Go.RowKit Go.PlainAid
open Go.ChangeMaps (open_string shut_string)

theorem own : ownKnob Tryd.prog.godebug = none := by kernel_rfl
theorem laidOut : laidOutB Tryd.prog = true := by kernel_rfl

set_option maxRecDepth 100000 in
set_option maxHeartbeats 2000000 in
theorem walk (s0 : ByteArray) (v1 : Value) (L1 : List ByteArray) (w : World) (b0 : s0.size ≤ 140737488351232) (a1 : ArgStrs w v1 L1) (l1 : L1.length ≤ 8796093021952) (z1 : ∀ x ∈ L1, x.size ≤ maxLen) (hsh : w.ShapedOpen Tryd.prog) : Calls Tryd.prog 10 #[.string s0, v1] w fun e w' => e = .returned (.bool true) ∧ Below w.heap.size w w' := by
  have HM := Lib.hid (mx_of hsh); clear hsh
  have m0 : s0.size ≤ maxLen := by unfold maxLen; omega
  have n0 : s0.size < 9223372036854775807 := by omega
  have HZ := Lib.hid z1; clear z1
  have HV := Lib.hid a1
  have hw0 : 0 < w.heap.size := by obtain ⟨m, hm⟩ := HM.out; exact World.block_lt_of_cell? w _ hm
  obtain ⟨A1, c1, rfl, hc1, hcs1⟩ := a1
  clear hcs1
  go_enter Tryd.func10, Tryd.ntmps10
  go_wp2_with fail
  refine (awake_any _ HM.out).mono ?_
  rintro e w1 ⟨rfl, k1⟩
  have M1 := Lib.hid (HM.out.no k1)
  have KW1 := Lib.hid k1
  have HV1 := Lib.hid (HV.out.no k1)
  go_wp2_with (first | (at_builtin; refine wpList_appN _ rfl _ _ 24 rfl w.heap.size 9 _ 16 Tryd.underlying24 Tryd.info9 rfl _ 0 0 [] rfl (own_fresh _ _ _ KW1.out.size) A1 L1.length c1 (L1.map Value.string) rfl (by simp) (by exact ArgStrs.cs (HV1.out.no ((Kp.refl No _).alloc _))) (by simp [Value.oneCell']) (by omega) (by omega) (by have := KW1.out.size; simp; omega) ?_; intro g1 cap1 w4 hown hk4 hat; simp only [Nat.zero_add, List.nil_append] at hown) | (at_builtin; refine wpList_app1 _ rfl _ _ 24 rfl w.heap.size 9 _ 1 16 Tryd.underlying24 Tryd.info9 rfl (by omega) _ L1.length (L1.map Value.string) rfl (hown.alloc _) _ _ _ rfl (Bk.new' (by simp) rfl) rfl (by simp [Value.oneCell']) (by omega) (by omega) (by have h1 := hk4.size; have h2 := KW1.out.size; simp at h1 ⊢; omega) ?_; intro g2 cap2 w5 hown2 hk5 hat2; obtain ⟨hv5, hsp, hcap2, hb2, hlt2⟩ := own_pre hown2 rfl; have hcap3 : L1.length ≤ cap2 := by omega))
  have kk4 := ((KW1.out.alloc _).then_ hk4 fun i hi e => by have := KW1.out.size; omega)
  have KW5 := Lib.hid ((kk4.alloc _).then_ hk5 fun i hi e => by have := hown.lt i e; omega)
  have HV5 := Lib.hid hv5
  have HSP := Lib.hid hsp
  clear hown hown2 hk4 hk5 hat hat2 kk4 hv5 hsp KW1 HV1 k1
  go_wp2_with fail
  refine (join_uni _ L1 _ HV5.out HZ.out).mono ?_
  rintro e w6 ⟨rfl, k6⟩
  have C := Lib.hid (same_eq (.slice (some ⟨g2, 0, none⟩) L1.length cap2) (.slice A1 L1.length c1) L1 L1 w6 (HV5.out.no k6) (HV.out.no (KW5.out.trans k6)) (by omega) rfl)
  have KW6 := Lib.hid (KW5.out.trans k6)
  go_wp2_with fail
  refine C.out.mono ?_
  rintro e w7 ⟨rfl, k7⟩
  have hsp7 : w7.cell? ⟨g2, L1.length, none⟩ = some (.string ⟨#[115, 112, 97, 114, 101]⟩) := by
    rw [World.cell?_of_block (w := w5) ((k6.trans k7).block g2 hlt2 (fun m => m))]; exact HSP.out
  have hi0 : (0 : Int) ≤ (L1.length : Int) := by omega
  have hi1 : (L1.length : Int) < (L1.length : Int) + 1 := by omega
  have KW7 := Lib.hid (KW6.out.trans k7)
  clear k6 k7 KW6 KW5 HSP
  go_wp2_with fail
  refine (rjoin_uni _ L1 _ (HV.out.no KW7.out)).mono ?_
  rintro e w8 ⟨rfl, k8⟩
  have KW8 := Lib.hid (KW7.out.trans k8); clear k8 KW7 hsp7
  generalize (joinL (tx L1)).getD [] = xj
  generalize errJ (tx L1) = ej
  go_wp2_with fail
  refine (split_own s0 _ m0 (HM.out.no KW8.out)).mono ?_
  rintro e w9 ⟨vx, D, rfl, hD, k9, hx⟩
  have hl4 := split_len hD
  have KW9 := Lib.hid (KW8.out.trans k9)
  obtain ⟨xs, hox⟩ := own_of_split KW8.out.size hl4 hx
  clear hx k9
  go_wp2_with fail
  refine (split_own s0 _ m0 (HM.out.no KW9.out)).mono ?_
  rintro e wy ⟨vy, E, rfl, hE, ky, hy⟩
  have HYF := Lib.hid (far_of_split hy)
  have HYA := Lib.hid (arg_of_own hy)
  have KWY := Lib.hid (KW9.out.trans ky)
  have hoy : ∃ xs, wy.ownsRow w.heap.size 9 1 vx D.length xs := ⟨xs, own_kp hox ky (fun _ _ m => m)⟩
  have hMl : ∀ q, vx.ownBlock = some q → w.heap.size ≤ q ∧ q < w9.heap.size := fun q e => hox.lt q e
  obtain ⟨Ax, cx, hvx⟩ := own_len hox
  have HML := Lib.hid hMl
  have HOY := Lib.hid hoy
  have HDE := Lib.hid hD; have HEE := Lib.hid hE
  have hysz := ky.size
  clear hox hy ky hD hE hMl hoy KW8 KW9 C HV5 HV
  go_wp2
  subst hvx
  go_wp2
  go_loopw [75] (fun i wr => ∃ k : Nat, k ≤ D.length ∧ i = .int .i64 k ∧ (∃ xs, wr.ownsRow w.heap.size 9 1 (.slice Ax D.length cx) D.length xs) ∧ Kp (fun q => Value.ownBlock (.slice Ax D.length cx) = some q) wy wr) (fun i _ => D.length - (intOf i).toNat)
  case atStart => exact ⟨0, Nat.zero_le _, rfl, HOY.out, Kp.refl _ _⟩
  case round =>
    obtain ⟨k, hk, rfl, ⟨ys, hoz⟩, hkp⟩ := hrel
    by_cases hlt : k < D.length
    · have hk0 : (0 : Int) ≤ (k : Int) := by omega
      have hk1 : (k : Int) < (D.length : Int) := by omega
      obtain ⟨g, cap, e, hc⟩ := own_form hoz (by omega)
      injection e with e _ e2
      subst e e2
      have hc0 : ∃ u, wr.cell? ⟨g, k, none⟩ = some u := by
        rw [hoz.cellAt k (by omega)]
        have := hoz.1
        exact ⟨_, List.getElem?_eq_getElem (by omega)⟩
      obtain ⟨u, hc0⟩ := hc0
      have hf0 := hoz.frozenAt k
      have hst := hoz.stored k (.string ⟨#[120]⟩)
      have HST := Lib.hid hst
      have HK := Lib.hid (hkp.set (g := g) (.inl rfl) k (.string ⟨#[120]⟩))
      clear hoz hst hkp
      go_wp2
      go_roundw
      case rel => exact ⟨k + 1, by omega, by go_num, ⟨_, HST.out.1⟩, HK.out⟩
      case measure => simp [intOf]; omega
    · have hk1 : ¬ (k : Int) < (D.length : Int) := by omega
      have HOZ : Hid (∃ xs, wr.ownsRow w.heap.size 9 1 (.slice Ax D.length cx) D.length xs) := ⟨ys, hoz⟩
      have HK := Lib.hid hkp
      clear hoz hkp
      go_wp2
      go_loopw [15, 10] (fun i x wq => ∃ k : Nat, k ≤ 8 ∧ i = .int .i64 k ∧ (∃ xs, wq.ownsRow w.heap.size 9 1 x (D.length + k) xs) ∧ Kp (fun q => Value.ownBlock (.slice Ax D.length cx) = some q) wy wq ∧ (∀ q, x.ownBlock = some q → Value.ownBlock (.slice Ax D.length cx) = some q ∨ wy.heap.size ≤ q)) (fun i _ _ => 8 - (intOf i).toNat)
      case atStart => exact ⟨0, by omega, rfl, HOZ.out, HK.out, fun q e => .inl e⟩
      case round =>
        obtain ⟨k2, hk2, rfl, ⟨zs, hoq⟩, hkq, hfr⟩ := hrel
        by_cases h8 : k2 < 8
        · have hk3 : (k2 : Int) < 8 := by omega
          obtain ⟨Aq, cq, hvq⟩ := own_len hoq
          subst hvq
          have HFR := Lib.hid hfr
          have HKQ := Lib.hid hkq
          have hsz0 := KWY.out.size
          have hsz1 := hkq.size
          clear hfr hkq
          go_wp2_with (at_builtin; refine wpList_app1 _ rfl _ _ 24 rfl w.heap.size 9 _ 1 16 Tryd.underlying24 Tryd.info9 rfl (by omega) _ (D.length + k2) zs rfl (hoq.alloc _) _ _ _ rfl (Bk.new' (by simp) rfl) rfl (by simp [Value.oneCell']) (by omega) (by omega) (by simp; omega) ?_; intro g3 cap3 wz hown3 hk3' hat3)
          have kk := (HKQ.out.alloc _).then_ hk3' fun i hi e => by
            rcases HFR.out i e with h | h
            · exact h
            · omega
          go_roundw
          case rel => exact ⟨k2 + 1, by omega, by go_num, ⟨_, hown3⟩, kk, fun q e => by
            injection e with e
            subst e
            rcases hat3 with h | h
            · exact HFR.out _ h
            · right; show wy.heap.size ≤ g3; simp at h; omega⟩
          case measure => simp [intOf]; omega
        · have hk3 : ¬ (k2 : Int) < 8 := by omega
          have HKQ := Lib.hid (KWY.out.then_ hkq fun i hi e => by have := HML.out i e; omega)
          have HY2 := Lib.hid (HYA.out.kp hkq (fun g o n c e m => by have h1 := HYF.out g o n c e; have h2 := HML.out g m; omega))
          clear hkq hfr hoq
          go_wp2_with fail
          refine (split_uni s0 _ m0 (HM.out.no HKQ.out)).mono ?_
          rintro e wz ⟨vz, F, rfl, hz, hF, kz⟩
          go_wp2_with fail
          refine (rsplit_uni s0 _ n0).mono ?_
          rintro e wl ⟨vl, G, rfl, hl, hG, kl⟩
          have hEG : E = G := tx_inj (by rw [HEE.out, hG])
          have hFG : F = G := tx_inj (by rw [hF, hG])
          subst hEG hFG
          have hel := split_len HEE.out
          have C1 := Lib.hid (same_eq vy vl F F wl ((HY2.out.no kz).no kl) hl (by omega) rfl)
          have HZ2 := Lib.hid (hz.no kl); have HL2 := Lib.hid hl
          have KE := Lib.hid (HKQ.out.trans (kz.trans kl))
          clear hz hl hF hG kz kl
          go_wp2_with fail
          refine C1.out.mono ?_
          rintro e wm ⟨rfl, km⟩
          have C2 := Lib.hid (same_eq vz vl F F wm (HZ2.out.no km) (HL2.out.no km) (by omega) rfl)
          have KE2 := Lib.hid (KE.out.trans km)
          clear km
          go_wp2_with fail
          refine C2.out.mono ?_
          rintro e wn ⟨rfl, kn⟩
          go_wp2
          go_ret
          exact ⟨rfl, (KE2.out.trans kn).below (Nat.le_refl _) (fun _ _ m => m)⟩

set_option maxRecDepth 100000 in
theorem lifted (os : Os) (started : os.Started) (H : Type) (enc : TypeId × Value → H) :
    ReturnsInHanded {} Tryd.checked os 10 .any (fun w args => (Rows.pathsOwnSpec.pre enc Tryd.prog Tryd.f10 Rows.pathsOwnRow.domain false w args ∧ laidMetH Tryd.prog [("unicode/utf8.acceptRanges", Rows.laid_unicode_utf8_acceptRanges), ("unicode/utf8.first", Rows.laid_unicode_utf8_first)] w) ∧ sizedMet enc Tryd.prog Tryd.f10 (OpenSpec.ofChange Rows.pathsOwnSpec) false w args)
      (Rows.pathsOwnSpec.post enc Tryd.prog Tryd.f10 false true false false) := by
  refine returnsInHanded_and_shaped (C := Tryd.checked) (X := (fun w _ => laidMetH Tryd.prog [("unicode/utf8.acceptRanges", Rows.laid_unicode_utf8_acceptRanges), ("unicode/utf8.first", Rows.laid_unicode_utf8_first)] w)) (fun _ _ _ hh h => h.of_heap hh) own started (by kernel_rfl) Tryd.func10
    (ChangeSpec.witness_shaped (enc := enc) (C := Tryd.checked) (os := os) (X := (fun w _ => laidMetH Tryd.prog [("unicode/utf8.acceptRanges", Rows.laid_unicode_utf8_acceptRanges), ("unicode/utf8.first", Rows.laid_unicode_utf8_first)] w)) false (World.laidAll Tryd.prog os [("unicode/utf8.acceptRanges", Rows.laid_unicode_utf8_acceptRanges), ("unicode/utf8.first", Rows.laid_unicode_utf8_first)]) #[.string ⟨#[]⟩, .slice none 0 0] 8 (World.laidAll_os _ _ _)
      (World.shaped_of_ZipB (by kernel_rfl) (by kernel_rfl)) (by kernel_rfl) (by kernel_rfl) (by kernel_rfl)
      (by rw [MakeChecks.laidMetH_plain _ _ _ (by kernel_rfl)]; exact laidMet_laidAll _ (by kernel_rfl) (by kernel_rfl))) ?_
  intro W base args ds gs before hval0 hW hcnd hsz0 hL hsh _
  have hval : ∀ (j : Nat) t v, Tryd.f10.params[j]? = some t → args[j]? = some v → Value.okWide Tryd.prog W .any base t v := hval0
  have hW' := hW
  obtain ⟨p, q, hA0, hV, rfl, hfz, hnd⟩ := hW
  have hA : DataW.TrodAll enc Tryd.prog W 0 (fun _ => true) true Tryd.f10.params.toList args.toList ds p := hA0
  rw [Tryd.params10] at hA hval
  obtain ⟨v0, vs0, d0, ds0, p0, q0, hargs, rfl, rfl, h0, r0⟩ := trodAll_cons hA
  obtain ⟨v1, vs1, d1, ds1, p1, q1, rfl, rfl, rfl, h1, r1⟩ := trodAll_cons r0
  obtain ⟨rfl, rfl, rfl⟩ := trodAll_nil r1
  obtain rfl : args = #[v0, v1] := by cases args; simp_all
  obtain ⟨rfl, rfl⟩ := trodVars_none hV
  have hsz : ∀ (j : Nat) (t : TypeId) (d : DataW H), ([9, 24] : List TypeId)[j]? = some t → [d0, d1][j]? = some d → ∀ n ∈ d.weights Tryd.prog t, n ≤ reachBytes := by
    intro j t d ht hd n hn
    have hsz1 : (DataW.weightsEach Tryd.prog ([9, 24] : List TypeId) [d0, d1]).all (· ≤ reachBytes) = true := hsz0
    have := List.all_eq_true.1 hsz1 n (DataW.weights_mem_each ht hd n hn)
    simpa using this
  have k0 := h0
  have lt0 : ∀ x ∈ p0, x.block < W.heap.size := by obtain ⟨m, hm⟩ := k0; exact DataW.trod_lt m _ _ _ hm
  obtain ⟨s0, rfl, rfl, rfl, w0⟩ := open_string Tryd.underlying9 (hval 0 9 v0 rfl rfl) h0
  have b0 : s0.size ≤ 140737488351232 := by have := hsz 0 9 _ rfl rfl s0.data.toList.length (by simp [DataW.weights]); simpa [reachBytes] using this
  have k1 := h1
  have lt1 : ∀ x ∈ p1, x.block < W.heap.size := by obtain ⟨m, hm⟩ := k1; exact DataW.trod_lt m _ _ _ hm
  obtain ⟨L1, a1, l1, z1⟩ := open_strs Tryd.underlying24 Tryd.underlying9 (by kernel_rfl) (by kernel_rfl) (hval 1 24 v1 rfl rfl) h1 (hsz 1 24 _ rfl rfl)
  refine (walk s0 v1 L1 W b0 a1 l1 z1 hsh).mono fun e W' ⟨he, bel⟩ => ?_
  subst he
  exact ⟨_, rfl, _, _, _, [], _, [], hW', trodAll_mk1 (shut_bool Tryd.underlying4 _), (trodAll_cons_mk (Below.trod laidOut (by kernel_rfl) (of_decide_eq_true (by kernel_rfl)) k0 bel lt0) (trodAll_cons_mk (Below.trod laidOut (by kernel_rfl) (of_decide_eq_true (by kernel_rfl)) k1 bel lt1) trodAll_mk0)), rfl, bel.frame _, fun h => by cases h⟩

theorem over : Rows.pathsOwnRow.holds Tryd.pinned (OpenSpec.ofChange Rows.pathsOwnSpec) :=
  OpenClaim.holds_of_wide 10 Tryd.f10 rfl rfl rfl rfl rfl rfl rfl ⟨rfl, rfl, rfl, rfl, rfl⟩ rfl rfl rfl rfl rfl (by kernel_rfl) Tryd.func10 (by kernel_rfl)
    (of_decide_eq_true (by kernel_rfl)) (by unfold Func.isWrapper; first | (rw [if_pos (by decide +kernel)]; kernel_rfl) | (rw [if_neg (by decide +kernel)]; exact ⟨rfl, rfl⟩))
    (fun os started H enc _ => lifted os started H enc)

theorem proved : Rows.PathsOwnCardSaid :=
  Claim7.holds_tied_plain_at .later [] [.data, .pinned] true (true, "b0747c0908a156516a929e9484f089a83caf480c3f33ea476e752292b81b8aab") false over (fun _ h => by cases h) (by kernel_rfl) (fun _ h => by cases h) pathsOwn_row_tie rfl ⟨rfl, rfl⟩ (by kernel_rfl) rfl
    (fun f fn hf hfn => by
      obtain rfl : f = 10 := Option.some.inj ((show Tryd.prog.funcNamed "sublet/subletlaw01.PathsOwn" = some 10 by kernel_rfl).symm.trans hf) |>.symm
      obtain rfl : fn = Tryd.f10 := (Option.some.inj (Tryd.func10.symm.trans hfn)).symm
      exact ⟨by kernel_rfl, fun j t ht => by
        rw [Tryd.params10] at ht
        have hm : t ∈ ([9, 24] : List TypeId) := by simpa using Array.mem_of_getElem? ht
        have hall : (([9, 24] : List TypeId).all fun u => !Tryd.prog.wantsStandIn u) = true := by kernel_rfl
        exact (show Tryd.prog.wantsStandIn t = false by simpa using List.all_eq_true.1 hall t hm)⟩)
    (by kernel_rfl)
#print axioms proved
end Go.Proofs.YtfbajcgkcamnnaaDoor.pathsOwn
