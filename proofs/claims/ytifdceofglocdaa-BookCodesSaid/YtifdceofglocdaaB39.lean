/- A record's bytes: the document's Encode by contract. No condition beyond what each theorem states. -/
import Derived.Test.YtifdceofglocdaaB29
import Derived.Test.YtifdceofglocdaaB38
import Derived.Test.YtifdceofglocdaaB13
namespace Go.Proofs.Ytifdceofglocdaa
open Go Go.RowKit Go.PlainAid

theorem argI_blk {w : World} {g n : Nat} {L : List Int} (h : Bk w g 3 (ints L)) (hn : L.length = n) : ArgInts w (.slice (some ⟨g, 0, none⟩) n n) L :=
  ⟨_, n, by rw [hn], by omega, fun _ => ⟨g, 0, rfl, fun j v hv => by rw [h.cell, Nat.zero_add]; exact hv⟩⟩
set_option maxRecDepth 100000 in
set_option maxHeartbeats 16000000 in
theorem rencode_any (r : Rcd) (gv rv : Value) (W : World) (hg : ArgInts W gv r.grant.stamp) (hs : ArgInts W rv r.stamp) (lg : ShG maxLen r.grant) (ls : r.stamp.length ≤ maxLen) (hp63 : r.grant.path.length < 9223372036854775807) :
    Calls Try.prog 24 #[.agg (rC r gv rv).toArray] W (EncR W r) := by
  obtain ⟨Q, hQ⟩ : ∃ Q : Ending → World → Prop, Q = EncR W r := ⟨_, rfl⟩
  rw [← hQ]
  have HQ := Lib.hid hQ; clear hQ
  obtain ⟨A, c, rfl, _⟩ := ints_of _ _ _ hg
  obtain ⟨A2, c2, rfl, _⟩ := ints_of _ _ _ hs
  obtain ⟨C, hC⟩ : ∃ C, C = rC r (.slice A r.grant.stamp.length c) (.slice A2 r.stamp.length c2) := ⟨_, rfl⟩
  obtain ⟨w1, hw1⟩ : ∃ w1, w1 = W.alloc (.cells C.toArray 32) := ⟨_, rfl⟩
  have HB1 := Lib.hid (show Bk w1 W.heap.size 32 C by rw [hw1]; exact Bk.new' rfl rfl)
  have HK1 := Lib.hid (show Kp No W w1 by rw [hw1]; exact (Kp.refl No W).alloc _)
  have HI := Lib.hid (show (Try.prog.info? 32).map (·.size) = some C.length by rw [hC]; kernel_rfl)
  have HU := Lib.hid Try.underlying32
  have pr := rrec_any r (.slice A r.grant.stamp.length c) (.slice A2 r.stamp.length c2) w1 (hg.no HK1.out) (hs.no HK1.out) lg ls hp63
  rw [← hC] at pr
  have HW := Lib.hid hw1; have HG := Lib.hid hg; have HS := Lib.hid hs; have HC := Lib.hid hC
  clear hw1 hg hs lg ls hp63
  rw [← hC]
  clear hC
  go_enter Try.func24, Try.ntmps24
  go_upto_region 1 with (fail)
  rw [← HW.out]
  clear HW
  go_wp2_with (with_reducible refine wpList_load_mid rfl _ _ rfl W.heap.size 0 rfl C _ (bk_range HB1.out) HU.out rfl HI.out ?_)
  refine pr.mono ?_
  rintro e w2 ⟨rfl, k2⟩
  have HK2 := Lib.hid k2
  have HRF := Lib.hid (show ∀ W2, Kp No w1 W2 → Bk W2 W.heap.size 32 C from fun W2 kk => HB1.out.no kk)
  clear k2 pr HI HU
  by_cases hm : mayR r
  case neg =>
    have HE := Lib.hid (enc_none hm)
    rw [decide_eq_false hm]
    clear hm
    go_wp2
    rw [HQ.out]
    exact ⟨.inl ⟨HE.out, rfl⟩, HK1.out.trans HK2.out⟩
  have HM := Lib.hid hm; have HEN := Lib.hid (enc_some hm)
  have hsmall : r.grant.path.length ≤ 27 := by
    rcases mayR_kind hm with e | e | e | e | e | e | e
    · rw [((mayR_1 e).1 hm).2.2.1]; exact Nat.zero_le _
    · rw [((mayR_2 e).1 hm).2.2.2.1]; exact Nat.zero_le _
    · exact (mayG_sh ((mayR_3 e).1 hm).1).1
    · exact (mayG_sh ((mayR_4 e).1 hm).2.1).1
    · rw [((mayR_5 e).1 hm).2.2.2]; exact Nat.zero_le _
    · rw [((mayR_6 e).1 hm).2.2.2]; exact Nat.zero_le _
    · rw [((mayR_7 e).1 hm).2.1]; exact Nat.zero_le _
  have HKI := Lib.hid (show 0 ≤ r.kind ∧ r.kind ≤ 7 by have := mayR_kind hm; omega)
  rw [decide_eq_true hm]
  clear hm
  obtain ⟨kind, ⟨gid, hol, path, mode, st, term⟩, id, stamp, next, boots, longest⟩ := r
  have HPL := Lib.hid (show path.length ≤ 27 from hsmall)
  replace HKI : Hid (0 ≤ kind ∧ kind ≤ 7) := HKI
  replace HG := Lib.hid (show ArgInts W (.slice A st.length c) st from HG.out)
  replace HS := Lib.hid (show ArgInts W (.slice A2 stamp.length c2) stamp from HS.out)
  replace HRF := Lib.hid (show ∀ W2, Kp No w1 W2 → Bk W2 W.heap.size 32 [.int .i64 kind, .int .i64 gid, .int .i64 hol, .string ⟨path.toArray⟩, .int .i64 mode, .slice A st.length c, .int .i64 term, .int .i64 id, .slice A2 stamp.length c2, .int .i64 next, .int .i64 boots, .int .i64 longest] from fun W2 kk => by have h := HRF.out W2 kk; rw [HC.out] at h; exact h)
  clear hsmall HC HB1
  have z0 : w2.cell? ⟨W.heap.size, 0, none⟩ = some (.int .i64 kind) := (HRF.out w2 HK2.out).cell 0
  have pn := refNums_any (.slice (some ⟨w2.heap.size, 0, none⟩) 1 1) [kind] (w2.alloc (.cells #[.int .i64 kind] 3)) (argI_blk (L := [kind]) (Bk.new' rfl rfl) rfl) (by simp) (by intro x hx; rw [List.mem_singleton] at hx; have := HKI.out; omega)
  go_wp2_with fail
  refine pn.mono ?_
  rintro e w3 ⟨nv, rfl, on, kn⟩
  obtain ⟨A3, c3, rfl, _⟩ := own_len on
  obtain ⟨l5, hl5⟩ : ∃ l5, l5 = outI [kind] := ⟨_, rfl⟩
  rw [← hl5] at on
  have HK3 := Lib.hid (show Kp No w1 w3 from (HK2.out.trans ((Kp.refl No w2).alloc _)).trans kn)
  have HO3 := Lib.hid (show OwnB w3 w1.heap.size (.slice A3 l5.length c3) l5 from own_mono on (Nat.le_trans HK2.out.size ((Kp.refl No w2).alloc _).size))
  have HL5E := Lib.hid hl5
  obtain ⟨x5, hx5⟩ : ∃ x5, x5 = w3.heap.size := ⟨_, rfl⟩
  obtain ⟨w5, hw5⟩ : ∃ w5, w5 = w3.alloc (.cells #[.int .i64 gid, .int .i64 hol, .string ⟨path.toArray⟩, .int .i64 mode, .slice A st.length c, .int .i64 term] 30) := ⟨_, rfl⟩
  have kal : Kp No w3 w5 := by rw [hw5]; exact (Kp.refl No w3).alloc _
  have HX5 := Lib.hid (show Bk w5 x5 30 [.int .i64 gid, .int .i64 hol, .string ⟨path.toArray⟩, .int .i64 mode, .slice A st.length c, .int .i64 term] by rw [hw5, hx5]; exact Bk.new' rfl rfl)
  have HK5 := Lib.hid (HK3.out.trans kal)
  have HO5 := Lib.hid (HO3.out.no kal)
  have HL5 := Lib.hid (show l5.length ≤ 9 by rw [hl5]; have := outI_len [kind] (by intro x hx; rw [List.mem_singleton] at hx; have := HKI.out; omega); simpa using this)
  have HW5 := Lib.hid hw5; have HX := Lib.hid hx5
  clear pn on kn kal hw5 hx5 z0
  rw [← hl5]
  clear hl5
  have z1 : w3.cell? ⟨W.heap.size, 1, none⟩ = some (.int .i64 gid) := (HRF.out w3 HK3.out).cell 1
  have z2 : w3.cell? ⟨W.heap.size, 2, none⟩ = some (.int .i64 hol) := (HRF.out w3 HK3.out).cell 2
  have z3 : w3.cell? ⟨W.heap.size, 3, none⟩ = some (.string ⟨path.toArray⟩) := (HRF.out w3 HK3.out).cell 3
  have z4 : w3.cell? ⟨W.heap.size, 4, none⟩ = some (.int .i64 mode) := (HRF.out w3 HK3.out).cell 4
  have z5 : w3.cell? ⟨W.heap.size, 5, none⟩ = some (.slice A st.length c) := (HRF.out w3 HK3.out).cell 5
  have z6 : w3.cell? ⟨W.heap.size, 6, none⟩ = some (.int .i64 term) := (HRF.out w3 HK3.out).cell 6
  go_upto_region 5 with (fail)
  rw [← HW5.out, ← HX.out]
  clear HW5 HX z1 z2 z3 z4 z5 z6
  by_cases e1 : kind = 1
  case pos =>
    subst e1
    have hb := (mayR_1 rfl).1 HM.out
    have hbn : 1 ≤ next ∧ next ≤ 1099511627777 ∧ 0 ≤ boots ∧ boots ≤ 1099511627776 := hb.1
    clear hb
    have z0 : w5.cell? ⟨W.heap.size, 0, none⟩ = some (.int .i64 1) := (HRF.out w5 HK5.out).cell 0
    have z9 : w5.cell? ⟨W.heap.size, 9, none⟩ = some (.int .i64 next) := (HRF.out w5 HK5.out).cell 9
    have z10 : w5.cell? ⟨W.heap.size, 10, none⟩ = some (.int .i64 boots) := (HRF.out w5 HK5.out).cell 10
    have pn := refNums_any (.slice (some ⟨w5.heap.size, 0, none⟩) 2 2) [next, boots] (w5.alloc (.cells #[.int .i64 next, .int .i64 boots] 3)) (argI_blk (L := [next, boots]) (Bk.new' rfl rfl) rfl) (by simp) (by intro x hx; simp only [List.mem_cons, List.not_mem_nil, or_false] at hx; rcases hx with rfl | rfl <;> omega)
    have kal : Kp No w5 (w5.alloc (.cells #[.int .i64 next, .int .i64 boots] 3)) := (Kp.refl No w5).alloc _
    go_wp2_with fail
    refine pn.mono ?_
    rintro e v6 ⟨nv, rfl, on, kn⟩
    obtain ⟨An, cn, rfl, _⟩ := own_len on
    have KN := Lib.hid (kal.trans kn)
    have HOn := Lib.hid (HO5.out.no KN.out); have HKn := Lib.hid (HK5.out.trans KN.out); have HAn := Lib.hid (own_argB on); have HXn := Lib.hid (HX5.out.no KN.out)
    have hnb : (outI [next, boots]).length ≤ 18 := by have := outI_len [next, boots] (by intro x hx; simp only [List.mem_cons, List.not_mem_nil, or_false] at hx; rcases hx with rfl | rfl <;> omega); simpa using this
    have HNB := Lib.hid hnb
    have hsz := HKn.out.size
    clear pn on kn hnb kal z0 z9 z10
    clear hbn
    go_upto_region 21 with (at_builtin; go_must (refine wpList_appV _ rfl _ _ 46 rfl w1.heap.size 5 _ 1 Try.underlying46 Try.infoByte rfl _ (l5).length (u8s (l5)) rfl HOn.out An (outI [next, boots]).length cn (u8s (outI [next, boots])) rfl (by simp) HAn.out.cs.1 (u8s_one _) (by have h1 := HL5.out; have h2 := HNB.out; omega) (by have h1 := HL5.out; have h2 := HNB.out; omega) hsz ?_); intro vv6 w6 o6 k6 _; have HO6 := Lib.hid (show OwnB w6 w1.heap.size vv6 (l5 ++ outI [next, boots]) from own_of o6 rfl); obtain ⟨AA6, cc6, hv, _⟩ := own_len o6; obtain ⟨N6, hN⟩ : ∃ N, N = (l5).length + (outI [next, boots]).length := ⟨_, rfl⟩; rw [← hN] at hv; subst hv; clear hN; have HK6 := Lib.hid (kp_own HOn.out HKn.out k6); have HX6 := Lib.hid (HXn.out.kp k6 (own_ne HOn.out HXn.out (by decide))); have HL6 := Lib.hid (show (l5 ++ outI [next, boots]).length ≤ 27 by rw [List.length_append]; have h1 := HL5.out; have h2 := HNB.out; omega); clear o6 k6)
    clear hsz HOn HKn HAn HXn HNB KN
    have HB := Lib.hid (show bodyR ⟨1, ⟨gid, hol, path, mode, st, term⟩, id, stamp, next, boots, longest⟩ = l5 ++ outI [next, boots] by rw [HL5E.out]; simp [bodyR, outI, nS])
    go_wp2
    rw [HQ.out]
    refine ⟨.inr ⟨_, _, HEN.out, rfl, ?_⟩, HK1.out.trans HK6.out⟩
    rw [HB.out]
    exact own_mono HO6.out HK1.out.size
  by_cases e2 : kind = 2
  case pos =>
    subst e2
    clear e1
    have hb := (mayR_2 rfl).1 HM.out
    have hbn : longest < 9223372036854775808 := by have h := hb.1; have h2 : termI longest := h; unfold termI at h2; omega
    clear hb
    have z0 : w5.cell? ⟨W.heap.size, 0, none⟩ = some (.int .i64 2) := (HRF.out w5 HK5.out).cell 0
    have z11 : w5.cell? ⟨W.heap.size, 11, none⟩ = some (.int .i64 longest) := (HRF.out w5 HK5.out).cell 11
    have pn := refNums_any (.slice (some ⟨w5.heap.size, 0, none⟩) 1 1) [longest] (w5.alloc (.cells #[.int .i64 longest] 3)) (argI_blk (L := [longest]) (Bk.new' rfl rfl) rfl) (by simp) (by intro x hx; simp only [List.mem_cons, List.not_mem_nil, or_false] at hx; rcases hx with rfl <;> omega)
    have kal : Kp No w5 (w5.alloc (.cells #[.int .i64 longest] 3)) := (Kp.refl No w5).alloc _
    go_wp2_with fail
    refine pn.mono ?_
    rintro e v6 ⟨nv, rfl, on, kn⟩
    obtain ⟨An, cn, rfl, _⟩ := own_len on
    have KN := Lib.hid (kal.trans kn)
    have HOn := Lib.hid (HO5.out.no KN.out); have HKn := Lib.hid (HK5.out.trans KN.out); have HAn := Lib.hid (own_argB on); have HXn := Lib.hid (HX5.out.no KN.out)
    have hnb : (outI [longest]).length ≤ 9 := by have := outI_len [longest] (by intro x hx; simp only [List.mem_cons, List.not_mem_nil, or_false] at hx; rcases hx with rfl <;> omega); simpa using this
    have HNB := Lib.hid hnb
    have hsz := HKn.out.size
    clear pn on kn hnb kal z0 z11
    clear hbn
    go_upto_region 21 with (at_builtin; go_must (refine wpList_appV _ rfl _ _ 46 rfl w1.heap.size 5 _ 1 Try.underlying46 Try.infoByte rfl _ (l5).length (u8s (l5)) rfl HOn.out An (outI [longest]).length cn (u8s (outI [longest])) rfl (by simp) HAn.out.cs.1 (u8s_one _) (by have h1 := HL5.out; have h2 := HNB.out; omega) (by have h1 := HL5.out; have h2 := HNB.out; omega) hsz ?_); intro vv6 w6 o6 k6 _; have HO6 := Lib.hid (show OwnB w6 w1.heap.size vv6 (l5 ++ outI [longest]) from own_of o6 rfl); obtain ⟨AA6, cc6, hv, _⟩ := own_len o6; obtain ⟨N6, hN⟩ : ∃ N, N = (l5).length + (outI [longest]).length := ⟨_, rfl⟩; rw [← hN] at hv; subst hv; clear hN; have HK6 := Lib.hid (kp_own HOn.out HKn.out k6); have HX6 := Lib.hid (HXn.out.kp k6 (own_ne HOn.out HXn.out (by decide))); have HL6 := Lib.hid (show (l5 ++ outI [longest]).length ≤ 18 by rw [List.length_append]; have h1 := HL5.out; have h2 := HNB.out; omega); clear o6 k6)
    clear hsz HOn HKn HAn HXn HNB KN
    have HB := Lib.hid (show bodyR ⟨2, ⟨gid, hol, path, mode, st, term⟩, id, stamp, next, boots, longest⟩ = l5 ++ outI [longest] by rw [HL5E.out]; simp [bodyR, outI, nS])
    go_wp2
    rw [HQ.out]
    refine ⟨.inr ⟨_, _, HEN.out, rfl, ?_⟩, HK1.out.trans HK6.out⟩
    rw [HB.out]
    exact own_mono HO6.out HK1.out.size
  by_cases e3 : kind = 3
  case pos =>
    subst e3
    clear e1 e2
    have hmg : mayG ⟨gid, hol, path, mode, st, term⟩ := ((mayR_3 rfl).1 HM.out).1
    have hgg : (1 ≤ gid ∧ gid ≤ 1099511627776) ∧ (0 ≤ hol ∧ hol < 8) ∧ mode < 9223372036854775808 ∧ term < 9223372036854775808 := by obtain ⟨a1, a2, a3, a4, a5, a6, a7, a8⟩ := hmg; unfold cntI at a1; unfold nodeI at a2; unfold modeI at a4; unfold termI at a8; dsimp only at a1 a2 a4 a8; omega
    have hsl := (cnt_of_valid hmg.2.2.2.2.1).1
    have hsc := (cnt_of_valid hmg.2.2.2.2.1).2
    have HSL := Lib.hid (show st.length ≤ 4 from hsl); have HSC := Lib.hid (show ∀ x ∈ st, x < 9223372036854775808 from fun x hx => by have h := hsc x hx; unfold cntI at h; omega)
    have HGG := Lib.hid hgg
    clear hmg hsl hsc hgg
    have z0 : w5.cell? ⟨W.heap.size, 0, none⟩ = some (.int .i64 3) := (HRF.out w5 HK5.out).cell 0
    have y0 : w5.cell? ⟨x5, 0, none⟩ = some (.int .i64 gid) := HX5.out.cell 0
    have y1 : w5.cell? ⟨x5, 1, none⟩ = some (.int .i64 hol) := HX5.out.cell 1
    have pn := refNums_any (.slice (some ⟨w5.heap.size, 0, none⟩) 2 2) [gid, hol] (w5.alloc (.cells #[.int .i64 gid, .int .i64 hol] 3)) (argI_blk (L := [gid, hol]) (Bk.new' rfl rfl) rfl) (by simp) (by have hgg := HGG.out; intro x hx; simp only [List.mem_cons, List.not_mem_nil, or_false] at hx; rcases hx with rfl | rfl <;> omega)
    have kal : Kp No w5 (w5.alloc (.cells #[.int .i64 gid, .int .i64 hol] 3)) := (Kp.refl No w5).alloc _
    go_wp2_with fail
    refine pn.mono ?_
    rintro e v6 ⟨nv, rfl, on, kn⟩
    obtain ⟨An, cn, rfl, _⟩ := own_len on
    have KN := Lib.hid (kal.trans kn)
    have HOn := Lib.hid (HO5.out.no KN.out); have HKn := Lib.hid (HK5.out.trans KN.out); have HAn := Lib.hid (own_argB on); have HXn := Lib.hid (HX5.out.no KN.out)
    have hnb : (outI [gid, hol]).length ≤ 18 := by have hgg := HGG.out; have := outI_len [gid, hol] (by intro x hx; simp only [List.mem_cons, List.not_mem_nil, or_false] at hx; rcases hx with rfl | rfl <;> omega); simpa using this
    have HNB := Lib.hid hnb
    have hsz := HKn.out.size
    clear pn on kn hnb kal z0 y0 y1
    go_upto_region 13 with (at_builtin; go_must (refine wpList_appV _ rfl _ _ 46 rfl w1.heap.size 5 _ 1 Try.underlying46 Try.infoByte rfl _ (l5).length (u8s (l5)) rfl HOn.out An (outI [gid, hol]).length cn (u8s (outI [gid, hol])) rfl (by simp) HAn.out.cs.1 (u8s_one _) (by have h1 := HL5.out; have h2 := HNB.out; omega) (by have h1 := HL5.out; have h2 := HNB.out; omega) hsz ?_); intro vv6 w6 o6 k6 _; have HO6 := Lib.hid (show OwnB w6 w1.heap.size vv6 (l5 ++ outI [gid, hol]) from own_of o6 rfl); obtain ⟨AA6, cc6, hv, _⟩ := own_len o6; obtain ⟨N6, hN⟩ : ∃ N, N = (l5).length + (outI [gid, hol]).length := ⟨_, rfl⟩; rw [← hN] at hv; subst hv; clear hN; have HK6 := Lib.hid (kp_own HOn.out HKn.out k6); have HX6 := Lib.hid (HXn.out.kp k6 (own_ne HOn.out HXn.out (by decide))); have HL6 := Lib.hid (show (l5 ++ outI [gid, hol]).length ≤ 27 by rw [List.length_append]; have h1 := HL5.out; have h2 := HNB.out; omega); clear o6 k6)
    clear hsz HOn HKn HAn HXn HNB KN
    have y2 : w6.cell? ⟨x5, 2, none⟩ = some (.string ⟨path.toArray⟩) := HX6.out.cell 2
    have pn : Calls Try.prog 59 #[.string ⟨path.toArray⟩] w6 fun e w' => ∃ v, e = .returned v ∧ OwnB w' w6.heap.size v (textS path) ∧ Kp No w6 w' := refText_any ⟨path.toArray⟩ w6 (by have := HPL.out; simp [ByteArray.size]; omega)
    go_wp2_with fail
    refine pn.mono ?_
    rintro e v7 ⟨nv, rfl, on, kn⟩
    obtain ⟨An, cn, rfl, _⟩ := own_len on
    have KN := Lib.hid (kn)
    have HOn := Lib.hid (HO6.out.no KN.out); have HKn := Lib.hid (HK6.out.trans KN.out); have HAn := Lib.hid (own_argB on); have HXn := Lib.hid (HX6.out.no KN.out)
    have hnb : (textS path).length ≤ 37 := by have h1 := HPL.out; have h2 := numS_len 8 path.length (by omega); show (textS path).length ≤ 37; simp only [textS, List.length_append]; omega
    have HNB := Lib.hid hnb
    have hsz := HKn.out.size
    clear pn on kn hnb y2
    go_upto_region 14 with (at_builtin; go_must (refine wpList_appV _ rfl _ _ 46 rfl w1.heap.size 5 _ 1 Try.underlying46 Try.infoByte rfl _ (l5 ++ outI [gid, hol]).length (u8s (l5 ++ outI [gid, hol])) rfl HOn.out An (textS path).length cn (u8s (textS path)) rfl (by simp) HAn.out.cs.1 (u8s_one _) (by have h1 := HL6.out; have h2 := HNB.out; omega) (by have h1 := HL6.out; have h2 := HNB.out; omega) hsz ?_); intro vv7 w7 o7 k7 _; have HO7 := Lib.hid (show OwnB w7 w1.heap.size vv7 (l5 ++ outI [gid, hol] ++ textS path) from own_of o7 rfl); obtain ⟨AA7, cc7, hv, _⟩ := own_len o7; obtain ⟨N7, hN⟩ : ∃ N, N = (l5 ++ outI [gid, hol]).length + (textS path).length := ⟨_, rfl⟩; rw [← hN] at hv; subst hv; clear hN; have HK7 := Lib.hid (kp_own HOn.out HKn.out k7); have HX7 := Lib.hid (HXn.out.kp k7 (own_ne HOn.out HXn.out (by decide))); have HL7 := Lib.hid (show (l5 ++ outI [gid, hol] ++ textS path).length ≤ 64 by rw [List.length_append]; have h1 := HL6.out; have h2 := HNB.out; omega); clear o7 k7)
    clear hsz HOn HKn HAn HXn HNB KN
    have y3 : w7.cell? ⟨x5, 3, none⟩ = some (.int .i64 mode) := HX7.out.cell 3
    have y4 : w7.cell? ⟨x5, 4, none⟩ = some (.slice A st.length c) := HX7.out.cell 4
    have y5 : w7.cell? ⟨x5, 5, none⟩ = some (.int .i64 term) := HX7.out.cell 5
    have pn := refNums_any (.slice (some ⟨w7.heap.size, 0, none⟩) 3 3) [mode, term, (st.length : Int)] (w7.alloc (.cells #[.int .i64 mode, .int .i64 term, .int .i64 ((st.length : Int))] 3)) (argI_blk (L := [mode, term, (st.length : Int)]) (Bk.new' rfl rfl) rfl) (by simp) (by have hgg := HGG.out; have hsl := HSL.out; intro x hx; simp only [List.mem_cons, List.not_mem_nil, or_false] at hx; rcases hx with rfl | rfl | rfl <;> omega)
    have kal : Kp No w7 (w7.alloc (.cells #[.int .i64 mode, .int .i64 term, .int .i64 ((st.length : Int))] 3)) := (Kp.refl No w7).alloc _
    go_wp2_with fail
    refine pn.mono ?_
    rintro e v8 ⟨nv, rfl, on, kn⟩
    obtain ⟨An, cn, rfl, _⟩ := own_len on
    have KN := Lib.hid (kal.trans kn)
    have HOn := Lib.hid (HO7.out.no KN.out); have HKn := Lib.hid (HK7.out.trans KN.out); have HAn := Lib.hid (own_argB on); have HXn := Lib.hid (HX7.out.no KN.out)
    have hnb : (outI [mode, term, (st.length : Int)]).length ≤ 27 := by have hgg := HGG.out; have hsl := HSL.out; have := outI_len [mode, term, (st.length : Int)] (by intro x hx; simp only [List.mem_cons, List.not_mem_nil, or_false] at hx; rcases hx with rfl | rfl | rfl <;> omega); simpa using this
    have HNB := Lib.hid hnb
    have hsz := HKn.out.size
    clear pn on kn hnb kal y3 y4 y5
    go_upto_region 15 with (at_builtin; go_must (refine wpList_appV _ rfl _ _ 46 rfl w1.heap.size 5 _ 1 Try.underlying46 Try.infoByte rfl _ (l5 ++ outI [gid, hol] ++ textS path).length (u8s (l5 ++ outI [gid, hol] ++ textS path)) rfl HOn.out An (outI [mode, term, (st.length : Int)]).length cn (u8s (outI [mode, term, (st.length : Int)])) rfl (by simp) HAn.out.cs.1 (u8s_one _) (by have h1 := HL7.out; have h2 := HNB.out; omega) (by have h1 := HL7.out; have h2 := HNB.out; omega) hsz ?_); intro vv8 w8 o8 k8 _; have HO8 := Lib.hid (show OwnB w8 w1.heap.size vv8 (l5 ++ outI [gid, hol] ++ textS path ++ outI [mode, term, (st.length : Int)]) from own_of o8 rfl); obtain ⟨AA8, cc8, hv, _⟩ := own_len o8; obtain ⟨N8, hN⟩ : ∃ N, N = (l5 ++ outI [gid, hol] ++ textS path).length + (outI [mode, term, (st.length : Int)]).length := ⟨_, rfl⟩; rw [← hN] at hv; subst hv; clear hN; have HK8 := Lib.hid (kp_own HOn.out HKn.out k8); have HX8 := Lib.hid (HXn.out.kp k8 (own_ne HOn.out HXn.out (by decide))); have HL8 := Lib.hid (show (l5 ++ outI [gid, hol] ++ textS path ++ outI [mode, term, (st.length : Int)]).length ≤ 91 by rw [List.length_append]; have h1 := HL7.out; have h2 := HNB.out; omega); clear o8 k8)
    clear hsz HOn HKn HAn HXn HNB KN
    have y4 : w8.cell? ⟨x5, 4, none⟩ = some (.slice A st.length c) := HX8.out.cell 4
    have pn := refNums_any (.slice A st.length c) st w8 ((fun h : Hid (Kp No w1 _) => HG.out.no (HK1.out.trans h.out)) HK8) (by have h2 := HSL.out; omega) (by exact HSC.out)
    go_wp2_with fail
    refine pn.mono ?_
    rintro e v9 ⟨nv, rfl, on, kn⟩
    obtain ⟨An, cn, rfl, _⟩ := own_len on
    have KN := Lib.hid (kn)
    have HOn := Lib.hid (HO8.out.no KN.out); have HKn := Lib.hid (HK8.out.trans KN.out); have HAn := Lib.hid (own_argB on); have HXn := Lib.hid (HX8.out.no KN.out)
    have hnb : (outI st).length ≤ 36 := by have h1 := outI_len st HSC.out; have h2 := HSL.out; omega
    have HNB := Lib.hid hnb
    have hsz := HKn.out.size
    clear pn on kn hnb y4
    go_upto_region 21 with (at_builtin; go_must (refine wpList_appV _ rfl _ _ 46 rfl w1.heap.size 5 _ 1 Try.underlying46 Try.infoByte rfl _ (l5 ++ outI [gid, hol] ++ textS path ++ outI [mode, term, (st.length : Int)]).length (u8s (l5 ++ outI [gid, hol] ++ textS path ++ outI [mode, term, (st.length : Int)])) rfl HOn.out An (outI st).length cn (u8s (outI st)) rfl (by simp) HAn.out.cs.1 (u8s_one _) (by have h1 := HL8.out; have h2 := HNB.out; omega) (by have h1 := HL8.out; have h2 := HNB.out; omega) hsz ?_); intro vv9 w9 o9 k9 _; have HO9 := Lib.hid (show OwnB w9 w1.heap.size vv9 (l5 ++ outI [gid, hol] ++ textS path ++ outI [mode, term, (st.length : Int)] ++ outI st) from own_of o9 rfl); obtain ⟨AA9, cc9, hv, _⟩ := own_len o9; obtain ⟨N9, hN⟩ : ∃ N, N = (l5 ++ outI [gid, hol] ++ textS path ++ outI [mode, term, (st.length : Int)]).length + (outI st).length := ⟨_, rfl⟩; rw [← hN] at hv; subst hv; clear hN; have HK9 := Lib.hid (kp_own HOn.out HKn.out k9); have HX9 := Lib.hid (HXn.out.kp k9 (own_ne HOn.out HXn.out (by decide))); have HL9 := Lib.hid (show (l5 ++ outI [gid, hol] ++ textS path ++ outI [mode, term, (st.length : Int)] ++ outI st).length ≤ 127 by rw [List.length_append]; have h1 := HL8.out; have h2 := HNB.out; omega); clear o9 k9)
    clear hsz HOn HKn HAn HXn HNB KN
    have HB := Lib.hid (show bodyR ⟨3, ⟨gid, hol, path, mode, st, term⟩, id, stamp, next, boots, longest⟩ = l5 ++ outI [gid, hol] ++ textS path ++ outI [mode, term, (st.length : Int)] ++ outI st by rw [HL5E.out]; simp [bodyR, outI, nS, cS, cntsS, numsS])
    go_wp2
    rw [HQ.out]
    refine ⟨.inr ⟨_, _, HEN.out, rfl, ?_⟩, HK1.out.trans HK9.out⟩
    rw [HB.out]
    exact own_mono HO9.out HK1.out.size
  by_cases e4 : kind = 4
  case pos =>
    subst e4
    clear e1 e2 e3
    have hmg : mayG ⟨gid, hol, path, mode, st, term⟩ := ((mayR_4 rfl).1 HM.out).2.1
    have hgg : (1 ≤ gid ∧ gid ≤ 1099511627776) ∧ (0 ≤ hol ∧ hol < 8) ∧ mode < 9223372036854775808 ∧ term < 9223372036854775808 := by obtain ⟨a1, a2, a3, a4, a5, a6, a7, a8⟩ := hmg; unfold cntI at a1; unfold nodeI at a2; unfold modeI at a4; unfold termI at a8; dsimp only at a1 a2 a4 a8; omega
    have hsl := (cnt_of_valid hmg.2.2.2.2.1).1
    have hsc := (cnt_of_valid hmg.2.2.2.2.1).2
    have HSL := Lib.hid (show st.length ≤ 4 from hsl); have HSC := Lib.hid (show ∀ x ∈ st, x < 9223372036854775808 from fun x hx => by have h := hsc x hx; unfold cntI at h; omega)
    have HGG := Lib.hid hgg
    clear hmg hsl hsc hgg
    have z0 : w5.cell? ⟨W.heap.size, 0, none⟩ = some (.int .i64 4) := (HRF.out w5 HK5.out).cell 0
    have y0 : w5.cell? ⟨x5, 0, none⟩ = some (.int .i64 gid) := HX5.out.cell 0
    have y1 : w5.cell? ⟨x5, 1, none⟩ = some (.int .i64 hol) := HX5.out.cell 1
    have pn := refNums_any (.slice (some ⟨w5.heap.size, 0, none⟩) 2 2) [gid, hol] (w5.alloc (.cells #[.int .i64 gid, .int .i64 hol] 3)) (argI_blk (L := [gid, hol]) (Bk.new' rfl rfl) rfl) (by simp) (by have hgg := HGG.out; intro x hx; simp only [List.mem_cons, List.not_mem_nil, or_false] at hx; rcases hx with rfl | rfl <;> omega)
    have kal : Kp No w5 (w5.alloc (.cells #[.int .i64 gid, .int .i64 hol] 3)) := (Kp.refl No w5).alloc _
    go_wp2_with fail
    refine pn.mono ?_
    rintro e v6 ⟨nv, rfl, on, kn⟩
    obtain ⟨An, cn, rfl, _⟩ := own_len on
    have KN := Lib.hid (kal.trans kn)
    have HOn := Lib.hid (HO5.out.no KN.out); have HKn := Lib.hid (HK5.out.trans KN.out); have HAn := Lib.hid (own_argB on); have HXn := Lib.hid (HX5.out.no KN.out)
    have hnb : (outI [gid, hol]).length ≤ 18 := by have hgg := HGG.out; have := outI_len [gid, hol] (by intro x hx; simp only [List.mem_cons, List.not_mem_nil, or_false] at hx; rcases hx with rfl | rfl <;> omega); simpa using this
    have HNB := Lib.hid hnb
    have hsz := HKn.out.size
    clear pn on kn hnb kal z0 y0 y1
    go_upto_region 13 with (at_builtin; go_must (refine wpList_appV _ rfl _ _ 46 rfl w1.heap.size 5 _ 1 Try.underlying46 Try.infoByte rfl _ (l5).length (u8s (l5)) rfl HOn.out An (outI [gid, hol]).length cn (u8s (outI [gid, hol])) rfl (by simp) HAn.out.cs.1 (u8s_one _) (by have h1 := HL5.out; have h2 := HNB.out; omega) (by have h1 := HL5.out; have h2 := HNB.out; omega) hsz ?_); intro vv6 w6 o6 k6 _; have HO6 := Lib.hid (show OwnB w6 w1.heap.size vv6 (l5 ++ outI [gid, hol]) from own_of o6 rfl); obtain ⟨AA6, cc6, hv, _⟩ := own_len o6; obtain ⟨N6, hN⟩ : ∃ N, N = (l5).length + (outI [gid, hol]).length := ⟨_, rfl⟩; rw [← hN] at hv; subst hv; clear hN; have HK6 := Lib.hid (kp_own HOn.out HKn.out k6); have HX6 := Lib.hid (HXn.out.kp k6 (own_ne HOn.out HXn.out (by decide))); have HL6 := Lib.hid (show (l5 ++ outI [gid, hol]).length ≤ 27 by rw [List.length_append]; have h1 := HL5.out; have h2 := HNB.out; omega); clear o6 k6)
    clear hsz HOn HKn HAn HXn HNB KN
    have y2 : w6.cell? ⟨x5, 2, none⟩ = some (.string ⟨path.toArray⟩) := HX6.out.cell 2
    have pn : Calls Try.prog 59 #[.string ⟨path.toArray⟩] w6 fun e w' => ∃ v, e = .returned v ∧ OwnB w' w6.heap.size v (textS path) ∧ Kp No w6 w' := refText_any ⟨path.toArray⟩ w6 (by have := HPL.out; simp [ByteArray.size]; omega)
    go_wp2_with fail
    refine pn.mono ?_
    rintro e v7 ⟨nv, rfl, on, kn⟩
    obtain ⟨An, cn, rfl, _⟩ := own_len on
    have KN := Lib.hid (kn)
    have HOn := Lib.hid (HO6.out.no KN.out); have HKn := Lib.hid (HK6.out.trans KN.out); have HAn := Lib.hid (own_argB on); have HXn := Lib.hid (HX6.out.no KN.out)
    have hnb : (textS path).length ≤ 37 := by have h1 := HPL.out; have h2 := numS_len 8 path.length (by omega); show (textS path).length ≤ 37; simp only [textS, List.length_append]; omega
    have HNB := Lib.hid hnb
    have hsz := HKn.out.size
    clear pn on kn hnb y2
    go_upto_region 14 with (at_builtin; go_must (refine wpList_appV _ rfl _ _ 46 rfl w1.heap.size 5 _ 1 Try.underlying46 Try.infoByte rfl _ (l5 ++ outI [gid, hol]).length (u8s (l5 ++ outI [gid, hol])) rfl HOn.out An (textS path).length cn (u8s (textS path)) rfl (by simp) HAn.out.cs.1 (u8s_one _) (by have h1 := HL6.out; have h2 := HNB.out; omega) (by have h1 := HL6.out; have h2 := HNB.out; omega) hsz ?_); intro vv7 w7 o7 k7 _; have HO7 := Lib.hid (show OwnB w7 w1.heap.size vv7 (l5 ++ outI [gid, hol] ++ textS path) from own_of o7 rfl); obtain ⟨AA7, cc7, hv, _⟩ := own_len o7; obtain ⟨N7, hN⟩ : ∃ N, N = (l5 ++ outI [gid, hol]).length + (textS path).length := ⟨_, rfl⟩; rw [← hN] at hv; subst hv; clear hN; have HK7 := Lib.hid (kp_own HOn.out HKn.out k7); have HX7 := Lib.hid (HXn.out.kp k7 (own_ne HOn.out HXn.out (by decide))); have HL7 := Lib.hid (show (l5 ++ outI [gid, hol] ++ textS path).length ≤ 64 by rw [List.length_append]; have h1 := HL6.out; have h2 := HNB.out; omega); clear o7 k7)
    clear hsz HOn HKn HAn HXn HNB KN
    have y3 : w7.cell? ⟨x5, 3, none⟩ = some (.int .i64 mode) := HX7.out.cell 3
    have y4 : w7.cell? ⟨x5, 4, none⟩ = some (.slice A st.length c) := HX7.out.cell 4
    have y5 : w7.cell? ⟨x5, 5, none⟩ = some (.int .i64 term) := HX7.out.cell 5
    have pn := refNums_any (.slice (some ⟨w7.heap.size, 0, none⟩) 3 3) [mode, term, (st.length : Int)] (w7.alloc (.cells #[.int .i64 mode, .int .i64 term, .int .i64 ((st.length : Int))] 3)) (argI_blk (L := [mode, term, (st.length : Int)]) (Bk.new' rfl rfl) rfl) (by simp) (by have hgg := HGG.out; have hsl := HSL.out; intro x hx; simp only [List.mem_cons, List.not_mem_nil, or_false] at hx; rcases hx with rfl | rfl | rfl <;> omega)
    have kal : Kp No w7 (w7.alloc (.cells #[.int .i64 mode, .int .i64 term, .int .i64 ((st.length : Int))] 3)) := (Kp.refl No w7).alloc _
    go_wp2_with fail
    refine pn.mono ?_
    rintro e v8 ⟨nv, rfl, on, kn⟩
    obtain ⟨An, cn, rfl, _⟩ := own_len on
    have KN := Lib.hid (kal.trans kn)
    have HOn := Lib.hid (HO7.out.no KN.out); have HKn := Lib.hid (HK7.out.trans KN.out); have HAn := Lib.hid (own_argB on); have HXn := Lib.hid (HX7.out.no KN.out)
    have hnb : (outI [mode, term, (st.length : Int)]).length ≤ 27 := by have hgg := HGG.out; have hsl := HSL.out; have := outI_len [mode, term, (st.length : Int)] (by intro x hx; simp only [List.mem_cons, List.not_mem_nil, or_false] at hx; rcases hx with rfl | rfl | rfl <;> omega); simpa using this
    have HNB := Lib.hid hnb
    have hsz := HKn.out.size
    clear pn on kn hnb kal y3 y4 y5
    go_upto_region 15 with (at_builtin; go_must (refine wpList_appV _ rfl _ _ 46 rfl w1.heap.size 5 _ 1 Try.underlying46 Try.infoByte rfl _ (l5 ++ outI [gid, hol] ++ textS path).length (u8s (l5 ++ outI [gid, hol] ++ textS path)) rfl HOn.out An (outI [mode, term, (st.length : Int)]).length cn (u8s (outI [mode, term, (st.length : Int)])) rfl (by simp) HAn.out.cs.1 (u8s_one _) (by have h1 := HL7.out; have h2 := HNB.out; omega) (by have h1 := HL7.out; have h2 := HNB.out; omega) hsz ?_); intro vv8 w8 o8 k8 _; have HO8 := Lib.hid (show OwnB w8 w1.heap.size vv8 (l5 ++ outI [gid, hol] ++ textS path ++ outI [mode, term, (st.length : Int)]) from own_of o8 rfl); obtain ⟨AA8, cc8, hv, _⟩ := own_len o8; obtain ⟨N8, hN⟩ : ∃ N, N = (l5 ++ outI [gid, hol] ++ textS path).length + (outI [mode, term, (st.length : Int)]).length := ⟨_, rfl⟩; rw [← hN] at hv; subst hv; clear hN; have HK8 := Lib.hid (kp_own HOn.out HKn.out k8); have HX8 := Lib.hid (HXn.out.kp k8 (own_ne HOn.out HXn.out (by decide))); have HL8 := Lib.hid (show (l5 ++ outI [gid, hol] ++ textS path ++ outI [mode, term, (st.length : Int)]).length ≤ 91 by rw [List.length_append]; have h1 := HL7.out; have h2 := HNB.out; omega); clear o8 k8)
    clear hsz HOn HKn HAn HXn HNB KN
    have y4 : w8.cell? ⟨x5, 4, none⟩ = some (.slice A st.length c) := HX8.out.cell 4
    have pn := refNums_any (.slice A st.length c) st w8 ((fun h : Hid (Kp No w1 _) => HG.out.no (HK1.out.trans h.out)) HK8) (by have h2 := HSL.out; omega) (by exact HSC.out)
    go_wp2_with fail
    refine pn.mono ?_
    rintro e v9 ⟨nv, rfl, on, kn⟩
    obtain ⟨An, cn, rfl, _⟩ := own_len on
    have KN := Lib.hid (kn)
    have HOn := Lib.hid (HO8.out.no KN.out); have HKn := Lib.hid (HK8.out.trans KN.out); have HAn := Lib.hid (own_argB on); have HXn := Lib.hid (HX8.out.no KN.out)
    have hnb : (outI st).length ≤ 36 := by have h1 := outI_len st HSC.out; have h2 := HSL.out; omega
    have HNB := Lib.hid hnb
    have hsz := HKn.out.size
    clear pn on kn hnb y4
    go_upto_region 21 with (at_builtin; go_must (refine wpList_appV _ rfl _ _ 46 rfl w1.heap.size 5 _ 1 Try.underlying46 Try.infoByte rfl _ (l5 ++ outI [gid, hol] ++ textS path ++ outI [mode, term, (st.length : Int)]).length (u8s (l5 ++ outI [gid, hol] ++ textS path ++ outI [mode, term, (st.length : Int)])) rfl HOn.out An (outI st).length cn (u8s (outI st)) rfl (by simp) HAn.out.cs.1 (u8s_one _) (by have h1 := HL8.out; have h2 := HNB.out; omega) (by have h1 := HL8.out; have h2 := HNB.out; omega) hsz ?_); intro vv9 w9 o9 k9 _; have HO9 := Lib.hid (show OwnB w9 w1.heap.size vv9 (l5 ++ outI [gid, hol] ++ textS path ++ outI [mode, term, (st.length : Int)] ++ outI st) from own_of o9 rfl); obtain ⟨AA9, cc9, hv, _⟩ := own_len o9; obtain ⟨N9, hN⟩ : ∃ N, N = (l5 ++ outI [gid, hol] ++ textS path ++ outI [mode, term, (st.length : Int)]).length + (outI st).length := ⟨_, rfl⟩; rw [← hN] at hv; subst hv; clear hN; have HK9 := Lib.hid (kp_own HOn.out HKn.out k9); have HX9 := Lib.hid (HXn.out.kp k9 (own_ne HOn.out HXn.out (by decide))); have HL9 := Lib.hid (show (l5 ++ outI [gid, hol] ++ textS path ++ outI [mode, term, (st.length : Int)] ++ outI st).length ≤ 127 by rw [List.length_append]; have h1 := HL8.out; have h2 := HNB.out; omega); clear o9 k9)
    clear hsz HOn HKn HAn HXn HNB KN
    have HB := Lib.hid (show bodyR ⟨4, ⟨gid, hol, path, mode, st, term⟩, id, stamp, next, boots, longest⟩ = l5 ++ outI [gid, hol] ++ textS path ++ outI [mode, term, (st.length : Int)] ++ outI st by rw [HL5E.out]; simp [bodyR, outI, nS, cS, cntsS, numsS])
    go_wp2
    rw [HQ.out]
    refine ⟨.inr ⟨_, _, HEN.out, rfl, ?_⟩, HK1.out.trans HK9.out⟩
    rw [HB.out]
    exact own_mono HO9.out HK1.out.size
  by_cases e5 : kind = 5
  case pos =>
    subst e5
    clear e1 e2 e3 e4
    have hb := (mayR_5 rfl).1 HM.out
    have HSL := Lib.hid (show stamp.length ≤ 4 from (cnt_of_valid hb.2.1.1).1); have HSC := Lib.hid (show ∀ x ∈ stamp, x < 9223372036854775808 from fun x hx => by have h := (cnt_of_valid hb.2.1.1).2 x hx; unfold cntI at h; omega)
    have HGG := Lib.hid (show 1 ≤ id ∧ id ≤ 1099511627776 from hb.1)
    clear hb
    have z0 : w5.cell? ⟨W.heap.size, 0, none⟩ = some (.int .i64 5) := (HRF.out w5 HK5.out).cell 0
    have z7 : w5.cell? ⟨W.heap.size, 7, none⟩ = some (.int .i64 id) := (HRF.out w5 HK5.out).cell 7
    have z8 : w5.cell? ⟨W.heap.size, 8, none⟩ = some (.slice A2 stamp.length c2) := (HRF.out w5 HK5.out).cell 8
    have pn := refNums_any (.slice (some ⟨w5.heap.size, 0, none⟩) 2 2) [id, (stamp.length : Int)] (w5.alloc (.cells #[.int .i64 id, .int .i64 ((stamp.length : Int))] 3)) (argI_blk (L := [id, (stamp.length : Int)]) (Bk.new' rfl rfl) rfl) (by simp) (by have hgg := HGG.out; have hsl := HSL.out; intro x hx; simp only [List.mem_cons, List.not_mem_nil, or_false] at hx; rcases hx with rfl | rfl <;> omega)
    have kal : Kp No w5 (w5.alloc (.cells #[.int .i64 id, .int .i64 ((stamp.length : Int))] 3)) := (Kp.refl No w5).alloc _
    go_wp2_with fail
    refine pn.mono ?_
    rintro e v6 ⟨nv, rfl, on, kn⟩
    obtain ⟨An, cn, rfl, _⟩ := own_len on
    have KN := Lib.hid (kal.trans kn)
    have HOn := Lib.hid (HO5.out.no KN.out); have HKn := Lib.hid (HK5.out.trans KN.out); have HAn := Lib.hid (own_argB on); have HXn := Lib.hid (HX5.out.no KN.out)
    have hnb : (outI [id, (stamp.length : Int)]).length ≤ 18 := by have hgg := HGG.out; have hsl := HSL.out; have := outI_len [id, (stamp.length : Int)] (by intro x hx; simp only [List.mem_cons, List.not_mem_nil, or_false] at hx; rcases hx with rfl | rfl <;> omega); simpa using this
    have HNB := Lib.hid hnb
    have hsz := HKn.out.size
    clear pn on kn hnb kal z0 z7 z8
    go_upto_region 18 with (at_builtin; go_must (refine wpList_appV _ rfl _ _ 46 rfl w1.heap.size 5 _ 1 Try.underlying46 Try.infoByte rfl _ (l5).length (u8s (l5)) rfl HOn.out An (outI [id, (stamp.length : Int)]).length cn (u8s (outI [id, (stamp.length : Int)])) rfl (by simp) HAn.out.cs.1 (u8s_one _) (by have h1 := HL5.out; have h2 := HNB.out; omega) (by have h1 := HL5.out; have h2 := HNB.out; omega) hsz ?_); intro vv6 w6 o6 k6 _; have HO6 := Lib.hid (show OwnB w6 w1.heap.size vv6 (l5 ++ outI [id, (stamp.length : Int)]) from own_of o6 rfl); obtain ⟨AA6, cc6, hv, _⟩ := own_len o6; obtain ⟨N6, hN⟩ : ∃ N, N = (l5).length + (outI [id, (stamp.length : Int)]).length := ⟨_, rfl⟩; rw [← hN] at hv; subst hv; clear hN; have HK6 := Lib.hid (kp_own HOn.out HKn.out k6); have HX6 := Lib.hid (HXn.out.kp k6 (own_ne HOn.out HXn.out (by decide))); have HL6 := Lib.hid (show (l5 ++ outI [id, (stamp.length : Int)]).length ≤ 27 by rw [List.length_append]; have h1 := HL5.out; have h2 := HNB.out; omega); clear o6 k6)
    clear hsz HOn HKn HAn HXn HNB KN
    have z8 : w6.cell? ⟨W.heap.size, 8, none⟩ = some (.slice A2 stamp.length c2) := (HRF.out w6 HK6.out).cell 8
    have pn := refNums_any (.slice A2 stamp.length c2) stamp w6 ((fun h : Hid (Kp No w1 _) => HS.out.no (HK1.out.trans h.out)) HK6) (by have h2 := HSL.out; omega) (by exact HSC.out)
    go_wp2_with fail
    refine pn.mono ?_
    rintro e v7 ⟨nv, rfl, on, kn⟩
    obtain ⟨An, cn, rfl, _⟩ := own_len on
    have KN := Lib.hid (kn)
    have HOn := Lib.hid (HO6.out.no KN.out); have HKn := Lib.hid (HK6.out.trans KN.out); have HAn := Lib.hid (own_argB on); have HXn := Lib.hid (HX6.out.no KN.out)
    have hnb : (outI stamp).length ≤ 36 := by have h1 := outI_len stamp HSC.out; have h2 := HSL.out; omega
    have HNB := Lib.hid hnb
    have hsz := HKn.out.size
    clear pn on kn hnb z8
    go_upto_region 21 with (at_builtin; go_must (refine wpList_appV _ rfl _ _ 46 rfl w1.heap.size 5 _ 1 Try.underlying46 Try.infoByte rfl _ (l5 ++ outI [id, (stamp.length : Int)]).length (u8s (l5 ++ outI [id, (stamp.length : Int)])) rfl HOn.out An (outI stamp).length cn (u8s (outI stamp)) rfl (by simp) HAn.out.cs.1 (u8s_one _) (by have h1 := HL6.out; have h2 := HNB.out; omega) (by have h1 := HL6.out; have h2 := HNB.out; omega) hsz ?_); intro vv7 w7 o7 k7 _; have HO7 := Lib.hid (show OwnB w7 w1.heap.size vv7 (l5 ++ outI [id, (stamp.length : Int)] ++ outI stamp) from own_of o7 rfl); obtain ⟨AA7, cc7, hv, _⟩ := own_len o7; obtain ⟨N7, hN⟩ : ∃ N, N = (l5 ++ outI [id, (stamp.length : Int)]).length + (outI stamp).length := ⟨_, rfl⟩; rw [← hN] at hv; subst hv; clear hN; have HK7 := Lib.hid (kp_own HOn.out HKn.out k7); have HX7 := Lib.hid (HXn.out.kp k7 (own_ne HOn.out HXn.out (by decide))); have HL7 := Lib.hid (show (l5 ++ outI [id, (stamp.length : Int)] ++ outI stamp).length ≤ 63 by rw [List.length_append]; have h1 := HL6.out; have h2 := HNB.out; omega); clear o7 k7)
    clear hsz HOn HKn HAn HXn HNB KN
    have HB := Lib.hid (show bodyR ⟨5, ⟨gid, hol, path, mode, st, term⟩, id, stamp, next, boots, longest⟩ = l5 ++ outI [id, (stamp.length : Int)] ++ outI stamp by rw [HL5E.out]; simp [bodyR, outI, nS, cS, cntsS, numsS])
    go_wp2
    rw [HQ.out]
    refine ⟨.inr ⟨_, _, HEN.out, rfl, ?_⟩, HK1.out.trans HK7.out⟩
    rw [HB.out]
    exact own_mono HO7.out HK1.out.size
  by_cases e6 : kind = 6
  case pos =>
    subst e6
    clear e1 e2 e3 e4 e5
    have hb := (mayR_6 rfl).1 HM.out
    have hbn : 1 ≤ id ∧ id ≤ 1099511627776 := hb.1
    clear hb
    have z0 : w5.cell? ⟨W.heap.size, 0, none⟩ = some (.int .i64 6) := (HRF.out w5 HK5.out).cell 0
    have z7 : w5.cell? ⟨W.heap.size, 7, none⟩ = some (.int .i64 id) := (HRF.out w5 HK5.out).cell 7
    have pn := refNums_any (.slice (some ⟨w5.heap.size, 0, none⟩) 1 1) [id] (w5.alloc (.cells #[.int .i64 id] 3)) (argI_blk (L := [id]) (Bk.new' rfl rfl) rfl) (by simp) (by intro x hx; simp only [List.mem_cons, List.not_mem_nil, or_false] at hx; rcases hx with rfl <;> omega)
    have kal : Kp No w5 (w5.alloc (.cells #[.int .i64 id] 3)) := (Kp.refl No w5).alloc _
    go_wp2_with fail
    refine pn.mono ?_
    rintro e v6 ⟨nv, rfl, on, kn⟩
    obtain ⟨An, cn, rfl, _⟩ := own_len on
    have KN := Lib.hid (kal.trans kn)
    have HOn := Lib.hid (HO5.out.no KN.out); have HKn := Lib.hid (HK5.out.trans KN.out); have HAn := Lib.hid (own_argB on); have HXn := Lib.hid (HX5.out.no KN.out)
    have hnb : (outI [id]).length ≤ 9 := by have := outI_len [id] (by intro x hx; simp only [List.mem_cons, List.not_mem_nil, or_false] at hx; rcases hx with rfl <;> omega); simpa using this
    have HNB := Lib.hid hnb
    have hsz := HKn.out.size
    clear pn on kn hnb kal z0 z7
    clear hbn
    go_upto_region 21 with (at_builtin; go_must (refine wpList_appV _ rfl _ _ 46 rfl w1.heap.size 5 _ 1 Try.underlying46 Try.infoByte rfl _ (l5).length (u8s (l5)) rfl HOn.out An (outI [id]).length cn (u8s (outI [id])) rfl (by simp) HAn.out.cs.1 (u8s_one _) (by have h1 := HL5.out; have h2 := HNB.out; omega) (by have h1 := HL5.out; have h2 := HNB.out; omega) hsz ?_); intro vv6 w6 o6 k6 _; have HO6 := Lib.hid (show OwnB w6 w1.heap.size vv6 (l5 ++ outI [id]) from own_of o6 rfl); obtain ⟨AA6, cc6, hv, _⟩ := own_len o6; obtain ⟨N6, hN⟩ : ∃ N, N = (l5).length + (outI [id]).length := ⟨_, rfl⟩; rw [← hN] at hv; subst hv; clear hN; have HK6 := Lib.hid (kp_own HOn.out HKn.out k6); have HX6 := Lib.hid (HXn.out.kp k6 (own_ne HOn.out HXn.out (by decide))); have HL6 := Lib.hid (show (l5 ++ outI [id]).length ≤ 18 by rw [List.length_append]; have h1 := HL5.out; have h2 := HNB.out; omega); clear o6 k6)
    clear hsz HOn HKn HAn HXn HNB KN
    have HB := Lib.hid (show bodyR ⟨6, ⟨gid, hol, path, mode, st, term⟩, id, stamp, next, boots, longest⟩ = l5 ++ outI [id] by rw [HL5E.out]; simp [bodyR, outI, nS])
    go_wp2
    rw [HQ.out]
    refine ⟨.inr ⟨_, _, HEN.out, rfl, ?_⟩, HK1.out.trans HK6.out⟩
    rw [HB.out]
    exact own_mono HO6.out HK1.out.size
  by_cases e7 : kind = 7
  case pos =>
    subst e7
    clear e1 e2 e3 e4 e5 e6
    have z0 : w5.cell? ⟨W.heap.size, 0, none⟩ = some (.int .i64 7) := (HRF.out w5 HK5.out).cell 0
    go_upto_region 21 with (fail)
    have HB := Lib.hid (show bodyR ⟨7, ⟨gid, hol, path, mode, st, term⟩, id, stamp, next, boots, longest⟩ = l5 by rw [HL5E.out]; simp [bodyR, outI, nS])
    go_wp2
    rw [HQ.out]
    refine ⟨.inr ⟨_, _, HEN.out, rfl, ?_⟩, HK1.out.trans HK5.out⟩
    rw [HB.out]
    exact own_mono HO5.out HK1.out.size
  exact absurd (mayR_kind HM.out) (by simp [e1, e2, e3, e4, e5, e6, e7])
end Go.Proofs.Ytifdceofglocdaa
