/- Several texts of this claim in one. No condition beyond what each theorem states. -/
import Derived.Test.YtifdceofglocdaaB11
import Derived.Test.YtifdceofglocdaaB13
import Derived.Test.YtifdceofglocdaaB16
import Derived.Test.YtifdceofglocdaaB18
import Derived.Test.YtifdceofglocdaaB10
import Derived.Test.YtifdceofglocdaaB06
import Derived.ProofKit
import Derived.PlainAid
import Derived.WideShapes
import Derived.OpenShut
import Derived.ChangeOld
import Derived.SizedLaws
import Derived.Deep.Fields
import Derived.ChangeArms
import Derived.Test.YtifdceofglocdaaB03
/- The document's CopyGrant and Copy, the law's own and ownRec by contract. No condition beyond what each theorem states. -/
namespace Go.Proofs.Ytifdceofglocdaa
open Go Go.RowKit Go.PlainAid

set_option maxRecDepth 100000 in
set_option maxHeartbeats 4000000 in
theorem copyG_any (p : GP) (W : World) (hs : ArgInts W p.2 p.1.stamp) (hl : p.1.stamp.length ≤ 17592186043904) :
    Calls Try.prog 37 #[.agg (pC p).toArray] W fun e w' => ∃ sv, e = .returned (.agg (pC (p.1, sv)).toArray) ∧ w'.ownsRow W.heap.size 3 1 sv p.1.stamp.length (ints p.1.stamp) ∧ Kp No W w' := by
  obtain ⟨⟨gid, hol, path, mode, st, term⟩, sv⟩ := p
  have hs : ArgInts W sv st := hs
  have hl : st.length ≤ 17592186043904 := hl
  obtain ⟨A0, c0, rfl, _⟩ : ∃ A c, sv = .slice A st.length c ∧ st.length ≤ c := by obtain ⟨A, c, e, hc, _⟩ := hs; exact ⟨A, c, e, hc⟩
  obtain ⟨w2, hw2⟩ : ∃ w2, w2 = (W.alloc (.cells #[.int .i64 gid, .int .i64 hol, .string ⟨path.toArray⟩, .int .i64 mode, .slice A0 st.length c0, .int .i64 term] 30)).alloc (.cells #[.int .i64 0, .int .i64 0, .string ⟨#[]⟩, .int .i64 0, .slice none 0 0, .int .i64 0] 30) := ⟨_, rfl⟩
  have HB1 := Lib.hid (show Bk w2 W.heap.size 30 [.int .i64 gid, .int .i64 hol, .string ⟨path.toArray⟩, .int .i64 mode, .slice A0 st.length c0, .int .i64 term] by rw [hw2]; exact (Bk.new' rfl rfl).alloc _)
  have HB2 := Lib.hid (show Bk w2 (W.heap.size + 1) 30 [.int .i64 0, .int .i64 0, .string ⟨#[]⟩, .int .i64 0, .slice none 0 0, .int .i64 0] by rw [hw2]; exact Bk.new' (by simp) rfl)
  have HK2 := Lib.hid (show Kp No W w2 by rw [hw2]; exact ((Kp.refl No W).alloc _).alloc _)
  have pc := copyS_any (.slice A0 st.length c0) st w2 (hs.no HK2.out) hl
  have HW := Lib.hid hw2
  clear hw2 hs hl
  have z4 : w2.cell? ⟨W.heap.size, 4, none⟩ = some (.slice A0 st.length c0) := HB1.out.cell 4
  simp only [pC]
  go_enter Try.func37, Try.ntmps37
  go_upto_region 1 with (fail)
  rw [← HW.out]
  clear HW
  go_wp2_with fail
  refine pc.mono ?_
  rintro e w3 ⟨r, rfl, o3, k3⟩
  have HO3 := Lib.hid o3; have HK3 := Lib.hid k3
  obtain ⟨A3, c3, rfl, _⟩ := own_len o3
  have B1 := HB1.out.no k3; have B2 := HB2.out.no k3
  clear o3 k3 z4 pc
  have y0 : w3.cell? ⟨W.heap.size, 0, none⟩ = some (.int .i64 gid) := B1.cell 0
  have y1 : w3.cell? ⟨W.heap.size, 1, none⟩ = some (.int .i64 hol) := B1.cell 1
  have y2 : w3.cell? ⟨W.heap.size, 2, none⟩ = some (.string ⟨path.toArray⟩) := B1.cell 2
  have y3 : w3.cell? ⟨W.heap.size, 3, none⟩ = some (.int .i64 mode) := B1.cell 3
  have y4 : w3.cell? ⟨W.heap.size, 4, none⟩ = some (.slice A0 st.length c0) := B1.cell 4
  have y5 : w3.cell? ⟨W.heap.size, 5, none⟩ = some (.int .i64 term) := B1.cell 5
  have f4 := B1.frozen 4
  have u0 : w3.cell? ⟨W.heap.size + 1, 0, none⟩ = some (.int .i64 0) := B2.cell 0
  have u1 : w3.cell? ⟨W.heap.size + 1, 1, none⟩ = some (.int .i64 0) := B2.cell 1
  have u2 : w3.cell? ⟨W.heap.size + 1, 2, none⟩ = some (.string ⟨#[]⟩) := B2.cell 2
  have u3 : w3.cell? ⟨W.heap.size + 1, 3, none⟩ = some (.int .i64 0) := B2.cell 3
  have u4 : w3.cell? ⟨W.heap.size + 1, 4, none⟩ = some (.slice none 0 0) := B2.cell 4
  have u5 : w3.cell? ⟨W.heap.size + 1, 5, none⟩ = some (.int .i64 0) := B2.cell 5
  have v0 := B2.frozen 0; have v1 := B2.frozen 1; have v2 := B2.frozen 2; have v3 := B2.frozen 3; have v4 := B2.frozen 4; have v5 := B2.frozen 5
  have HB1 := Lib.hid B1; have HB2 := Lib.hid B2
  clear B1 B2
  go_wp2
  have B9 := ((((((HB2.out.far (p := ⟨W.heap.size, 4, none⟩) (by show W.heap.size + 1 ≠ W.heap.size; omega) (.slice A3 st.length c3)).set_ 0 (.int .i64 gid)).set_ 1 (.int .i64 hol)).set_ 2 (.string ⟨path.toArray⟩)).set_ 3 (.int .i64 mode)).set_ 4 (.slice A3 st.length c3)).set_ 5 (.int .i64 term)
  have K9 : Kp (fun k => k = W.heap.size ∨ k = W.heap.size + 1) w3 _ := ((((((((Kp.refl (fun k => k = W.heap.size ∨ k = W.heap.size + 1) w3).set (g := W.heap.size) (.inl (.inl rfl)) 4 (.slice A3 st.length c3)).set (g := W.heap.size + 1) (.inl (.inr rfl)) 0 (.int .i64 gid)).set (g := W.heap.size + 1) (.inl (.inr rfl)) 1 (.int .i64 hol)).set (g := W.heap.size + 1) (.inl (.inr rfl)) 2 (.string ⟨path.toArray⟩)).set (g := W.heap.size + 1) (.inl (.inr rfl)) 3 (.int .i64 mode)).set (g := W.heap.size + 1) (.inl (.inr rfl)) 4 (.slice A3 st.length c3)).set (g := W.heap.size + 1) (.inl (.inr rfl)) 5 (.int .i64 term))
  generalize hw9 : World.setCell _ ⟨W.heap.size + 1, 5, none⟩ _ = w9 at B9 K9 ⊢
  have x0 : w9.cell? ⟨W.heap.size + 1, 0, none⟩ = some (.int .i64 gid) := B9.cell 0
  have x1 : w9.cell? ⟨W.heap.size + 1, 1, none⟩ = some (.int .i64 hol) := B9.cell 1
  have x2 : w9.cell? ⟨W.heap.size + 1, 2, none⟩ = some (.string ⟨path.toArray⟩) := B9.cell 2
  have x3 : w9.cell? ⟨W.heap.size + 1, 3, none⟩ = some (.int .i64 mode) := B9.cell 3
  have x4 : w9.cell? ⟨W.heap.size + 1, 4, none⟩ = some (.slice A3 st.length c3) := B9.cell 4
  have x5 : w9.cell? ⟨W.heap.size + 1, 5, none⟩ = some (.int .i64 term) := B9.cell 5
  have HN := Lib.hid (show ∀ k, (Value.slice A3 st.length c3).ownBlock = some k → ¬ (k = W.heap.size ∨ k = W.heap.size + 1) from fun k e => by
    obtain ⟨cs, hb⟩ := own_bk HO3.out k e
    rintro (rfl | rfl)
    · exact hb.ne_ HB1.out (by decide) rfl
    · exact hb.ne_ HB2.out (by decide) rfl)
  refine bodyPost_ret (v := .agg #[.int .i64 gid, .int .i64 hol, .string ⟨path.toArray⟩, .int .i64 mode, .slice A3 st.length c3, .int .i64 term]) (by simp [results, Try.results37, go_sem, x0, x1, x2, x3, x4, x5]) rfl ?_
  exact ⟨_, rfl, own_mono (own_kp HO3.out K9 HN.out) HK2.out.size, (HK2.out.trans HK3.out).then_ K9 fun j hj e => by omega⟩


set_option maxRecDepth 100000 in
set_option maxHeartbeats 8000000 in
theorem rcopy_any (n k t : Int) (v : Value) (l : List GP) (W : World) (hv : ArgG W v l) (hl : l.length ≤ 1954687338211) (hst : ∀ p ∈ l, p.1.stamp.length ≤ 17592186043904) :
    Calls Try.prog 36 #[.agg #[.int .i64 n, .int .i64 k, .int .i64 t, v]] W fun e w' => ∃ sv l', e = .returned (.agg #[.int .i64 n, .int .i64 k, .int .i64 t, sv]) ∧ gsL l' = gsL l ∧ OwnG w' W.heap.size sv l' ∧ Kp No W w' := by
  have HV := Lib.hid hv
  obtain ⟨A, c, rfl, _⟩ := hv.len
  obtain ⟨x2, hx2⟩ : ∃ x2, x2 = W.heap.size + 1 + 1 := ⟨_, rfl⟩
  obtain ⟨w3, hw3⟩ : ∃ w3, w3 = ((W.alloc (.cells #[.int .i64 n, .int .i64 k, .int .i64 t, .slice A l.length c] 25)).alloc (.cells #[.int .i64 0, .int .i64 0, .int .i64 0, .slice none 0 0] 25)).alloc (.cells #[.int .i64 n, .int .i64 k, .int .i64 t, .slice none 0 0] 25) := ⟨_, rfl⟩
  have HB0 := Lib.hid (show Bk w3 W.heap.size 25 [.int .i64 n, .int .i64 k, .int .i64 t, .slice A l.length c] by rw [hw3]; exact ((Bk.new' rfl rfl).alloc _).alloc _)
  have HB1 := Lib.hid (show Bk w3 (W.heap.size + 1) 25 [.int .i64 0, .int .i64 0, .int .i64 0, .slice none 0 0] by rw [hw3]; exact (Bk.new' (by simp) rfl).alloc _)
  have HB2 := Lib.hid (show Bk w3 x2 25 [.int .i64 n, .int .i64 k, .int .i64 t, .slice none 0 0] by rw [hw3, hx2]; exact Bk.new' (by simp) rfl)
  have HK3 := Lib.hid (show Kp No W w3 by rw [hw3]; exact (((Kp.refl No W).alloc _).alloc _).alloc _)
  have HST := Lib.hid hst
  have HW := Lib.hid hw3
  have HX2 := Lib.hid hx2
  clear hw3 hv hst
  go_enter Try.func36, Try.ntmps36
  go_upto_region 2 with (fail)
  rw [← HW.out, ← hx2]
  clear HW hx2
  go_wp2
  go_loopw [4] (fun i wr => ∃ (j : Nat) (m : List GP) (o : Value), j ≤ l.length ∧ i = .int .i64 j ∧ gsL m = gsL (l.take j) ∧ Bk wr x2 25 [.int .i64 n, .int .i64 k, .int .i64 t, o] ∧ OwnG wr w3.heap.size o m ∧ Kp (One x2) w3 wr) (fun i _ => l.length - (intOf i).toNat)
  case atStart => exact ⟨0, [], _, Nat.zero_le _, rfl, rfl, HB2.out, OwnG.nil _ _, Kp.refl _ _⟩
  case round =>
    obtain ⟨j, m, ov, hj, rfl, hm, hb, hO, hK⟩ := hrel
    obtain ⟨A5, c5, rfl, _⟩ := own_len hO.1
    have HM := Lib.hid hm; have HO := Lib.hid hO; have HK := Lib.hid hK; have HB := Lib.hid hb
    have kW : Kp No W wr := HK3.out.then_ HK.out fun i hi e => by have h1 : i = x2 := e; have h2 := HX2.out; omega
    have HKW := Lib.hid kW
    have h0 : W.heap.size ≠ x2 := by have := HX2.out; omega
    have hB0 := HB0.out.kp HK.out h0
    have HB0r := Lib.hid hB0
    have a3 : wr.cell? ⟨W.heap.size, 3, none⟩ = some (.slice A l.length c) := hB0.cell 3
    clear hm hO hK hb kW h0 hB0
    by_cases hlt : j < l.length
    · have hk0 : (0 : Int) ≤ (j : Int) := by omega
      have hk1 : (j : Int) < (l.length : Int) := by omega
      obtain ⟨g, o, gid, hol, path, mode, st, term, B, d, rfl, el, ha, hml, y0, y1, y2, y3, y4, y5⟩ := (HV.out.no HKW.out).cells hlt
      have hst := HST.out _ hml
      have HS1 := Lib.hid (gsL_snoc hlt)
      rw [el] at HS1 hst
      have hst2 : st.length ≤ 17592186043904 := hst
      have hgW : g < W.heap.size := by
        obtain ⟨_, _, e1, _, h5, _⟩ := HV.out
        injection e1 with e1 _ _
        obtain ⟨g', o', e2, h6, _⟩ := h5 (fun e => by rw [e] at hlt; exact absurd hlt (Nat.not_lt_zero _))
        rw [← e1] at e2
        injection e2 with e2
        injection e2 with e2 _ _
        omega
      have hmj : m.length = j := by
        have := congrArg List.length HM.out
        rw [gsL_len, gsL_len, List.length_take] at this
        omega
      have hmb : m.length + 1 ≤ 1954687338211 := by omega
      have HMJ := Lib.hid hmj
      clear hmj
      have pt := fun W2 (kk : Kp No wr W2) => (copyG_any (⟨gid, hol, path, mode, st, term⟩, .slice B st.length d) W2 (ha.no kk) hst2).mono fun e w' ⟨sv, h1, h2, h3⟩ => (⟨sv, h1, own_mono h2 (Nat.le_trans HK.out.size kk.size), kk.trans h3⟩ : ∃ sv, e = Ending.returned (.agg #[.int .i64 gid, .int .i64 hol, .string ⟨path.toArray⟩, .int .i64 mode, sv, .int .i64 term]) ∧ w'.ownsRow w3.heap.size 3 1 sv st.length (ints st) ∧ Kp No wr w')
      simp only [pC] at pt
      have hn2 : ¬ (Value.slice A5 m.length c5).ownBlock = some x2 := own_ne HO.out.1 HB.out (by decide)
      have hn0 : ¬ (Value.slice A5 m.length c5).ownBlock = some W.heap.size := own_ne HO.out.1 HB0r.out (by decide)
      have hng : ¬ (Value.slice A5 m.length c5).ownBlock = some g := fun e => by have h1 := (HO.out.1.lt g e).1; have h2 := HK3.out.size; omega
      have hsw : w3.heap.size ≤ wr.heap.size := HK.out.size
      have HY := Lib.hid (And.intro y0 (And.intro y1 (And.intro y2 (And.intro y3 (And.intro y4 y5)))))
      have pres : ∀ {W2 : World} (kk : Kp (fun k => (Value.slice A5 m.length c5).ownBlock = some k) wr W2) (q : Nat) (u : Value), wr.cell? ⟨g, q, none⟩ = some u → W2.cell? ⟨g, q, none⟩ = some u := fun {W2} kk q u h => by
        rw [World.cell?_of_block (kk.block g (World.block_lt_of_cell? wr _ h) hng)]; exact h
      have sk : ∀ W2, Kp (fun k => (Value.slice A5 m.length c5).ownBlock = some k) wr W2 → W2.cell? ⟨x2, 3, none⟩ = some (.slice A5 m.length c5) ∧ W2.cell? ⟨W.heap.size, 3, none⟩ = some (.slice (some ⟨g, o, none⟩) l.length c) ∧ W2.cell? ⟨g, o + j * 6, none⟩ = some (.int .i64 gid) ∧ W2.cell? ⟨g, o + j * 6 + 1, none⟩ = some (.int .i64 hol) ∧ W2.cell? ⟨g, o + j * 6 + 2, none⟩ = some (.string ⟨path.toArray⟩) ∧ W2.cell? ⟨g, o + j * 6 + 3, none⟩ = some (.int .i64 mode) ∧ W2.cell? ⟨g, o + j * 6 + 4, none⟩ = some (.slice B st.length d) ∧ W2.cell? ⟨g, o + j * 6 + 5, none⟩ = some (.int .i64 term) := fun W2 kk => ⟨(HB.out.kp kk hn2).cell 3, (HB0r.out.kp kk hn0).cell 3, pres kk _ _ HY.out.1, pres kk _ _ HY.out.2.1, pres kk _ _ HY.out.2.2.1, pres kk _ _ HY.out.2.2.2.1, pres kk _ _ HY.out.2.2.2.2.1, pres kk _ _ HY.out.2.2.2.2.2⟩
      clear hlt ha hml el hst
      go_upto_region 5 with (fail)
      have hF := sk _ ((Kp.refl No wr).drew.of_no)
      refine rg_begin (fun W2 => W2.cell? ⟨x2, 3, none⟩ = some (.slice A5 m.length c5) ∧ W2.cell? ⟨W.heap.size, 3, none⟩ = some (.slice (some ⟨g, o, none⟩) l.length c) ∧ W2.cell? ⟨g, o + j * 6, none⟩ = some (.int .i64 gid) ∧ W2.cell? ⟨g, o + j * 6 + 1, none⟩ = some (.int .i64 hol) ∧ W2.cell? ⟨g, o + j * 6 + 2, none⟩ = some (.string ⟨path.toArray⟩) ∧ W2.cell? ⟨g, o + j * 6 + 3, none⟩ = some (.int .i64 mode) ∧ W2.cell? ⟨g, o + j * 6 + 4, none⟩ = some (.slice B st.length d) ∧ W2.cell? ⟨g, o + j * 6 + 5, none⟩ = some (.int .i64 term)) 11 (by kernel_rfl) ?_
      refine rg_take (i := 0) (v := ?vp0) (by simp only [List.getElem?_toArray, List.getElem?_cons_zero]; rfl) (by kernel_rfl) (by exact fun _ _ _ h => h) (by rfl) ?rp0 hF ?sp0
      case rp0 => (intro W hW; clear hW; go_simp; try with_reducible rfl)
      try simp only [Act.put, List.setIfInBounds_toArray, List.set_cons_zero, List.set_cons_succ]
      refine rg_take (i := 1) (v := ?vp1) (by simp only [List.getElem?_toArray, List.getElem?_cons_succ, List.getElem?_cons_zero]; rfl) (by kernel_rfl) (by exact fun _ _ _ h => h) (by rfl) ?rp1 hF ?sp1
      case rp1 => (intro W hW; obtain ⟨f1, f2, f3, f4, f5, f6, f7, f8⟩ := hW; go_simp; try with_reducible rfl)
      try simp only [Act.put, List.setIfInBounds_toArray, List.set_cons_zero, List.set_cons_succ]
      refine rg_take (i := 2) (v := ?vp2) (by simp only [List.getElem?_toArray, List.getElem?_cons_succ, List.getElem?_cons_zero]; rfl) (by kernel_rfl) (by exact fun _ _ _ h => h) (by rfl) ?rp2 hF ?sp2
      case rp2 => (intro W hW; clear hW; go_simp; try with_reducible rfl)
      try simp only [Act.put, List.setIfInBounds_toArray, List.set_cons_zero, List.set_cons_succ]
      refine rg_take (i := 3) (v := ?vp3) (by simp only [List.getElem?_toArray, List.getElem?_cons_succ, List.getElem?_cons_zero]; rfl) (by kernel_rfl) (by exact fun _ _ _ h => h) (by rfl) ?rp3 hF ?sp3
      case rp3 => (intro W hW; obtain ⟨f1, f2, f3, f4, f5, f6, f7, f8⟩ := hW; go_simp; try with_reducible rfl)
      try simp only [Act.put, List.setIfInBounds_toArray, List.set_cons_zero, List.set_cons_succ]
      refine rg_take (i := 4) (v := ?vp4) (by simp only [List.getElem?_toArray, List.getElem?_cons_succ, List.getElem?_cons_zero]; rfl) (by kernel_rfl) (by exact fun _ _ _ h => h) (by rfl) ?rp4 hF ?sp4
      case rp4 => (intro W hW; clear hW; go_simp; try with_reducible rfl)
      try simp only [Act.put, List.setIfInBounds_toArray, List.set_cons_zero, List.set_cons_succ]
      refine rg_take (i := 5) (v := ?vp5) (by simp only [List.getElem?_toArray, List.getElem?_cons_succ, List.getElem?_cons_zero]; rfl) (by kernel_rfl) (by exact fun _ _ _ h => h) (by rfl) ?rp5 hF ?sp5
      case rp5 => (intro W hW; clear hW; go_simp; try with_reducible rfl)
      try simp only [Act.put, List.setIfInBounds_toArray, List.set_cons_zero, List.set_cons_succ]
      refine rg_take (i := 6) (v := ?vp6) (by simp only [List.getElem?_toArray, List.getElem?_cons_succ, List.getElem?_cons_zero]; rfl) (by kernel_rfl) (by exact fun _ _ _ h => h) (by rfl) ?rp6 hF ?sp6
      case rp6 => (intro W hW; obtain ⟨f1, f2, f3, f4, f5, f6, f7, f8⟩ := hW; go_simp; try with_reducible rfl)
      try simp only [Act.put, List.setIfInBounds_toArray, List.set_cons_zero, List.set_cons_succ]
      refine rg_one (i := 7) (oi := ?op7) ?ap7 ?bp7 ?cp7 ?dp7
      case ap7 => (simp only [List.getElem?_toArray, List.getElem?_cons_succ, List.getElem?_cons_zero]; rfl)
      case bp7 => kernel_rfl
      case cp7 => rfl
      intro K hK
      (go_simp; refine (pt _ (Kp.refl No wr).drew).mono ?_; rintro e w4 ⟨sv, rfl, o4, k4⟩; obtain ⟨A4, c4, rfl, _⟩ := own_len o4; have hr4 := (HO.out.no k4).1; have hsz := k4.size)
      refine rg_use hK (sk _ k4.of_no) (fun hF => ?_)
      clear hK K
      try simp only [Act.put, List.setIfInBounds_toArray, List.set_cons_zero, List.set_cons_succ]
      refine rg_one (i := 8) (oi := ?op8) ?ap8 ?bp8 ?cp8 ?dp8
      case ap8 => (simp only [List.getElem?_toArray, List.getElem?_cons_succ, List.getElem?_cons_zero]; rfl)
      case bp8 => kernel_rfl
      case cp8 => rfl
      intro K hK
      go_simp
      refine rg_use hK (sk _ ((k4.alloc _).of_no)) (fun hF => ?_)
      clear hK K
      try simp only [Act.put, List.setIfInBounds_toArray, List.set_cons_zero, List.set_cons_succ]
      refine rg_one (i := 9) (oi := ?op9) ?ap9 ?bp9 ?cp9 ?dp9
      case ap9 => (simp only [List.getElem?_toArray, List.getElem?_cons_succ, List.getElem?_cons_zero]; rfl)
      case bp9 => kernel_rfl
      case cp9 => rfl
      intro K hK
      (refine wp_app1 _ _ _ 23 rfl w3.heap.size 30 _ 6 72 Try.underlying23 Try.infoGr rfl (by omega) (.slice A5 m.length c5) m.length (pL m) rfl (hr4.alloc _) _ _ _ rfl (Bk.new' (by simp) rfl : Bk _ _ _ [.int .i64 gid, .int .i64 hol, .string ⟨path.toArray⟩, .int .i64 mode, .slice A4 st.length c4, .int .i64 term]) rfl (by simp [Value.oneCell']) (by omega) (by omega) (by simp; omega) ?_; intro g6 cap6 w6 hown6 hk6 hat6; have k6 : Kp (fun k => (Value.slice A5 m.length c5).ownBlock = some k) wr w6 := ((k4.alloc (.cells #[.int .i64 gid, .int .i64 hol, .string ⟨path.toArray⟩, .int .i64 mode, .slice A4 st.length c4, .int .i64 term] 30)).of_no).trans hk6)
      refine rg_use hK (sk _ k6) (fun hF => ?_)
      clear hK K
      try simp only [Act.put, List.setIfInBounds_toArray, List.set_cons_zero, List.set_cons_succ]
      refine rg_take (i := 10) (v := ?vp10) (by simp only [List.getElem?_toArray, List.getElem?_cons_succ, List.getElem?_cons_zero]; rfl) (by kernel_rfl) (by exact fun _ _ _ h => h) (by rfl) ?rp10 hF ?sp10
      case rp10 => (intro W hW; clear hW; go_simp; try with_reducible rfl)
      try simp only [Act.put, List.setIfInBounds_toArray, List.set_cons_zero, List.set_cons_succ]
      refine rg_one (i := 11) (oi := ?op11) ?ap11 ?bp11 ?cp11 ?dp11
      case ap11 => (simp only [List.getElem?_toArray, List.getElem?_cons_succ, List.getElem?_cons_zero]; rfl)
      case bp11 => kernel_rfl
      case cp11 => rfl
      intro K hK
      (have y0 := hF.1; have yf := (HB.out.kp k6 hn2).frozen 3; go_simp)
      refine hK _ _ (fun h => absurd rfl h) ?_
      clear hK K
      try simp only [Act.put, List.setIfInBounds_toArray, List.set_cons_zero, List.set_cons_succ]
      refine rg_done (by kernel_rfl) ?_
      have HO6 := Lib.hid hown6; have HK6 := Lib.hid k6; have HO4 := Lib.hid o4; have HK4 := Lib.hid k4; have HK66 := Lib.hid hk6; have HB6 := Lib.hid (HB.out.kp k6 hn2)
      clear hown6 hk6 hat6 k6 o4 k4 pt sk hn2 hn0 hng pres a3 y0 y1 y2 y3 y4 y5
      go_upto_region 4 with (fail)
      have B7 := HB6.out.set_ 3 (.slice (some ⟨g6, 0, none⟩) (m.length + 1) cap6)
      have O7 : OwnG (w6.setCell ⟨x2, 3, none⟩ (.slice (some ⟨g6, 0, none⟩) (m.length + 1) cap6)) w3.heap.size (.slice (some ⟨g6, 0, none⟩) (m.length + 1) cap6) (m ++ [(⟨gid, hol, path, mode, st, term⟩, .slice A4 st.length c4)]) := by
        have hrow := (HO.out.no HK4.out).1
        refine OwnG.far ⟨?_, fun p hp => ?_⟩ ((Kp.refl (One x2) w6).set (.inl (One.self _)) 3 _) HB6.out (by decide) (by decide)
        · rw [List.length_append, pL_snoc]; exact HO6.out
        · rw [List.mem_append, List.mem_singleton] at hp
          have kal : Kp No w4 (w4.alloc (.cells #[.int .i64 gid, .int .i64 hol, .string ⟨path.toArray⟩, .int .i64 mode, .slice A4 st.length c4, .int .i64 term] 30)) := (Kp.refl No w4).alloc _
          rcases hp with hp | rfl
          · have h1 := (HO.out.no HK4.out).2 p hp
            exact own_kp (own_kp h1 kal fun _ _ q => q) HK66.out (own_apart h1 hrow (by decide))
          · exact own_kp (own_kp HO4.out kal fun _ _ q => q) HK66.out (own_apart HO4.out hrow (by decide))
      have K7 : Kp (One x2) w3 (w6.setCell ⟨x2, 3, none⟩ (.slice (some ⟨g6, 0, none⟩) (m.length + 1) cap6)) := (HK.out.then_ HK6.out fun i hi e => by have := (HO.out.1.lt i e).1; omega).set (.inl (One.self _)) 3 _
      have HB7 := Lib.hid B7; have HO7 := Lib.hid O7; have HK7 := Lib.hid K7
      clear B7 O7 K7
      generalize w6.setCell ⟨x2, 3, none⟩ (.slice (some ⟨g6, 0, none⟩) (m.length + 1) cap6) = w7 at *
      go_wp2
      go_roundw
      case rel =>
        refine ⟨j + 1, _, _, by have := hk1; omega, by go_num, ?_, HB7.out, HO7.out, HK7.out⟩
        rw [HS1.out, ← HM.out]; simp [gsL]
      case measure => simp [intOf]; omega
    · have hk1 : ¬ (j : Int) < (l.length : Int) := by omega
      have hjl : j = l.length := by omega
      have HM := Lib.hid (show gsL m = gsL l by rw [HM.out, hjl, List.take_length])
      clear hlt hjl
      have hx1 : W.heap.size + 1 ≠ x2 := by have := HX2.out; omega
      have HB1r := Lib.hid (HB1.out.kp HK.out hx1)
      have z0 : wr.cell? ⟨x2, 0, none⟩ = some (.int .i64 n) := HB.out.cell 0
      have z1 : wr.cell? ⟨x2, 1, none⟩ = some (.int .i64 k) := HB.out.cell 1
      have z2 : wr.cell? ⟨x2, 2, none⟩ = some (.int .i64 t) := HB.out.cell 2
      have z3 : wr.cell? ⟨x2, 3, none⟩ = some (.slice A5 m.length c5) := HB.out.cell 3
      have u0 : wr.cell? ⟨W.heap.size + 1, 0, none⟩ = some (.int .i64 0) := HB1r.out.cell 0
      have u1 : wr.cell? ⟨W.heap.size + 1, 1, none⟩ = some (.int .i64 0) := HB1r.out.cell 1
      have u2 : wr.cell? ⟨W.heap.size + 1, 2, none⟩ = some (.int .i64 0) := HB1r.out.cell 2
      have u3 : wr.cell? ⟨W.heap.size + 1, 3, none⟩ = some (.slice none 0 0) := HB1r.out.cell 3
      have v0 := HB1r.out.frozen 0; have v1 := HB1r.out.frozen 1; have v2 := HB1r.out.frozen 2; have v3 := HB1r.out.frozen 3
      go_wp2
      have B9 := (((HB1r.out.set_ 0 (.int .i64 n)).set_ 1 (.int .i64 k)).set_ 2 (.int .i64 t)).set_ 3 (.slice A5 m.length c5)
      have K9 : Kp (One (W.heap.size + 1)) wr _ := ((((Kp.refl (One (W.heap.size + 1)) wr).set (.inl (One.self _)) 0 (.int .i64 n)).set (.inl (One.self _)) 1 (.int .i64 k)).set (.inl (One.self _)) 2 (.int .i64 t)).set (.inl (One.self _)) 3 (.slice A5 m.length c5)
      generalize hw9 : World.setCell _ ⟨W.heap.size + 1, 3, none⟩ _ = w9 at B9 K9 ⊢
      have x0 := B9.cell 0; have x1 := B9.cell 1; have xx2 := B9.cell 2; have x3 := B9.cell 3
      simp only [List.set_cons_zero, List.set_cons_succ, List.getElem?_cons_zero, List.getElem?_cons_succ] at x0 x1 xx2 x3
      have HF := Lib.hid (show OwnG w9 W.heap.size (.slice A5 m.length c5) m from (HO.out.far K9 HB1r.out (by decide) (by decide)).mono HK3.out.size)
      have HKF := Lib.hid (show Kp No W w9 from HKW.out.then_ K9 fun j hj e => by have : j = W.heap.size + 1 := e; omega)
      refine bodyPost_ret (v := .agg #[.int .i64 n, .int .i64 k, .int .i64 t, .slice A5 m.length c5]) (by simp [results, Try.results36, go_sem, x0, x1, xx2, x3]) rfl ?_
      first | exact ⟨_, m, rfl, HM.out, HF.out, HKF.out⟩ | exact ⟨_, rfl, m, HM.out, HF.out, HKF.out⟩
end Go.Proofs.Ytifdceofglocdaa

/- The law's own and ownRec by contract. No condition beyond what each theorem states. -/
namespace Go.Proofs.Ytifdceofglocdaa
open Go Go.RowKit Go.PlainAid

set_option maxRecDepth 100000 in
set_option maxHeartbeats 4000000 in
theorem ownB_any (n k t : Int) (v : Value) (l : List GP) (W : World) (hv : ArgG W v l) (hl : l.length ≤ 1954687338211) (hst : ∀ p ∈ l, p.1.stamp.length ≤ 17592186043904) :
    Calls Try.prog 13 #[.agg #[.int .i64 n, .int .i64 k, .int .i64 t, v]] W fun e w' => ∃ sv l', e = .returned (.agg #[.int .i64 n, .int .i64 k, .int .i64 t, sv]) ∧ gsL l' = gsL l ∧ OwnG w' W.heap.size sv l' ∧ Kp No W w' := by
  obtain ⟨A, c, rfl, _⟩ := hv.len
  obtain ⟨w2, hw2⟩ : ∃ w2, w2 = (W.alloc (.cells #[.int .i64 n, .int .i64 k, .int .i64 t, .slice A l.length c] 25)).alloc (.cells #[.int .i64 0, .int .i64 0, .int .i64 0, .slice none 0 0] 25) := ⟨_, rfl⟩
  have HB0 := Lib.hid (show Bk w2 W.heap.size 25 [.int .i64 n, .int .i64 k, .int .i64 t, .slice A l.length c] by rw [hw2]; exact (Bk.new' rfl rfl).alloc _)
  have HB1 := Lib.hid (show Bk w2 (W.heap.size + 1) 25 [.int .i64 0, .int .i64 0, .int .i64 0, .slice none 0 0] by rw [hw2]; exact Bk.new' (by simp) rfl)
  have HK2 := Lib.hid (show Kp No W w2 by rw [hw2]; exact ((Kp.refl No W).alloc _).alloc _)
  have pc := rcopy_any n k t (.slice A l.length c) l w2 (hv.no HK2.out) hl hst
  have HW := Lib.hid hw2
  clear hw2 hv hl hst
  have z0 : w2.cell? ⟨W.heap.size, 0, none⟩ = some (.int .i64 n) := HB0.out.cell 0
  have z1 : w2.cell? ⟨W.heap.size, 1, none⟩ = some (.int .i64 k) := HB0.out.cell 1
  have z2 : w2.cell? ⟨W.heap.size, 2, none⟩ = some (.int .i64 t) := HB0.out.cell 2
  have z3 : w2.cell? ⟨W.heap.size, 3, none⟩ = some (.slice A l.length c) := HB0.out.cell 3
  go_enter Try.func13, Try.ntmps13
  go_upto_region 1 with (fail)
  rw [← HW.out]
  clear HW
  go_wp2_with fail
  refine pc.mono ?_
  rintro e w3 ⟨sv, l', rfl, hl', ho, k3⟩
  obtain ⟨A3, c3, rfl, _⟩ := own_len ho.1
  have HB1r := Lib.hid (HB1.out.no k3); have HO := Lib.hid ho; have HK := Lib.hid (HK2.out.trans k3); have HL := Lib.hid hl'; have HS := Lib.hid HK2.out.size
  clear z0 z1 z2 z3 pc k3 ho hl'
  have u0 : w3.cell? ⟨W.heap.size + 1, 0, none⟩ = some (.int .i64 0) := HB1r.out.cell 0
  have u1 : w3.cell? ⟨W.heap.size + 1, 1, none⟩ = some (.int .i64 0) := HB1r.out.cell 1
  have u2 : w3.cell? ⟨W.heap.size + 1, 2, none⟩ = some (.int .i64 0) := HB1r.out.cell 2
  have u3 : w3.cell? ⟨W.heap.size + 1, 3, none⟩ = some (.slice none 0 0) := HB1r.out.cell 3
  have v0 := HB1r.out.frozen 0; have v1 := HB1r.out.frozen 1; have v2 := HB1r.out.frozen 2; have v3 := HB1r.out.frozen 3
  go_wp2
  have B9 := (((HB1r.out.set_ 0 (.int .i64 n)).set_ 1 (.int .i64 k)).set_ 2 (.int .i64 t)).set_ 3 (.slice A3 l'.length c3)
  have K9 : Kp (One (W.heap.size + 1)) w3 _ := ((((Kp.refl (One (W.heap.size + 1)) w3).set (.inl (One.self _)) 0 (.int .i64 n)).set (.inl (One.self _)) 1 (.int .i64 k)).set (.inl (One.self _)) 2 (.int .i64 t)).set (.inl (One.self _)) 3 (.slice A3 l'.length c3)
  generalize hw9 : World.setCell _ ⟨W.heap.size + 1, 3, none⟩ _ = w9 at B9 K9 ⊢
  have x0 := B9.cell 0; have x1 := B9.cell 1; have x2 := B9.cell 2; have x3 := B9.cell 3
  simp only [List.set_cons_zero, List.set_cons_succ, List.getElem?_cons_zero, List.getElem?_cons_succ] at x0 x1 x2 x3
  have HF := Lib.hid (show OwnG w9 W.heap.size (.slice A3 l'.length c3) l' from (HO.out.far K9 HB1r.out (by decide) (by decide)).mono HS.out)
  have HKF := Lib.hid (show Kp No W w9 from HK.out.then_ K9 fun j hj e => by have : j = W.heap.size + 1 := e; omega)
  refine bodyPost_ret (v := .agg #[.int .i64 n, .int .i64 k, .int .i64 t, .slice A3 l'.length c3]) (by simp [results, Try.results13, go_sem, x0, x1, x2, x3]) rfl ?_
  first | exact ⟨_, l', rfl, HL.out, HF.out, HKF.out⟩ | exact ⟨_, rfl, l', HL.out, HF.out, HKF.out⟩
def rZ : List Value := rC {} (.slice none 0 0) (.slice none 0 0)
theorem rec_one {r : Rcd} {gv rv : Value} {A1 A2 : Option Addr} {n1 c1 n2 c2 : Nat} (h1 : gv = .slice A1 n1 c1) (h2 : rv = .slice A2 n2 c2) : ∀ u ∈ rC r gv rv, u.oneCell' = true := by
  rw [h1, h2]; unfold rC
  intro u hu
  simp only [List.mem_cons, List.not_mem_nil, or_false] at hu
  rcases hu with rfl | rfl | rfl | rfl | rfl | rfl | rfl | rfl | rfl | rfl | rfl | rfl <;> rfl
theorem rec_size {n : Nat} (h : n = 12) : (Try.prog.info? 32).map (·.size) = some n := by rw [h]; kernel_rfl
theorem ints_of (w : World) (v : Value) (L : List Int) (h : ArgInts w v L) : ∃ A c, v = .slice A L.length c ∧ L.length ≤ c := by obtain ⟨A, c, e, hc, _⟩ := h; exact ⟨A, c, e, hc⟩
set_option maxRecDepth 100000 in
set_option maxHeartbeats 4000000 in
theorem ownRec_any (r : Rcd) (gv rv : Value) (W : World) (hg : ArgInts W gv r.grant.stamp) (hr : ArgInts W rv r.stamp) (lg : r.grant.stamp.length ≤ 17592186043904) (lr : r.stamp.length ≤ 17592186043904) :
    Calls Try.prog 14 #[.agg (rC r gv rv).toArray] W fun e w' => ∃ gv' rv', e = .returned (.agg (rC r gv' rv').toArray) ∧ w'.ownsRow W.heap.size 3 1 gv' r.grant.stamp.length (ints r.grant.stamp) ∧ w'.ownsRow W.heap.size 3 1 rv' r.stamp.length (ints r.stamp) ∧ Kp No W w' := by
  obtain ⟨A, c, rfl, _⟩ := ints_of _ _ _ hg
  obtain ⟨A2, c2, rfl, _⟩ := ints_of _ _ _ hr
  obtain ⟨w2, hw2⟩ : ∃ w2, w2 = (W.alloc (.cells (rC r (.slice A r.grant.stamp.length c) (.slice A2 r.stamp.length c2)).toArray 32)).alloc (.cells rZ.toArray 32) := ⟨_, rfl⟩
  have HB0 := Lib.hid (show Bk w2 W.heap.size 32 (rC r (.slice A r.grant.stamp.length c) (.slice A2 r.stamp.length c2)) by rw [hw2]; exact (Bk.new' rfl rfl).alloc _)
  have HB1 := Lib.hid (show Bk w2 (W.heap.size + 1) 32 rZ by rw [hw2]; exact Bk.new' (by simp) rfl)
  have HK2 := Lib.hid (show Kp No W w2 by rw [hw2]; exact ((Kp.refl No W).alloc _).alloc _)
  have pc := copyG_any (r.grant, .slice A r.grant.stamp.length c) w2 (hg.no HK2.out) lg
  have HR := Lib.hid hr
  have HW := Lib.hid hw2
  clear hw2 hg hr lg
  have z := HB0.out.cell
  have HZ := Lib.hid z
  clear z
  have z1 : w2.cell? ⟨W.heap.size, 1, none⟩ = some (.int .i64 r.grant.id) := HZ.out 1
  have z2 : w2.cell? ⟨W.heap.size, 2, none⟩ = some (.int .i64 r.grant.holder) := HZ.out 2
  have z3 : w2.cell? ⟨W.heap.size, 3, none⟩ = some (.string ⟨r.grant.path.toArray⟩) := HZ.out 3
  have z4 : w2.cell? ⟨W.heap.size, 4, none⟩ = some (.int .i64 r.grant.mode) := HZ.out 4
  have z5 : w2.cell? ⟨W.heap.size, 5, none⟩ = some (.slice A r.grant.stamp.length c) := HZ.out 5
  have z6 : w2.cell? ⟨W.heap.size, 6, none⟩ = some (.int .i64 r.grant.term) := HZ.out 6
  simp only [pC] at pc
  go_enter Try.func14, Try.ntmps14
  go_upto_region 1 with (fail)
  unfold rC rZ rC at HW
  unfold rC
  rw [← HW.out]
  clear HW
  go_wp2_with fail
  refine pc.mono ?_
  rintro e w3 ⟨sv, rfl, o3, k3⟩
  obtain ⟨A3, c3, rfl, _⟩ := own_len o3
  have HB3 := Lib.hid (HB0.out.no k3); have HB13 := Lib.hid (HB1.out.no k3); have HO3 := Lib.hid o3; have HK3 := Lib.hid (HK2.out.trans k3)
  clear z1 z2 z3 z4 z5 z6 HZ o3 k3 pc
  have z1 : w3.cell? ⟨W.heap.size, 1, none⟩ = some (.int .i64 r.grant.id) := HB3.out.cell 1
  have z2 : w3.cell? ⟨W.heap.size, 2, none⟩ = some (.int .i64 r.grant.holder) := HB3.out.cell 2
  have z3 : w3.cell? ⟨W.heap.size, 3, none⟩ = some (.string ⟨r.grant.path.toArray⟩) := HB3.out.cell 3
  have z4 : w3.cell? ⟨W.heap.size, 4, none⟩ = some (.int .i64 r.grant.mode) := HB3.out.cell 4
  have z5 : w3.cell? ⟨W.heap.size, 5, none⟩ = some (.slice A r.grant.stamp.length c) := HB3.out.cell 5
  have z6 : w3.cell? ⟨W.heap.size, 6, none⟩ = some (.int .i64 r.grant.term) := HB3.out.cell 6
  have zf := HB3.out.frozen
  have HB4 := Lib.hid (show Bk _ W.heap.size 32 (rC r (.slice A3 r.grant.stamp.length c3) (.slice A2 r.stamp.length c2)) from ((((((HB3.out.set_ 1 (.int .i64 r.grant.id)).set_ 2 (.int .i64 r.grant.holder)).set_ 3 (.string ⟨r.grant.path.toArray⟩)).set_ 4 (.int .i64 r.grant.mode)).set_ 5 (.slice A3 r.grant.stamp.length c3)).set_ 6 (.int .i64 r.grant.term)))
  have HK4 := Lib.hid (((((((Kp.refl (One W.heap.size) w3).set (.inl (One.self _)) 1 (.int .i64 r.grant.id)).set (.inl (One.self _)) 2 (.int .i64 r.grant.holder)).set (.inl (One.self _)) 3 (.string ⟨r.grant.path.toArray⟩)).set (.inl (One.self _)) 4 (.int .i64 r.grant.mode)).set (.inl (One.self _)) 5 (.slice A3 r.grant.stamp.length c3)).set (.inl (One.self _)) 6 (.int .i64 r.grant.term))
  go_upto_region 2 with (fail)
  generalize hw4 : World.setCell _ ⟨W.heap.size, 6, none⟩ _ = w4 at HB4 HK4 ⊢
  have HO4 := Lib.hid (show w4.ownsRow W.heap.size 3 1 (.slice A3 r.grant.stamp.length c3) r.grant.stamp.length (ints r.grant.stamp) from own_mono (own_kp HO3.out HK4.out fun j e m => own_ne HO3.out HB3.out (by decide) (by rw [e, show j = W.heap.size from m])) HK2.out.size)
  have HB14 := Lib.hid (HB13.out.kp HK4.out (fun m => by have : W.heap.size + 1 = W.heap.size := m; omega))
  have HKW4 := Lib.hid (show Kp No W w4 from HK3.out.then_ HK4.out fun j hj m => by have : j = W.heap.size := m; omega)
  clear z1 z2 z3 z4 z5 z6 zf hw4 HB3 HB13 HK3 HK4 HO3
  have z8 : w4.cell? ⟨W.heap.size, 8, none⟩ = some (.slice A2 r.stamp.length c2) := HB4.out.cell 8
  have f8 := HB4.out.frozen 8
  have z8' : (w4.alloc (.cells #[] 3)).cell? ⟨W.heap.size, 8, none⟩ = some (.slice A2 r.stamp.length c2) := (HB4.out.alloc _).cell 8
  have k5 : Kp No w4 (w4.alloc (.cells #[] 3)) := (Kp.refl No w4).alloc _
  have HN5 := Lib.hid (show (w4.alloc (.cells #[] 3)).ownsRow w4.heap.size 3 1 (.slice (some ⟨w4.heap.size, 0, none⟩) 0 0) 0 [] from own_fresh _ _ _ (Nat.le_refl _))
  have HB5 := Lib.hid (HB4.out.no k5); have HB15 := Lib.hid (HB14.out.no k5); have HO5 := Lib.hid (own_kp HO4.out k5 fun _ _ m => m); have HKW5 := Lib.hid (HKW4.out.trans k5)
  have HR5 := Lib.hid (HR.out.no HKW5.out)
  have hsz5 : w4.heap.size ≤ (w4.alloc (.cells #[] 3)).heap.size := k5.size
  have hlt4 : W.heap.size + 1 < w4.heap.size := HB14.out.lt
  have hng : ∀ g, (Value.slice A3 r.grant.stamp.length c3).ownBlock = some g → g < w4.heap.size := fun g e => (HO4.out.lt g e).2
  clear k5 HB4 HB14 HO4
  go_upto_region 3 with (at_builtin; refine (wpList_appV _ rfl _ _ 28 rfl w4.heap.size 3 _ 8 Try.underlying28 Try.infoInt rfl _ 0 [] rfl HN5.out A2 r.stamp.length c2 (ints r.stamp) rfl (by simp) HR5.out.cs.1 (ints_one _) (by omega) (by omega) hsz5 ?_); intro v6 w6 o6 k6 _; rw [Nat.zero_add, List.nil_append] at o6; obtain ⟨A6, c6, hv6, _⟩ := own_len o6; subst hv6; have k6b : Kp (fun k => some w4.heap.size = some k) (w4.alloc (.cells #[] 3)) w6 := k6; have B6 := HB5.out.kp k6b (fun e => by injection e with e; omega); have z9 : w6.cell? ⟨W.heap.size, 8, none⟩ = some (.slice A2 r.stamp.length c2) := B6.cell 8; have f9 := B6.frozen 8)
  have HO6 := Lib.hid o6; have HB6 := Lib.hid (B6.set_ 8 (.slice A6 r.stamp.length c6))
  have HB16 := Lib.hid ((HB15.out.kp k6b (fun e => by injection e with e; omega)).far (p := ⟨W.heap.size, 8, none⟩) (by show W.heap.size + 1 ≠ W.heap.size; omega) (.slice A6 r.stamp.length c6))
  have kx := (Kp.refl (One W.heap.size) w6).set (.inl (One.self _)) 8 (.slice A6 r.stamp.length c6)
  have HO7 := Lib.hid (own_kp o6 kx fun j e m => own_ne o6 B6 (by decide) (by rw [e, show j = W.heap.size from m]))
  have HO57 := Lib.hid (show (w6.setCell ⟨W.heap.size, 8, none⟩ (.slice A6 r.stamp.length c6)).ownsRow W.heap.size 3 1 (.slice A3 r.grant.stamp.length c3) r.grant.stamp.length (ints r.grant.stamp) from by
    have h1 := own_kp HO5.out k6b (fun g e m => by injection m with m; have := hng g e; omega)
    exact own_kp h1 kx fun j e m => own_ne h1 B6 (by decide) (by rw [e, show j = W.heap.size from m]))
  have HK7 := Lib.hid (show Kp No W (w6.setCell ⟨W.heap.size, 8, none⟩ (.slice A6 r.stamp.length c6)) from
    ((HKW4.out.alloc (.cells #[] 3)).then_ k6b fun j hj e => by injection e with e; omega).then_ kx fun j hj m => by have : j = W.heap.size := m; omega)
  have hb4 : W.heap.size ≤ w4.heap.size := by omega
  clear z8 f8 z8' z9 f9 HO5 HO6 k6b k6 o6 B6 kx HN5 HR5 hsz5 hng HB5 HB15 HKW5
  generalize w6.setCell ⟨W.heap.size, 8, none⟩ (.slice A6 r.stamp.length c6) = w7 at *
  have HB6 : Hid (Bk w7 W.heap.size 32 (rC r (.slice A3 r.grant.stamp.length c3) (.slice A6 r.stamp.length c6))) := HB6
  obtain ⟨C, hC⟩ : ∃ C, C = rC r (.slice A3 r.grant.stamp.length c3) (.slice A6 r.stamp.length c6) := ⟨_, rfl⟩
  have hcl : C.length = 12 := by rw [hC]; rfl
  have HC := Lib.hid hC
  have HG := Lib.hid (show Bk w7 W.heap.size 32 C by rw [hC]; exact HB6.out)
  have HI := Lib.hid (rec_size hcl)
  have HU := Lib.hid Try.underlying32
  have HTH := Lib.hid (show w7.there (W.heap.size + 1) 0 C.toArray.size from HB16.out.there 0 _ (by rw [Nat.zero_add, List.size_toArray, hcl]; exact Nat.le_refl _))
  have hi2 := Lib.hid (rec_size (show C.toArray.size = 12 by rw [List.size_toArray]; exact hcl))
  have h1c := Lib.hid (show C.toArray.all (·.oneCell') = true by simpa using (hC ▸ rec_one rfl rfl : ∀ u ∈ C, u.oneCell' = true))
  have B9 := Lib.hid (show Bk (w7.setCells (W.heap.size + 1) 0 C.toArray.toList) (W.heap.size + 1) 32 C from by
    have := Bk.sets C 0 HB16.out (by rw [Nat.zero_add, hcl]; exact Nat.le_refl _)
    rw [List.take_zero, List.nil_append, Nat.zero_add, hcl, show List.drop 12 rZ = [] from rfl, List.append_nil] at this
    exact this)
  have K9 := Lib.hid (show Kp (One (W.heap.size + 1)) w7 (w7.setCells (W.heap.size + 1) 0 C.toArray.toList) from Kp.sets _ 0 (Kp.refl _ _) (.inl rfl))
  clear hcl hC
  go_wp2_with (first
    | (with_reducible refine wpList_load_mid rfl _ _ rfl W.heap.size 0 rfl C _ (bk_range HG.out) HU.out rfl HI.out ?_)
    | (with_reducible refine wpList_store_mid rfl _ _ _ rfl (W.heap.size + 1) 0 C.toArray rfl rfl HTH.out hi2.out h1c.out ?_))
  generalize w7.setCells (W.heap.size + 1) 0 C.toArray.toList = w9 at *
  have b9 := B9.out
  rw [HC.out] at b9
  have x0 := b9.cell 0; have x1 := b9.cell 1; have x2 := b9.cell 2; have x3 := b9.cell 3; have x4 := b9.cell 4; have x5 := b9.cell 5; have x6 := b9.cell 6; have x7 := b9.cell 7; have x8 := b9.cell 8; have x9 := b9.cell 9; have x10 := b9.cell 10; have x11 := b9.cell 11
  simp only [rC, List.getElem?_cons_zero, List.getElem?_cons_succ] at x0 x1 x2 x3 x4 x5 x6 x7 x8 x9 x10 x11
  have HF := Lib.hid (And.intro (own_kp HO57.out K9.out fun j e m => own_ne HO57.out HB16.out (by decide) (by rw [e, show j = W.heap.size + 1 from m])) (And.intro (own_mono (own_kp HO7.out K9.out fun j e m => own_ne HO7.out HB16.out (by decide) (by rw [e, show j = W.heap.size + 1 from m])) hb4) (HK7.out.then_ K9.out fun j hj m => by have : j = W.heap.size + 1 := m; omega)))
  clear HO57 HO7 HK7 K9 B9 h1c hi2 HTH HU HI HG HB16 HB6
  refine bodyPost_ret (v := .agg (rC r (.slice A3 r.grant.stamp.length c3) (.slice A6 r.stamp.length c6)).toArray) (by simp [results, Try.results14, go_sem, rC, x0, x1, x2, x3, x4, x5, x6, x7, x8, x9, x10, x11]) rfl ?_
  exact ⟨_, _, rfl, HF.out.1, HF.out.2.1, HF.out.2.2⟩
end Go.Proofs.Ytifdceofglocdaa

/- Are two records one: the document's SameRec by contract. No condition beyond what each theorem states. -/
namespace Go.Proofs.Ytifdceofglocdaa
open Go Go.RowKit Go.PlainAid

set_option maxRecDepth 100000 in
set_option maxHeartbeats 8000000 in
theorem rsameRec_any (r s : Rcd) (gv rv gv2 rv2 : Value) (W : World) (hg : ArgInts W gv r.grant.stamp) (hr : ArgInts W rv r.stamp) (hg2 : ArgInts W gv2 s.grant.stamp) (hr2 : ArgInts W rv2 s.stamp)
    (lg : r.grant.stamp.length ≤ maxLen) (lr : r.stamp.length ≤ maxLen) (lg2 : s.grant.stamp.length ≤ maxLen) (lr2 : s.stamp.length ≤ maxLen) :
    Calls Try.prog 27 #[.agg (rC r gv rv).toArray, .agg (rC s gv2 rv2).toArray] W fun e w' => e = .returned (.bool (decide (r = s))) ∧ Kp No W w' := by
  obtain ⟨R, hR⟩ : ∃ R, R = decide (r = s) := ⟨_, rfl⟩
  rw [← hR]
  have HR := Lib.hid hR; clear hR
  have HM := Lib.hid (rcd_eq r s)
  obtain ⟨akind, ⟨agid, ahol, apath, amode, ast, aterm⟩, aid, astamp, anext, aboots, alongest⟩ := r
  obtain ⟨bkind, ⟨bgid, bhol, bpath, bmode, bst, bterm⟩, bid, bstamp, bnext, bboots, blongest⟩ := s
  obtain ⟨aA, ac, rfl, _⟩ : ∃ A c, gv = .slice A ast.length c ∧ ast.length ≤ c := by obtain ⟨A, c, e, hc, _⟩ := hg; exact ⟨A, c, e, hc⟩
  obtain ⟨aB, ad, rfl, _⟩ : ∃ A c, rv = .slice A astamp.length c ∧ astamp.length ≤ c := by obtain ⟨A, c, e, hc, _⟩ := hr; exact ⟨A, c, e, hc⟩
  obtain ⟨bA, bc, rfl, _⟩ : ∃ A c, gv2 = .slice A bst.length c ∧ bst.length ≤ c := by obtain ⟨A, c, e, hc, _⟩ := hg2; exact ⟨A, c, e, hc⟩
  obtain ⟨bB, bd, rfl, _⟩ : ∃ A c, rv2 = .slice A bstamp.length c ∧ bstamp.length ≤ c := by obtain ⟨A, c, e, hc, _⟩ := hr2; exact ⟨A, c, e, hc⟩
  replace hg : ArgInts W (.slice aA ast.length ac) ast := hg
  replace hr : ArgInts W (.slice aB astamp.length ad) astamp := hr
  replace hg2 : ArgInts W (.slice bA bst.length bc) bst := hg2
  replace hr2 : ArgInts W (.slice bB bstamp.length bd) bstamp := hr2
  obtain ⟨w1, hw1⟩ : ∃ w1, w1 = (W.alloc (.cells #[.int .i64 akind, .int .i64 agid, .int .i64 ahol, .string ⟨apath.toArray⟩, .int .i64 amode, .slice aA ast.length ac, .int .i64 aterm, .int .i64 aid, .slice aB astamp.length ad, .int .i64 anext, .int .i64 aboots, .int .i64 alongest] 32)).alloc (.cells #[.int .i64 bkind, .int .i64 bgid, .int .i64 bhol, .string ⟨bpath.toArray⟩, .int .i64 bmode, .slice bA bst.length bc, .int .i64 bterm, .int .i64 bid, .slice bB bstamp.length bd, .int .i64 bnext, .int .i64 bboots, .int .i64 blongest] 32) := ⟨_, rfl⟩
  have HK1 := Lib.hid (show Kp No W w1 by rw [hw1]; exact ((Kp.refl No W).alloc _).alloc _)
  have HBa := Lib.hid (show Bk w1 W.heap.size 32 [.int .i64 akind, .int .i64 agid, .int .i64 ahol, .string ⟨apath.toArray⟩, .int .i64 amode, .slice aA ast.length ac, .int .i64 aterm, .int .i64 aid, .slice aB astamp.length ad, .int .i64 anext, .int .i64 aboots, .int .i64 alongest] by rw [hw1]; exact (Bk.new' rfl rfl).alloc _)
  have HBb := Lib.hid (show Bk w1 (W.heap.size + 1) 32 [.int .i64 bkind, .int .i64 bgid, .int .i64 bhol, .string ⟨bpath.toArray⟩, .int .i64 bmode, .slice bA bst.length bc, .int .i64 bterm, .int .i64 bid, .slice bB bstamp.length bd, .int .i64 bnext, .int .i64 bboots, .int .i64 blongest] by rw [hw1]; exact Bk.new' (by simp) rfl)
  have pg : ∀ W2, Kp No w1 W2 → Calls Try.prog 43 #[.agg #[.int .i64 agid, .int .i64 ahol, .string ⟨apath.toArray⟩, .int .i64 amode, .slice aA ast.length ac, .int .i64 aterm], .agg #[.int .i64 bgid, .int .i64 bhol, .string ⟨bpath.toArray⟩, .int .i64 bmode, .slice bA bst.length bc, .int .i64 bterm]] W2 fun e w' => e = .returned (.bool (decide ((⟨agid, ahol, apath, amode, ast, aterm⟩ : Grt) = ⟨bgid, bhol, bpath, bmode, bst, bterm⟩))) ∧ Kp No W2 w' := fun W2 k =>
    rsameG_any (⟨agid, ahol, apath, amode, ast, aterm⟩, .slice aA ast.length ac) (⟨bgid, bhol, bpath, bmode, bst, bterm⟩, .slice bA bst.length bc) W2 (hg.no (HK1.out.trans k)) (hg2.no (HK1.out.trans k)) lg lg2
  have pi := fun W2 (k : Kp No w1 W2) => sameInts_any (.slice aB astamp.length ad) (.slice bB bstamp.length bd) astamp bstamp W2 (hr.no (HK1.out.trans k)) (hr2.no (HK1.out.trans k)) lr lr2
  have HW := Lib.hid hw1
  clear hg hr hg2 hr2 lg lr lg2 lr2 hw1
  simp only [rC]
  by_cases c0 : akind = bkind
  case neg =>
    have HX := Lib.hid (show R = false by rw [HR.out, decide_eq_false_iff_not, HM.out]; rintro ⟨q0, q1, q2, q3, q4, q5, q6⟩; exact c0 q0)
    have d : (akind == bkind) = false := by rw [beq_eq_false_iff_ne]; exact c0
    clear c0
    have a0 : w1.cell? ⟨W.heap.size, 0, none⟩ = some (.int .i64 akind) := (HBa.out.no (Kp.refl No w1)).cell 0
    have b0 : w1.cell? ⟨W.heap.size + 1, 0, none⟩ = some (.int .i64 bkind) := (HBb.out.no (Kp.refl No w1)).cell 0
    have a1 : w1.cell? ⟨W.heap.size, 1, none⟩ = some (.int .i64 agid) := (HBa.out.no (Kp.refl No w1)).cell 1
    have b1 : w1.cell? ⟨W.heap.size + 1, 1, none⟩ = some (.int .i64 bgid) := (HBb.out.no (Kp.refl No w1)).cell 1
    have a2 : w1.cell? ⟨W.heap.size, 2, none⟩ = some (.int .i64 ahol) := (HBa.out.no (Kp.refl No w1)).cell 2
    have b2 : w1.cell? ⟨W.heap.size + 1, 2, none⟩ = some (.int .i64 bhol) := (HBb.out.no (Kp.refl No w1)).cell 2
    have a3 : w1.cell? ⟨W.heap.size, 3, none⟩ = some (.string ⟨apath.toArray⟩) := (HBa.out.no (Kp.refl No w1)).cell 3
    have b3 : w1.cell? ⟨W.heap.size + 1, 3, none⟩ = some (.string ⟨bpath.toArray⟩) := (HBb.out.no (Kp.refl No w1)).cell 3
    have a4 : w1.cell? ⟨W.heap.size, 4, none⟩ = some (.int .i64 amode) := (HBa.out.no (Kp.refl No w1)).cell 4
    have b4 : w1.cell? ⟨W.heap.size + 1, 4, none⟩ = some (.int .i64 bmode) := (HBb.out.no (Kp.refl No w1)).cell 4
    have a5 : w1.cell? ⟨W.heap.size, 5, none⟩ = some (.slice aA ast.length ac) := (HBa.out.no (Kp.refl No w1)).cell 5
    have b5 : w1.cell? ⟨W.heap.size + 1, 5, none⟩ = some (.slice bA bst.length bc) := (HBb.out.no (Kp.refl No w1)).cell 5
    have a6 : w1.cell? ⟨W.heap.size, 6, none⟩ = some (.int .i64 aterm) := (HBa.out.no (Kp.refl No w1)).cell 6
    have b6 : w1.cell? ⟨W.heap.size + 1, 6, none⟩ = some (.int .i64 bterm) := (HBb.out.no (Kp.refl No w1)).cell 6
    have a7 : w1.cell? ⟨W.heap.size, 7, none⟩ = some (.int .i64 aid) := (HBa.out.no (Kp.refl No w1)).cell 7
    have b7 : w1.cell? ⟨W.heap.size + 1, 7, none⟩ = some (.int .i64 bid) := (HBb.out.no (Kp.refl No w1)).cell 7
    have a8 : w1.cell? ⟨W.heap.size, 8, none⟩ = some (.slice aB astamp.length ad) := (HBa.out.no (Kp.refl No w1)).cell 8
    have b8 : w1.cell? ⟨W.heap.size + 1, 8, none⟩ = some (.slice bB bstamp.length bd) := (HBb.out.no (Kp.refl No w1)).cell 8
    have a9 : w1.cell? ⟨W.heap.size, 9, none⟩ = some (.int .i64 anext) := (HBa.out.no (Kp.refl No w1)).cell 9
    have b9 : w1.cell? ⟨W.heap.size + 1, 9, none⟩ = some (.int .i64 bnext) := (HBb.out.no (Kp.refl No w1)).cell 9
    have a10 : w1.cell? ⟨W.heap.size, 10, none⟩ = some (.int .i64 aboots) := (HBa.out.no (Kp.refl No w1)).cell 10
    have b10 : w1.cell? ⟨W.heap.size + 1, 10, none⟩ = some (.int .i64 bboots) := (HBb.out.no (Kp.refl No w1)).cell 10
    have a11 : w1.cell? ⟨W.heap.size, 11, none⟩ = some (.int .i64 alongest) := (HBa.out.no (Kp.refl No w1)).cell 11
    have b11 : w1.cell? ⟨W.heap.size + 1, 11, none⟩ = some (.int .i64 blongest) := (HBb.out.no (Kp.refl No w1)).cell 11
    go_enter Try.func27, Try.ntmps27
    go_upto_region 1 with (fail)
    rw [← HW.out]
    clear HW
    go_wp2
    go_ret
    exact ⟨ret_bool rfl (by rw [HX.out]), HK1.out⟩
  have P0 := Lib.hid c0
  have d0 : (akind == bkind) = true := by rw [beq_iff_eq]; exact c0
  clear c0
  have a0 : w1.cell? ⟨W.heap.size, 0, none⟩ = some (.int .i64 akind) := (HBa.out.no (Kp.refl No w1)).cell 0
  have b0 : w1.cell? ⟨W.heap.size + 1, 0, none⟩ = some (.int .i64 bkind) := (HBb.out.no (Kp.refl No w1)).cell 0
  have a1 : w1.cell? ⟨W.heap.size, 1, none⟩ = some (.int .i64 agid) := (HBa.out.no (Kp.refl No w1)).cell 1
  have b1 : w1.cell? ⟨W.heap.size + 1, 1, none⟩ = some (.int .i64 bgid) := (HBb.out.no (Kp.refl No w1)).cell 1
  have a2 : w1.cell? ⟨W.heap.size, 2, none⟩ = some (.int .i64 ahol) := (HBa.out.no (Kp.refl No w1)).cell 2
  have b2 : w1.cell? ⟨W.heap.size + 1, 2, none⟩ = some (.int .i64 bhol) := (HBb.out.no (Kp.refl No w1)).cell 2
  have a3 : w1.cell? ⟨W.heap.size, 3, none⟩ = some (.string ⟨apath.toArray⟩) := (HBa.out.no (Kp.refl No w1)).cell 3
  have b3 : w1.cell? ⟨W.heap.size + 1, 3, none⟩ = some (.string ⟨bpath.toArray⟩) := (HBb.out.no (Kp.refl No w1)).cell 3
  have a4 : w1.cell? ⟨W.heap.size, 4, none⟩ = some (.int .i64 amode) := (HBa.out.no (Kp.refl No w1)).cell 4
  have b4 : w1.cell? ⟨W.heap.size + 1, 4, none⟩ = some (.int .i64 bmode) := (HBb.out.no (Kp.refl No w1)).cell 4
  have a5 : w1.cell? ⟨W.heap.size, 5, none⟩ = some (.slice aA ast.length ac) := (HBa.out.no (Kp.refl No w1)).cell 5
  have b5 : w1.cell? ⟨W.heap.size + 1, 5, none⟩ = some (.slice bA bst.length bc) := (HBb.out.no (Kp.refl No w1)).cell 5
  have a6 : w1.cell? ⟨W.heap.size, 6, none⟩ = some (.int .i64 aterm) := (HBa.out.no (Kp.refl No w1)).cell 6
  have b6 : w1.cell? ⟨W.heap.size + 1, 6, none⟩ = some (.int .i64 bterm) := (HBb.out.no (Kp.refl No w1)).cell 6
  have a7 : w1.cell? ⟨W.heap.size, 7, none⟩ = some (.int .i64 aid) := (HBa.out.no (Kp.refl No w1)).cell 7
  have b7 : w1.cell? ⟨W.heap.size + 1, 7, none⟩ = some (.int .i64 bid) := (HBb.out.no (Kp.refl No w1)).cell 7
  have a8 : w1.cell? ⟨W.heap.size, 8, none⟩ = some (.slice aB astamp.length ad) := (HBa.out.no (Kp.refl No w1)).cell 8
  have b8 : w1.cell? ⟨W.heap.size + 1, 8, none⟩ = some (.slice bB bstamp.length bd) := (HBb.out.no (Kp.refl No w1)).cell 8
  have a9 : w1.cell? ⟨W.heap.size, 9, none⟩ = some (.int .i64 anext) := (HBa.out.no (Kp.refl No w1)).cell 9
  have b9 : w1.cell? ⟨W.heap.size + 1, 9, none⟩ = some (.int .i64 bnext) := (HBb.out.no (Kp.refl No w1)).cell 9
  have a10 : w1.cell? ⟨W.heap.size, 10, none⟩ = some (.int .i64 aboots) := (HBa.out.no (Kp.refl No w1)).cell 10
  have b10 : w1.cell? ⟨W.heap.size + 1, 10, none⟩ = some (.int .i64 bboots) := (HBb.out.no (Kp.refl No w1)).cell 10
  have a11 : w1.cell? ⟨W.heap.size, 11, none⟩ = some (.int .i64 alongest) := (HBa.out.no (Kp.refl No w1)).cell 11
  have b11 : w1.cell? ⟨W.heap.size + 1, 11, none⟩ = some (.int .i64 blongest) := (HBb.out.no (Kp.refl No w1)).cell 11
  go_enter Try.func27, Try.ntmps27
  go_upto_region 1 with (fail)
  rw [← HW.out]
  clear HW
  go_wp2_with fail
  refine (pg _ (Kp.refl _ _)).mono ?_
  rintro e w2 ⟨rfl, k2⟩
  have HK2 := Lib.hid k2
  clear a0 b0 a1 b1 a2 b2 a3 b3 a4 b4 a5 b5 a6 b6 a7 b7 a8 b8 a9 b9 a10 b10 a11 b11 pg
  by_cases c1 : (⟨agid, ahol, apath, amode, ast, aterm⟩ : Grt) = ⟨bgid, bhol, bpath, bmode, bst, bterm⟩
  case neg =>
    rw [decide_eq_false c1]
    have HX := Lib.hid (show R = false by rw [HR.out, decide_eq_false_iff_not, HM.out]; rintro ⟨q0, q1, q2, q3, q4, q5, q6⟩; exact c1 q1)
    clear c1 k2
    go_wp2
    go_ret
    exact ⟨ret_bool rfl (by rw [HX.out]), HK1.out.trans HK2.out⟩
  have P1 := Lib.hid c1
  rw [decide_eq_true c1]
  clear c1 k2
  by_cases c2 : aid = bid
  case neg =>
    have HX := Lib.hid (show R = false by rw [HR.out, decide_eq_false_iff_not, HM.out]; rintro ⟨q0, q1, q2, q3, q4, q5, q6⟩; exact c2 q2)
    have d : (aid == bid) = false := by rw [beq_eq_false_iff_ne]; exact c2
    clear c2
    have a0 : w2.cell? ⟨W.heap.size, 0, none⟩ = some (.int .i64 akind) := (HBa.out.no HK2.out).cell 0
    have b0 : w2.cell? ⟨W.heap.size + 1, 0, none⟩ = some (.int .i64 bkind) := (HBb.out.no HK2.out).cell 0
    have a1 : w2.cell? ⟨W.heap.size, 1, none⟩ = some (.int .i64 agid) := (HBa.out.no HK2.out).cell 1
    have b1 : w2.cell? ⟨W.heap.size + 1, 1, none⟩ = some (.int .i64 bgid) := (HBb.out.no HK2.out).cell 1
    have a2 : w2.cell? ⟨W.heap.size, 2, none⟩ = some (.int .i64 ahol) := (HBa.out.no HK2.out).cell 2
    have b2 : w2.cell? ⟨W.heap.size + 1, 2, none⟩ = some (.int .i64 bhol) := (HBb.out.no HK2.out).cell 2
    have a3 : w2.cell? ⟨W.heap.size, 3, none⟩ = some (.string ⟨apath.toArray⟩) := (HBa.out.no HK2.out).cell 3
    have b3 : w2.cell? ⟨W.heap.size + 1, 3, none⟩ = some (.string ⟨bpath.toArray⟩) := (HBb.out.no HK2.out).cell 3
    have a4 : w2.cell? ⟨W.heap.size, 4, none⟩ = some (.int .i64 amode) := (HBa.out.no HK2.out).cell 4
    have b4 : w2.cell? ⟨W.heap.size + 1, 4, none⟩ = some (.int .i64 bmode) := (HBb.out.no HK2.out).cell 4
    have a5 : w2.cell? ⟨W.heap.size, 5, none⟩ = some (.slice aA ast.length ac) := (HBa.out.no HK2.out).cell 5
    have b5 : w2.cell? ⟨W.heap.size + 1, 5, none⟩ = some (.slice bA bst.length bc) := (HBb.out.no HK2.out).cell 5
    have a6 : w2.cell? ⟨W.heap.size, 6, none⟩ = some (.int .i64 aterm) := (HBa.out.no HK2.out).cell 6
    have b6 : w2.cell? ⟨W.heap.size + 1, 6, none⟩ = some (.int .i64 bterm) := (HBb.out.no HK2.out).cell 6
    have a7 : w2.cell? ⟨W.heap.size, 7, none⟩ = some (.int .i64 aid) := (HBa.out.no HK2.out).cell 7
    have b7 : w2.cell? ⟨W.heap.size + 1, 7, none⟩ = some (.int .i64 bid) := (HBb.out.no HK2.out).cell 7
    have a8 : w2.cell? ⟨W.heap.size, 8, none⟩ = some (.slice aB astamp.length ad) := (HBa.out.no HK2.out).cell 8
    have b8 : w2.cell? ⟨W.heap.size + 1, 8, none⟩ = some (.slice bB bstamp.length bd) := (HBb.out.no HK2.out).cell 8
    have a9 : w2.cell? ⟨W.heap.size, 9, none⟩ = some (.int .i64 anext) := (HBa.out.no HK2.out).cell 9
    have b9 : w2.cell? ⟨W.heap.size + 1, 9, none⟩ = some (.int .i64 bnext) := (HBb.out.no HK2.out).cell 9
    have a10 : w2.cell? ⟨W.heap.size, 10, none⟩ = some (.int .i64 aboots) := (HBa.out.no HK2.out).cell 10
    have b10 : w2.cell? ⟨W.heap.size + 1, 10, none⟩ = some (.int .i64 bboots) := (HBb.out.no HK2.out).cell 10
    have a11 : w2.cell? ⟨W.heap.size, 11, none⟩ = some (.int .i64 alongest) := (HBa.out.no HK2.out).cell 11
    have b11 : w2.cell? ⟨W.heap.size + 1, 11, none⟩ = some (.int .i64 blongest) := (HBb.out.no HK2.out).cell 11
    go_wp2
    go_ret
    exact ⟨ret_bool rfl (by rw [HX.out]), HK1.out.trans HK2.out⟩
  have P2 := Lib.hid c2
  have d2 : (aid == bid) = true := by rw [beq_iff_eq]; exact c2
  clear c2
  have a0 : w2.cell? ⟨W.heap.size, 0, none⟩ = some (.int .i64 akind) := (HBa.out.no HK2.out).cell 0
  have b0 : w2.cell? ⟨W.heap.size + 1, 0, none⟩ = some (.int .i64 bkind) := (HBb.out.no HK2.out).cell 0
  have a1 : w2.cell? ⟨W.heap.size, 1, none⟩ = some (.int .i64 agid) := (HBa.out.no HK2.out).cell 1
  have b1 : w2.cell? ⟨W.heap.size + 1, 1, none⟩ = some (.int .i64 bgid) := (HBb.out.no HK2.out).cell 1
  have a2 : w2.cell? ⟨W.heap.size, 2, none⟩ = some (.int .i64 ahol) := (HBa.out.no HK2.out).cell 2
  have b2 : w2.cell? ⟨W.heap.size + 1, 2, none⟩ = some (.int .i64 bhol) := (HBb.out.no HK2.out).cell 2
  have a3 : w2.cell? ⟨W.heap.size, 3, none⟩ = some (.string ⟨apath.toArray⟩) := (HBa.out.no HK2.out).cell 3
  have b3 : w2.cell? ⟨W.heap.size + 1, 3, none⟩ = some (.string ⟨bpath.toArray⟩) := (HBb.out.no HK2.out).cell 3
  have a4 : w2.cell? ⟨W.heap.size, 4, none⟩ = some (.int .i64 amode) := (HBa.out.no HK2.out).cell 4
  have b4 : w2.cell? ⟨W.heap.size + 1, 4, none⟩ = some (.int .i64 bmode) := (HBb.out.no HK2.out).cell 4
  have a5 : w2.cell? ⟨W.heap.size, 5, none⟩ = some (.slice aA ast.length ac) := (HBa.out.no HK2.out).cell 5
  have b5 : w2.cell? ⟨W.heap.size + 1, 5, none⟩ = some (.slice bA bst.length bc) := (HBb.out.no HK2.out).cell 5
  have a6 : w2.cell? ⟨W.heap.size, 6, none⟩ = some (.int .i64 aterm) := (HBa.out.no HK2.out).cell 6
  have b6 : w2.cell? ⟨W.heap.size + 1, 6, none⟩ = some (.int .i64 bterm) := (HBb.out.no HK2.out).cell 6
  have a7 : w2.cell? ⟨W.heap.size, 7, none⟩ = some (.int .i64 aid) := (HBa.out.no HK2.out).cell 7
  have b7 : w2.cell? ⟨W.heap.size + 1, 7, none⟩ = some (.int .i64 bid) := (HBb.out.no HK2.out).cell 7
  have a8 : w2.cell? ⟨W.heap.size, 8, none⟩ = some (.slice aB astamp.length ad) := (HBa.out.no HK2.out).cell 8
  have b8 : w2.cell? ⟨W.heap.size + 1, 8, none⟩ = some (.slice bB bstamp.length bd) := (HBb.out.no HK2.out).cell 8
  have a9 : w2.cell? ⟨W.heap.size, 9, none⟩ = some (.int .i64 anext) := (HBa.out.no HK2.out).cell 9
  have b9 : w2.cell? ⟨W.heap.size + 1, 9, none⟩ = some (.int .i64 bnext) := (HBb.out.no HK2.out).cell 9
  have a10 : w2.cell? ⟨W.heap.size, 10, none⟩ = some (.int .i64 aboots) := (HBa.out.no HK2.out).cell 10
  have b10 : w2.cell? ⟨W.heap.size + 1, 10, none⟩ = some (.int .i64 bboots) := (HBb.out.no HK2.out).cell 10
  have a11 : w2.cell? ⟨W.heap.size, 11, none⟩ = some (.int .i64 alongest) := (HBa.out.no HK2.out).cell 11
  have b11 : w2.cell? ⟨W.heap.size + 1, 11, none⟩ = some (.int .i64 blongest) := (HBb.out.no HK2.out).cell 11
  go_wp2_with fail
  refine (pi _ HK2.out).mono ?_
  rintro e w3 ⟨rfl, k3⟩
  have HK3 := Lib.hid (HK2.out.trans k3)
  clear a0 b0 a1 b1 a2 b2 a3 b3 a4 b4 a5 b5 a6 b6 a7 b7 a8 b8 a9 b9 a10 b10 a11 b11
  have a0 : w3.cell? ⟨W.heap.size, 0, none⟩ = some (.int .i64 akind) := (HBa.out.no HK3.out).cell 0
  have b0 : w3.cell? ⟨W.heap.size + 1, 0, none⟩ = some (.int .i64 bkind) := (HBb.out.no HK3.out).cell 0
  have a1 : w3.cell? ⟨W.heap.size, 1, none⟩ = some (.int .i64 agid) := (HBa.out.no HK3.out).cell 1
  have b1 : w3.cell? ⟨W.heap.size + 1, 1, none⟩ = some (.int .i64 bgid) := (HBb.out.no HK3.out).cell 1
  have a2 : w3.cell? ⟨W.heap.size, 2, none⟩ = some (.int .i64 ahol) := (HBa.out.no HK3.out).cell 2
  have b2 : w3.cell? ⟨W.heap.size + 1, 2, none⟩ = some (.int .i64 bhol) := (HBb.out.no HK3.out).cell 2
  have a3 : w3.cell? ⟨W.heap.size, 3, none⟩ = some (.string ⟨apath.toArray⟩) := (HBa.out.no HK3.out).cell 3
  have b3 : w3.cell? ⟨W.heap.size + 1, 3, none⟩ = some (.string ⟨bpath.toArray⟩) := (HBb.out.no HK3.out).cell 3
  have a4 : w3.cell? ⟨W.heap.size, 4, none⟩ = some (.int .i64 amode) := (HBa.out.no HK3.out).cell 4
  have b4 : w3.cell? ⟨W.heap.size + 1, 4, none⟩ = some (.int .i64 bmode) := (HBb.out.no HK3.out).cell 4
  have a5 : w3.cell? ⟨W.heap.size, 5, none⟩ = some (.slice aA ast.length ac) := (HBa.out.no HK3.out).cell 5
  have b5 : w3.cell? ⟨W.heap.size + 1, 5, none⟩ = some (.slice bA bst.length bc) := (HBb.out.no HK3.out).cell 5
  have a6 : w3.cell? ⟨W.heap.size, 6, none⟩ = some (.int .i64 aterm) := (HBa.out.no HK3.out).cell 6
  have b6 : w3.cell? ⟨W.heap.size + 1, 6, none⟩ = some (.int .i64 bterm) := (HBb.out.no HK3.out).cell 6
  have a7 : w3.cell? ⟨W.heap.size, 7, none⟩ = some (.int .i64 aid) := (HBa.out.no HK3.out).cell 7
  have b7 : w3.cell? ⟨W.heap.size + 1, 7, none⟩ = some (.int .i64 bid) := (HBb.out.no HK3.out).cell 7
  have a8 : w3.cell? ⟨W.heap.size, 8, none⟩ = some (.slice aB astamp.length ad) := (HBa.out.no HK3.out).cell 8
  have b8 : w3.cell? ⟨W.heap.size + 1, 8, none⟩ = some (.slice bB bstamp.length bd) := (HBb.out.no HK3.out).cell 8
  have a9 : w3.cell? ⟨W.heap.size, 9, none⟩ = some (.int .i64 anext) := (HBa.out.no HK3.out).cell 9
  have b9 : w3.cell? ⟨W.heap.size + 1, 9, none⟩ = some (.int .i64 bnext) := (HBb.out.no HK3.out).cell 9
  have a10 : w3.cell? ⟨W.heap.size, 10, none⟩ = some (.int .i64 aboots) := (HBa.out.no HK3.out).cell 10
  have b10 : w3.cell? ⟨W.heap.size + 1, 10, none⟩ = some (.int .i64 bboots) := (HBb.out.no HK3.out).cell 10
  have a11 : w3.cell? ⟨W.heap.size, 11, none⟩ = some (.int .i64 alongest) := (HBa.out.no HK3.out).cell 11
  have b11 : w3.cell? ⟨W.heap.size + 1, 11, none⟩ = some (.int .i64 blongest) := (HBb.out.no HK3.out).cell 11
  by_cases c3 : astamp = bstamp
  case neg =>
    have HX := Lib.hid (show R = false by rw [HR.out, decide_eq_false_iff_not, HM.out]; rintro ⟨q0, q1, q2, q3, q4, q5, q6⟩; exact c3 q3)
    rw [decide_eq_false c3]
    clear c3
    go_wp2
    go_ret
    exact ⟨ret_bool rfl (by rw [HX.out]), HK1.out.trans HK3.out⟩
  have P3 := Lib.hid c3
  rw [decide_eq_true c3]
  clear c3
  by_cases c4 : anext = bnext
  case neg =>
    have HX := Lib.hid (show R = false by rw [HR.out, decide_eq_false_iff_not, HM.out]; rintro ⟨q0, q1, q2, q3, q4, q5, q6⟩; exact c4 q4)
    have d : (anext == bnext) = false := by rw [beq_eq_false_iff_ne]; exact c4
    clear c4
    go_wp2
    go_ret
    exact ⟨ret_bool rfl (by rw [HX.out]), HK1.out.trans HK3.out⟩
  have P4 := Lib.hid c4
  have d4 : (anext == bnext) = true := by rw [beq_iff_eq]; exact c4
  clear c4
  by_cases c5 : aboots = bboots
  case neg =>
    have HX := Lib.hid (show R = false by rw [HR.out, decide_eq_false_iff_not, HM.out]; rintro ⟨q0, q1, q2, q3, q4, q5, q6⟩; exact c5 q5)
    have d : (aboots == bboots) = false := by rw [beq_eq_false_iff_ne]; exact c5
    clear c5
    go_wp2
    go_ret
    exact ⟨ret_bool rfl (by rw [HX.out]), HK1.out.trans HK3.out⟩
  have P5 := Lib.hid c5
  have d5 : (aboots == bboots) = true := by rw [beq_iff_eq]; exact c5
  clear c5
  by_cases c6 : alongest = blongest
  case neg =>
    have HX := Lib.hid (show R = false by rw [HR.out, decide_eq_false_iff_not, HM.out]; rintro ⟨q0, q1, q2, q3, q4, q5, q6⟩; exact c6 q6)
    have d : (alongest == blongest) = false := by rw [beq_eq_false_iff_ne]; exact c6
    clear c6
    go_wp2
    go_ret
    exact ⟨ret_bool rfl (by rw [HX.out]), HK1.out.trans HK3.out⟩
  have P6 := Lib.hid c6
  have d6 : (alongest == blongest) = true := by rw [beq_iff_eq]; exact c6
  clear c6
  have HX := Lib.hid (show R = true by rw [HR.out, decide_eq_true_iff, HM.out]; exact ⟨P0.out, P1.out, P2.out, P3.out, P4.out, P5.out, P6.out⟩)
  go_wp2
  go_ret
  exact ⟨ret_bool rfl (by rw [HX.out]), HK1.out.trans HK3.out⟩
end Go.Proofs.Ytifdceofglocdaa

/- A record that came in. No condition beyond what each theorem states. -/
namespace Go.Proofs.Ytifdceofglocdaa
open Go Go.RowKit Go.PlainAid Go.ChangeShapes Go.WideShapes Go.ChangeAt Go.Deep

section
variable {H : Type} {enc : TypeId × Value → H} {P : Program}
/-- the parts of a struct, each a piece of its cells -/
theorem open_parts {w : World} {base fuel : Nat} {spare : Nat → Bool} {held : Bool} {t : TypeId} {fs : Array Field} {cs : List Value} {x : DataW H × List MemPlace} (hs : P.underlying t = some (.struct fs))
    (h : DataW.trod enc P w base spare held fuel t cs = some x) :
    ∃ (n : Nat) (xs : List (DataW H × List MemPlace)), x.1 = .agg (xs.map (·.1)) ∧ cs.length = P.cellsOf t ∧ ∀ (j : Nat) (f : Field), fs[j]? = some f → ∃ y, (xs.map (·.1))[j]? = some y.1 ∧ DataW.trod enc P w base spare held n f.type ((cs.drop f.offset).take (P.cellsOf f.type)) = some y := by
  obtain ⟨xs, n, _, rfl, hl, hlen, hg⟩ := DataW.trod_struct hs h
  refine ⟨n, xs, rfl, hl, fun j f hj => ?_⟩
  have hjl : j < fs.size := (Array.getElem?_eq_some_iff.1 hj).1
  have hys : xs[j]? = some (xs[j]'(by omega)) := List.getElem?_eq_getElem (by omega)
  exact ⟨xs[j]'(by omega), by rw [List.getElem?_map, hys]; rfl, (hg j f hj).trans hys⟩
theorem list6 {α : Type} {cs : List α} (h : cs.length = 6) : ∃ a0 a1 a2 a3 a4 a5, cs = [a0, a1, a2, a3, a4, a5] := by
  match cs, h with
  | [a0, a1, a2, a3, a4, a5], _ => exact ⟨a0, a1, a2, a3, a4, a5, rfl⟩
theorem list12 {α : Type} {cs : List α} (h : cs.length = 12) : ∃ a0 a1 a2 a3 a4 a5 a6 a7 a8 a9 a10 a11, cs = [a0, a1, a2, a3, a4, a5, a6, a7, a8, a9, a10, a11] := by
  match cs, h with
  | [a0, a1, a2, a3, a4, a5, a6, a7, a8, a9, a10, a11], _ => exact ⟨a0, a1, a2, a3, a4, a5, a6, a7, a8, a9, a10, a11, rfl⟩
/-- a list of ints in a field -/
theorem open_intsG {W : World} {t e : TypeId} {c : Value} {n : Nat} {y : DataW H × List MemPlace} (ht : P.underlying t = some (.slice e)) (he : P.underlying e = some (.int .i64))
    (ce : P.cellsOf e = 1) (be : P.bytesOf e = 8) (hf : DataW.trod enc P W 0 (fun _ => true) true n t [c] = some y) (hz : ∀ n ∈ y.1.weights P t, n ≤ reachBytes) :
    ∃ L : List Int, ArgInts W c L ∧ L.length ≤ 17592186043904 := by
  rcases open_ints ht he ce hf with ⟨hcs, hx⟩ | ⟨a', len, cap, zs, hcs, _, hl, hm, hn, hx, hc, hs⟩
  · simp at hcs
    subst hcs
    exact ⟨[], ArgInts.nil _ _ _, by simp⟩
  · simp at hcs
    subst hcs
    have hn' : zs.length = cap := by simpa using hn
    subst hx
    have hw := hz ((len + (cap - len)) * P.bytesOf e) (by simp [DataW.weights, ht, hn', lits, Nat.min_eq_left hl])
    rw [be] at hw
    have hlen : (zs.take len).length = len := by simp [hn', hl]
    refine ⟨zs.take len, ⟨some a', cap, by rw [hlen], by rw [hlen]; exact hl, fun hne => ?_⟩, by rw [hlen]; simp [reachBytes] at hw; omega⟩
    have h0 : 0 < zs.length := by
      rcases Nat.eq_zero_or_pos zs.length with h0 | h0
      · exfalso; apply hne; rw [List.eq_nil_of_length_eq_zero h0]; simp [ints]
      · exact h0
    have addr_none : ∀ {w : World} {a : Addr} {v : Value}, w.cell? (a.add 0) = some v → ∃ b o, a = ⟨b, o, none⟩ := by
      intro w a v h
      obtain ⟨b, o, s⟩ := a
      cases s with
      | none => exact ⟨b, o, rfl⟩
      | some s =>
        exfalso
        simp only [World.cell?, Addr.add, if_true] at h
        split at h <;> simp_all
    obtain ⟨b, o, rfl⟩ := addr_none (hc 0 h0)
    refine ⟨b, o, rfl, fun j v hv => ?_⟩
    rw [ints_get] at hv
    have hj : j < (zs.take len).length := by
      rcases Nat.lt_or_ge j (zs.take len).length with h' | h'
      · exact h'
      · rw [List.getElem?_eq_none h'] at hv; simp at hv
    rw [List.getElem?_eq_getElem hj] at hv
    simp only [Option.map_some, Option.some.injEq] at hv
    subst hv
    rw [hlen] at hj
    rw [← Addr.add_mid, hc j (by omega), List.getElem_take, List.getD_eq_getElem?_getD, List.getElem?_eq_getElem (by omega)]
    rfl
end
def ShGin (g : Grt) : Prop := g.path.length ≤ 140737488355328 ∧ g.stamp.length ≤ 17592186043904
theorem ShGin.sh {g : Grt} (h : ShGin g) : ShG maxLen g := ⟨by have := h.1; unfold maxLen; omega, by have := h.2; unfold maxLen; omega⟩
set_option maxRecDepth 100000 in
set_option maxHeartbeats 1000000 in
/-- a grant's cells, opened -/
theorem open_grant {H : Type} {enc : TypeId × Value → H} {W : World} {n : Nat} {cs : List Value} {x : DataW H × List MemPlace} (h : DataW.trod enc Try.prog W 0 (fun _ => true) true n 30 cs = some x)
    (hz : ∀ n ∈ x.1.weights Try.prog 30, n ≤ reachBytes) :
    ∃ (g : Grt) (v : Value), cs = pC (g, v) ∧ ArgInts W v g.stamp ∧ ShGin g := by
  obtain ⟨n, xs, hx, hl, hg⟩ := open_parts Try.underlying30 h
  rw [hx] at hz
  have hw : ∀ (j : Nat) t y, ([3, 3, 9, 27, 28, 3] : List TypeId)[j]? = some t → (xs.map (·.1))[j]? = some y → ∀ n ∈ y.weights Try.prog t, n ≤ reachBytes := fun j t y h1 h2 n hn => hz n (by
    have := DataW.weights_mem_each h1 h2 n hn
    simpa [DataW.weights, Try.underlying30] using this)
  obtain ⟨y0, x0, t0⟩ := hg 0 _ rfl
  obtain ⟨y1, x1, t1⟩ := hg 1 _ rfl
  obtain ⟨y2, x2, t2⟩ := hg 2 _ rfl
  obtain ⟨y3, x3, t3⟩ := hg 3 _ rfl
  obtain ⟨y4, x4, t4⟩ := hg 4 _ rfl
  obtain ⟨y5, x5, t5⟩ := hg 5 _ rfl
  clear hg hz
  obtain ⟨a0, a1, a2, a3, a4, a5, rfl⟩ := list6 (hl.trans (by kernel_rfl : Try.prog.cellsOf 30 = 6))
  have t0 : DataW.trod enc Try.prog W 0 (fun _ => true) true n 3 (([a0, a1, a2, a3, a4, a5].drop 0).take (Try.prog.cellsOf 3)) = some y0 := t0
  have t1 : DataW.trod enc Try.prog W 0 (fun _ => true) true n 3 (([a0, a1, a2, a3, a4, a5].drop 1).take (Try.prog.cellsOf 3)) = some y1 := t1
  have t2 : DataW.trod enc Try.prog W 0 (fun _ => true) true n 9 (([a0, a1, a2, a3, a4, a5].drop 2).take (Try.prog.cellsOf 9)) = some y2 := t2
  have t3 : DataW.trod enc Try.prog W 0 (fun _ => true) true n 27 (([a0, a1, a2, a3, a4, a5].drop 3).take (Try.prog.cellsOf 27)) = some y3 := t3
  have t4 : DataW.trod enc Try.prog W 0 (fun _ => true) true n 28 (([a0, a1, a2, a3, a4, a5].drop 4).take (Try.prog.cellsOf 28)) = some y4 := t4
  have t5 : DataW.trod enc Try.prog W 0 (fun _ => true) true n 3 (([a0, a1, a2, a3, a4, a5].drop 5).take (Try.prog.cellsOf 3)) = some y5 := t5
  simp only [show Try.prog.cellsOf 3 = 1 from by kernel_rfl, show Try.prog.cellsOf 9 = 1 from by kernel_rfl, show Try.prog.cellsOf 27 = 1 from by kernel_rfl, show Try.prog.cellsOf 28 = 1 from by kernel_rfl, List.drop_succ_cons, List.drop_zero, List.take_succ_cons, List.take_zero] at t0 t1 t2 t3 t4 t5
  obtain ⟨n0, h0, _, _⟩ := DataW.trod_int Try.underlying3 t0
  obtain ⟨n1, h1, _, _⟩ := DataW.trod_int Try.underlying3 t1
  obtain ⟨s, h2, q2, _⟩ := DataW.trod_string Try.underlying9 t2
  have hpl : s.data.toList.length ≤ reachBytes := hw 2 _ _ rfl x2 _ (by rw [(Prod.mk.inj q2).1]; simp [DataW.weights])
  clear q2
  unfold reachBytes at hpl
  obtain ⟨n3, h3, _, _⟩ := DataW.trod_int Try.underlying27 t3
  obtain ⟨L, hL, hLl⟩ := open_intsG Try.underlying28 Try.underlying3 (by kernel_rfl) (by kernel_rfl) t4 (hw 4 _ _ rfl x4)
  obtain ⟨n5, h5, _, _⟩ := DataW.trod_int Try.underlying3 t5
  simp only [List.cons.injEq, and_true] at h0 h1 h2 h3 h5
  subst h0 h1 h2 h3 h5
  exact ⟨{ id := n0, holder := n1, path := s.data.toList, mode := n3, stamp := L, term := n5 }, a4, rfl, hL, by show s.data.toList.length ≤ _; omega, hLl⟩
def ShRin (r : Rcd) : Prop := ShGin r.grant ∧ r.stamp.length ≤ 17592186043904
set_option maxRecDepth 100000 in
set_option maxHeartbeats 1000000 in
/-- a record's cells, opened -/
theorem open_recC {H : Type} {enc : TypeId × Value → H} {W : World} {n : Nat} {cs : List Value} {x : DataW H × List MemPlace} (h : DataW.trod enc Try.prog W 0 (fun _ => true) true n 32 cs = some x)
    (hz : ∀ n ∈ x.1.weights Try.prog 32, n ≤ reachBytes) :
    ∃ (r : Rcd) (gv rv : Value), cs = rC r gv rv ∧ ArgInts W gv r.grant.stamp ∧ ArgInts W rv r.stamp ∧ ShRin r := by
  obtain ⟨n, xs, hx, hl, hg⟩ := open_parts Try.underlying32 h
  rw [hx] at hz
  have hw : ∀ (j : Nat) t y, ([26, 30, 3, 28, 3, 3, 3] : List TypeId)[j]? = some t → (xs.map (·.1))[j]? = some y → ∀ n ∈ y.weights Try.prog t, n ≤ reachBytes := fun j t y h1 h2 n hn => hz n (by
    have := DataW.weights_mem_each h1 h2 n hn
    simpa [DataW.weights, Try.underlying32] using this)
  obtain ⟨y0, x0, t0⟩ := hg 0 _ rfl
  obtain ⟨y1, x1, t1⟩ := hg 1 _ rfl
  obtain ⟨y2, x2, t2⟩ := hg 2 _ rfl
  obtain ⟨y3, x3, t3⟩ := hg 3 _ rfl
  obtain ⟨y4, x4, t4⟩ := hg 4 _ rfl
  obtain ⟨y5, x5, t5⟩ := hg 5 _ rfl
  obtain ⟨y6, x6, t6⟩ := hg 6 _ rfl
  clear hg hz
  obtain ⟨a0, a1, a2, a3, a4, a5, a6, a7, a8, a9, a10, a11, rfl⟩ := list12 (hl.trans (by kernel_rfl : Try.prog.cellsOf 32 = 12))
  have t0 : DataW.trod enc Try.prog W 0 (fun _ => true) true n 26 (([a0, a1, a2, a3, a4, a5, a6, a7, a8, a9, a10, a11].drop 0).take (Try.prog.cellsOf 26)) = some y0 := t0
  have t1 : DataW.trod enc Try.prog W 0 (fun _ => true) true n 30 (([a0, a1, a2, a3, a4, a5, a6, a7, a8, a9, a10, a11].drop 1).take (Try.prog.cellsOf 30)) = some y1 := t1
  have t2 : DataW.trod enc Try.prog W 0 (fun _ => true) true n 3 (([a0, a1, a2, a3, a4, a5, a6, a7, a8, a9, a10, a11].drop 7).take (Try.prog.cellsOf 3)) = some y2 := t2
  have t3 : DataW.trod enc Try.prog W 0 (fun _ => true) true n 28 (([a0, a1, a2, a3, a4, a5, a6, a7, a8, a9, a10, a11].drop 8).take (Try.prog.cellsOf 28)) = some y3 := t3
  have t4 : DataW.trod enc Try.prog W 0 (fun _ => true) true n 3 (([a0, a1, a2, a3, a4, a5, a6, a7, a8, a9, a10, a11].drop 9).take (Try.prog.cellsOf 3)) = some y4 := t4
  have t5 : DataW.trod enc Try.prog W 0 (fun _ => true) true n 3 (([a0, a1, a2, a3, a4, a5, a6, a7, a8, a9, a10, a11].drop 10).take (Try.prog.cellsOf 3)) = some y5 := t5
  have t6 : DataW.trod enc Try.prog W 0 (fun _ => true) true n 3 (([a0, a1, a2, a3, a4, a5, a6, a7, a8, a9, a10, a11].drop 11).take (Try.prog.cellsOf 3)) = some y6 := t6
  simp only [show Try.prog.cellsOf 3 = 1 from by kernel_rfl, show Try.prog.cellsOf 26 = 1 from by kernel_rfl, show Try.prog.cellsOf 30 = 6 from by kernel_rfl, show Try.prog.cellsOf 28 = 1 from by kernel_rfl, List.drop_succ_cons, List.drop_zero, List.take_succ_cons, List.take_zero] at t0 t1 t2 t3 t4 t5 t6
  obtain ⟨n0, h0, _, _⟩ := DataW.trod_int Try.underlying26 t0
  obtain ⟨g, gv, hgc, hgv, hgs⟩ := open_grant t1 (hw 1 _ _ rfl x1)
  obtain ⟨n2, h2, _, _⟩ := DataW.trod_int Try.underlying3 t2
  obtain ⟨L, hL, hLl⟩ := open_intsG Try.underlying28 Try.underlying3 (by kernel_rfl) (by kernel_rfl) t3 (hw 3 _ _ rfl x3)
  obtain ⟨n4, h4, _, _⟩ := DataW.trod_int Try.underlying3 t4
  obtain ⟨n5, h5, _, _⟩ := DataW.trod_int Try.underlying3 t5
  obtain ⟨n6, h6, _, _⟩ := DataW.trod_int Try.underlying3 t6
  simp only [List.cons.injEq, and_true, pC] at h0 h2 h4 h5 h6 hgc
  obtain ⟨e1, e2, e3, e4, e5, e6⟩ := hgc
  subst h0 h2 h4 h5 h6 e1 e2 e3 e4 e5 e6
  exact ⟨{ kind := n0, grant := g, id := n2, stamp := L, next := n4, boots := n5, longest := n6 }, _, _, rfl, hgv, hL, hgs, hLl⟩
set_option maxRecDepth 100000 in
theorem open_rec {H : Type} {enc : TypeId × Value → H} {W : World} {b0 : Nat} {v : Value} {d : DataW H} {ps : List MemPlace} (hv : Value.okWide Try.prog W .any b0 32 v) (h : DataW.Trod enc Try.prog W 0 (fun _ => true) true 32 v d ps)
    (hz : ∀ n ∈ d.weights Try.prog 32, n ≤ reachBytes) :
    ∃ (r : Rcd) (gv rv : Value), v = .agg (rC r gv rv).toArray ∧ ArgInts W gv r.grant.stamp ∧ ArgInts W rv r.stamp ∧ ShRin r := by
  obtain ⟨cs, rfl, _⟩ := okWide_struct Try.underlying32 hv
  obtain ⟨fuel, hf⟩ := h
  obtain ⟨r, gv, rv, e, h1, h2, h3⟩ := open_recC hf hz
  refine ⟨r, gv, rv, ?_, h1, h2, h3⟩
  have e : cs.toList = rC r gv rv := e
  rw [← e]
end Go.Proofs.Ytifdceofglocdaa

/- Bytes that came in. No condition beyond what each theorem states. -/
namespace Go.Proofs.Ytifdceofglocdaa
open Go Go.RowKit Go.PlainAid Go.ChangeShapes Go.WideShapes Go.ChangeAt
section
variable {H : Type} {enc : TypeId × Value → H} {P : Program}
theorem addr_plain {w : World} {a : Addr} {v : Value} (h : w.cell? (a.add 0) = some v) : ∃ b o, a = ⟨b, o, none⟩ := by
  obtain ⟨b, o, s⟩ := a
  cases s with
  | none => exact ⟨b, o, rfl⟩
  | some s =>
    exfalso
    simp only [World.cell?, Addr.add, if_true] at h
    split at h <;> simp_all
/-- a number that a byte holds -/
def u8of (z : Int) : UInt8 := UInt8.ofNat z.toNat
theorem u8of_val {z : Int} (h : (Lit.int .u8 z).wf = true) : ((u8of z).toNat : Int) = z := by
  have hb : 0 ≤ z ∧ z < 256 := by
    simp [Lit.wf, IntKind.min, IntKind.max, IntKind.signed, IntKind.bits] at h
    omega
  unfold u8of
  rw [UInt8.toNat_ofNat']
  omega
/-- cells of bytes that came in -/
theorem argB_cells {W : World} {a : Option Addr} {len cap : Nat} {zs : List Int} (hz : zs.length = cap) (hl : len ≤ cap) (ha : a = none → cap = 0) (hw : ∀ n ∈ zs, (Lit.int .u8 n).wf = true)
    (hc : ∀ a', a = some a' → ∀ c, c < cap → W.cell? (a'.add c) = some (.int .u8 (zs.getD c 0))) : ArgB W (.slice a len cap) ((zs.take len).map u8of) := by
  have hlen : ((zs.take len).map u8of).length = len := by simp [hz, hl]
  refine ⟨a, cap, by rw [hlen], by rw [hlen]; exact hl, fun hne => ?_⟩
  have h0 : 0 < cap := by
    rcases Nat.eq_zero_or_pos cap with h0 | h0
    · exfalso; apply hne; rw [List.eq_nil_of_length_eq_zero (show ((zs.take len).map u8of).length = 0 by rw [hlen]; omega)]; rfl
    · exact h0
  obtain ⟨a', rfl⟩ : ∃ a', a = some a' := by
    cases a with
    | none => have := ha rfl; omega
    | some a' => exact ⟨a', rfl⟩
  obtain ⟨b, o, rfl⟩ := addr_plain (hc a' rfl 0 h0)
  refine ⟨b, o, rfl, fun j v hv => ?_⟩
  rw [u8s_get] at hv
  have hj : j < ((zs.take len).map u8of).length := by
    rcases Nat.lt_or_ge j ((zs.take len).map u8of).length with h' | h'
    · exact h'
    · rw [List.getElem?_eq_none h'] at hv; simp at hv
  rw [List.getElem?_eq_getElem hj] at hv
  simp only [Option.map_some, Option.some.injEq] at hv
  subst hv
  rw [hlen] at hj
  have hjz : j < zs.length := by omega
  rw [← Addr.add_mid, hc _ rfl j (by omega), List.getElem_map, List.getElem_take, List.getD_eq_getElem?_getD, List.getElem?_eq_getElem hjz, u8of_val (hw _ (List.getElem_mem hjz))]
  rfl
/-- bytes that came in -/
theorem open_bytesA {W : World} {b0 : Nat} {t e : TypeId} {v : Value} {d : DataW H} {ps : List MemPlace} (ht : P.underlying t = some (.slice e)) (he : P.underlying e = some (.int .u8))
    (ce : P.cellsOf e = 1) (be : P.bytesOf e = 1) (hv : Value.okWide P W .any b0 t v) (h : DataW.Trod enc P W 0 (fun _ => true) true t v d ps)
    (hz : ∀ n ∈ d.weights P t, n ≤ reachBytes) :
    ∃ (A : Option Addr) (n c : Nat) (l : List UInt8), v = .slice A n c ∧ ArgB W (.slice A n c) l ∧ c ≤ 140737488351232 := by
  obtain ⟨a, len, cap, rfl⟩ := okWide_slice ht hv
  obtain ⟨fuel, hf⟩ := h
  rcases open_ints ht he ce hf with ⟨hcs, hx⟩ | ⟨a', len', cap', zs, hcs, _, hl, hm, hn, hx, hc, hs⟩
  · simp [Value.cells] at hcs
    obtain ⟨rfl, rfl, rfl⟩ := hcs
    exact ⟨none, 0, 0, [], rfl, ArgB.nil _ _ _, by simp⟩
  · simp [Value.cells] at hcs
    obtain ⟨rfl, rfl, rfl⟩ := hcs
    have hn' : zs.length = cap := by simpa using hn
    injection hx with hd _
    have hw := hz ((len + (cap - len)) * P.bytesOf e) (by rw [hd]; simp [DataW.weights, ht, hn', lits, Nat.min_eq_left hl])
    rw [be] at hw
    refine ⟨some a', len, cap, _, rfl, argB_cells hn' hl (fun h => by cases h) hs (fun a'' h c hcc => by injection h with h; subst h; exact hc c (by omega)), by simp [reachBytes] at hw; omega⟩
end
end Go.Proofs.Ytifdceofglocdaa
