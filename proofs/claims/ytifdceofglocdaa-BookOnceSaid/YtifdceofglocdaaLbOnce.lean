/- BookOnce: whatever records come, a book stays one, its counter never falls, and no counter is brought twice, for every book and list of records. No condition. -/
import Derived.Test.YtifdceofglocdaaB21
import Derived.Test.YtifdceofglocdaaB24
import Derived.Test.YtifdceofglocdaaB20
import Derived.Deep.CutBlock
import Derived.Deep.MidRow
import Derived.Deep.CutRange
import Derived.Deep.DeepCutAuto
import Derived.ProofKit
import Derived.OpenShut
import Derived.ShutString
import Derived.ChangeOld
import Derived.SizedLaws
import Derived.Below
namespace Go.Proofs.Ytifdceofglocdaa.bookOnce
open Go.ChangeShapes Go.WideShapes Go.ChangeAt Go.RowKit
open Go.ChangeMaps (open_string shut_string)

theorem own : ownKnob Try.prog.godebug = none := by kernel_rfl
theorem laidOut : laidOutB Try.prog = true := by kernel_rfl
set_option maxRecDepth 100000 in
set_option maxHeartbeats 8000000 in
theorem walk (n k t : Int) (sv : Value) (l : List GP) (A : Option Addr) (m c : Nat) (L : List RP) (W : World) (hv : ArgG W sv l) (hl : l.length ≤ 1954687338211) (hp : ∀ p ∈ l, ShGin p.1) (hm : m = L.length) (hL : ArgRs W (.slice A m c) L) (hLl : L.length ≤ 1034834473200) :
    Calls Try.prog 9 #[.agg #[.int .i64 n, .int .i64 k, .int .i64 t, sv], .slice A m c] W fun e w' => e = .returned (.bool true) ∧ Below W.heap.size W w' := by
  subst hm
  obtain ⟨A0, c0, rfl, _⟩ := hv.len
  have HSH := Lib.hid (ShGin.shL hl hp)
  obtain ⟨w0, hw0⟩ : ∃ w0, w0 = W.alloc (.cells #[.int .i64 n, .int .i64 k, .int .i64 t, .slice A0 l.length c0] 25) := ⟨_, rfl⟩
  have HB0 := Lib.hid (show Bk w0 W.heap.size 25 [.int .i64 n, .int .i64 k, .int .i64 t, .slice A0 l.length c0] by rw [hw0]; exact Bk.new' rfl rfl)
  have K0 := Lib.hid (show Kp No W w0 by rw [hw0]; exact (Kp.refl No W).alloc _)
  have HV0 := Lib.hid (hv.no K0.out)
  have HST := Lib.hid (show ∀ p ∈ l, p.1.stamp.length ≤ 17592186043904 from fun p q => (hp p q).2)
  have HL := Lib.hid hl
  have HLR := Lib.hid hL
  have HLL := Lib.hid hLl
  have HW := Lib.hid hw0
  have pa := awake_any w0
  clear hw0 hv hl hp hL hLl
  go_enter Try.func9, Try.ntmps9
  go_upto_region 1 with (fail)
  rw [← HW.out]
  clear HW
  go_wp2_with fail
  refine pa.mono ?_
  rintro e w1 ⟨rfl, k1⟩
  have HB1 := Lib.hid (HB0.out.no k1); have HV1 := Lib.hid (HV0.out.no k1); have K1 := Lib.hid (K0.out.trans k1)
  clear pa k1 HB0 HV0 K0
  have po := ownB_any n k t (.slice A0 l.length c0) l w1 HV1.out HL.out HST.out
  have z0 : w1.cell? ⟨W.heap.size, 0, none⟩ = some (.int .i64 n) := HB1.out.cell 0
  have z1 : w1.cell? ⟨W.heap.size, 1, none⟩ = some (.int .i64 k) := HB1.out.cell 1
  have z2 : w1.cell? ⟨W.heap.size, 2, none⟩ = some (.int .i64 t) := HB1.out.cell 2
  have z3 : w1.cell? ⟨W.heap.size, 3, none⟩ = some (.slice A0 l.length c0) := HB1.out.cell 3
  go_wp2_with fail
  refine po.mono ?_
  rintro e w2 ⟨sv2, l2, rfl, hg2, ho2, k2⟩
  have HSH2 := Lib.hid (shL_gs HSH.out hg2)
  have pv := bvalid_any n k t sv2 l2 w2 ho2.arg HSH2.out
  rw [bk_gs hg2] at pv
  have HB2 := Lib.hid (HB1.out.no k2); have HV2 := Lib.hid (HV1.out.no k2); have K2 := Lib.hid (K1.out.trans k2)
  clear po ho2 hg2 k2 z0 z1 z2 z3 HSH2 HB1 HV1 K1
  go_wp2_with fail
  refine pv.mono ?_
  rintro e w3 ⟨rfl, k3⟩
  have HB3 := Lib.hid (HB2.out.no k3); have HV3 := Lib.hid (HV2.out.no k3); have K3 := Lib.hid (K2.out.trans k3)
  clear pv k3 HB2 HV2 K2
  by_cases hval : validB (bk n k t l)
  case neg =>
    rw [decide_eq_false hval]
    clear hval
    go_wp2
    go_ret
    exact ⟨rfl, K3.out.below (Nat.le_refl _) fun _ _ m => m⟩
  case pos =>
  have HVAL := Lib.hid hval
  rw [decide_eq_true hval]
  clear hval
  by_cases h400 : (400 : Int) < (L.length : Int)
  · go_wp2
    go_ret
    exact ⟨rfl, K3.out.below (Nat.le_refl _) fun _ _ m => m⟩
  have h4 : L.length ≤ 400 := by omega
  have H4 := Lib.hid h4
  clear h4
  have po := ownB_any n k t (.slice A0 l.length c0) l w3 HV3.out HL.out HST.out
  have z0 : w3.cell? ⟨W.heap.size, 0, none⟩ = some (.int .i64 n) := HB3.out.cell 0
  have z1 : w3.cell? ⟨W.heap.size, 1, none⟩ = some (.int .i64 k) := HB3.out.cell 1
  have z2 : w3.cell? ⟨W.heap.size, 2, none⟩ = some (.int .i64 t) := HB3.out.cell 2
  have z3 : w3.cell? ⟨W.heap.size, 3, none⟩ = some (.slice A0 l.length c0) := HB3.out.cell 3
  go_wp2_with fail
  refine po.mono ?_
  rintro e w4 ⟨sv4, l4, rfl, hg4, ho4, k4⟩
  obtain ⟨A4, c4, rfl, _⟩ := own_len ho4.1
  have HB4 := Lib.hid (HB3.out.no k4); have HK34 := Lib.hid k4
  have HO4 := Lib.hid (ho4.mono K3.out.size); have HG4 := Lib.hid hg4
  have K4 := Lib.hid (K3.out.trans k4)
  clear po ho4 hg4 k4 z0 z1 z2 z3 HV3 HB3 h400
  have z0 : w4.cell? ⟨W.heap.size, 0, none⟩ = some (.int .i64 n) := HB4.out.cell 0
  have z1 : w4.cell? ⟨W.heap.size, 1, none⟩ = some (.int .i64 k) := HB4.out.cell 1
  have z2 : w4.cell? ⟨W.heap.size, 2, none⟩ = some (.int .i64 t) := HB4.out.cell 2
  have z3 : w4.cell? ⟨W.heap.size, 3, none⟩ = some (.slice A0 l.length c0) := HB4.out.cell 3
  have v0 := HB4.out.frozen 0; have v1 := HB4.out.frozen 1; have v2 := HB4.out.frozen 2; have v3 := HB4.out.frozen 3
  go_upto_region 6 with (fail)
  have B5 := (((HB4.out.set_ 0 (.int .i64 n)).set_ 1 (.int .i64 k)).set_ 2 (.int .i64 t)).set_ 3 (.slice A4 l4.length c4)
  have K5 : Kp (One W.heap.size) w4 _ := ((((Kp.refl (One W.heap.size) w4).set (.inl (One.self _)) 0 (.int .i64 n)).set (.inl (One.self _)) 1 (.int .i64 k)).set (.inl (One.self _)) 2 (.int .i64 t)).set (.inl (One.self _)) 3 (.slice A4 l4.length c4)
  generalize hw5 : World.setCell _ ⟨W.heap.size, 3, none⟩ _ = w5 at B5 K5 ⊢
  have HO5 := Lib.hid (show OwnG w5 W.heap.size (.slice A4 l4.length c4) l4 from HO4.out.far K5 HB4.out (by decide) (by decide))
  have HB5 := Lib.hid (show Bk w5 W.heap.size 25 [.int .i64 n, .int .i64 k, .int .i64 t, .slice A4 l4.length c4] from B5)
  have HK5 := Lib.hid (show Kp No W w5 from K4.out.then_ K5 fun i hi m => by have h1 : i = W.heap.size := m; omega)
  have HV4 := Lib.hid (show validB (bk n k t l4) by rw [bk_gs HG4.out]; exact HVAL.out)
  clear B5 K5 hw5 z0 z1 z2 z3 v0 v1 v2 v3 HB4 HK34 HO4 K4 K3 HG4 HVAL
  go_wp2
  go_loopw [29, 5] (fun i u wr => ∃ (j : Nat) (n' k' t' : Int) (sv' : Value) (l' : List GP) (ul : List Int), j ≤ L.length ∧ i = .int .i64 j ∧ Bk wr W.heap.size 25 [.int .i64 n', .int .i64 k', .int .i64 t', sv'] ∧ OwnG wr W.heap.size sv' l' ∧ validB (bk n' k' t' l') ∧ wr.ownsRow W.heap.size 3 1 u ul.length (ints ul) ∧ ul.length ≤ j ∧ (∀ x ∈ ul, x < n') ∧ Kp No W wr) (fun i _ _ => L.length - (intOf i).toNat)
  case atStart => exact ⟨0, n, k, t, _, l4, [], Nat.zero_le _, rfl, HB5.out, HO5.out, HV4.out, nil_own _ _ _ _, Nat.le_refl _, (fun x hx => by cases hx), HK5.out⟩
  case round =>
    obtain ⟨j, n', k', t', sv', l', ul, hj, rfl, hb, ho, hva, hu, hul, hux, hk⟩ := hrel
    have HB := Lib.hid hb; have HO := Lib.hid ho; have HVA := Lib.hid hva; have HK := Lib.hid hk; have HU := Lib.hid hu; have HUX := Lib.hid hux; have HUL := Lib.hid hul
    obtain ⟨A', c', rfl, _⟩ := own_len ho.1
    obtain ⟨Au, cu, rfl, _⟩ := own_len hu
    clear hb ho hva hk hu hux hul
    by_cases hlt : j < L.length
    · have hk0 : (0 : Int) ≤ (j : Int) := by omega
      have hk1 : (j : Int) < (L.length : Int) := by omega
      obtain ⟨g, o, eA, hcell⟩ := (HLR.out.no HK.out).cells hlt
      obtain rfl : A = some ⟨g, o, none⟩ := eA
      have hin : RPin wr L[j] := by obtain ⟨_, _, _, _, _, h⟩ := HLR.out.no HK.out; exact h _ (List.getElem_mem hlt)
      obtain ⟨p, hp⟩ : ∃ p, p = L[j] := ⟨_, rfl⟩
      rw [← hp] at hin hcell
      obtain ⟨r, gv, rv⟩ := p
      have hin1 : ArgInts wr gv r.grant.stamp := hin.1
      have hin2 : ArgInts wr rv r.stamp := hin.2.1
      have HSR := Lib.hid (show ShRin r from hin.2.2)
      have hcell : ∀ (i : Nat) u, (rC r gv rv)[i]? = some u → wr.cell? ⟨g, o + j * 12 + i, none⟩ = some u := hcell
      clear hin hp
      obtain ⟨Ag, cg, rfl, _⟩ := ints_of _ _ _ hin1
      obtain ⟨Ar, cr, rfl, _⟩ := ints_of _ _ _ hin2
      have y0 : wr.cell? ⟨g, o + j * 12, none⟩ = some (.int .i64 r.kind) := hcell 0 _ rfl
      have y1 : wr.cell? ⟨g, o + j * 12 + 1, none⟩ = some (.int .i64 r.grant.id) := hcell 1 _ rfl
      have y2 : wr.cell? ⟨g, o + j * 12 + 2, none⟩ = some (.int .i64 r.grant.holder) := hcell 2 _ rfl
      have y3 : wr.cell? ⟨g, o + j * 12 + 3, none⟩ = some (.string ⟨r.grant.path.toArray⟩) := hcell 3 _ rfl
      have y4 : wr.cell? ⟨g, o + j * 12 + 4, none⟩ = some (.int .i64 r.grant.mode) := hcell 4 _ rfl
      have y5 : wr.cell? ⟨g, o + j * 12 + 5, none⟩ = some (.slice Ag r.grant.stamp.length cg) := hcell 5 _ rfl
      have y6 : wr.cell? ⟨g, o + j * 12 + 6, none⟩ = some (.int .i64 r.grant.term) := hcell 6 _ rfl
      have y7 : wr.cell? ⟨g, o + j * 12 + 7, none⟩ = some (.int .i64 r.id) := hcell 7 _ rfl
      have y8 : wr.cell? ⟨g, o + j * 12 + 8, none⟩ = some (.slice Ar r.stamp.length cr) := hcell 8 _ rfl
      have y9 : wr.cell? ⟨g, o + j * 12 + 9, none⟩ = some (.int .i64 r.next) := hcell 9 _ rfl
      have y10 : wr.cell? ⟨g, o + j * 12 + 10, none⟩ = some (.int .i64 r.boots) := hcell 10 _ rfl
      have y11 : wr.cell? ⟨g, o + j * 12 + 11, none⟩ = some (.int .i64 r.longest) := hcell 11 _ rfl
      obtain ⟨x7, hx7⟩ : ∃ x7, x7 = wr.heap.size := ⟨_, rfl⟩
      obtain ⟨wa, hwa⟩ : ∃ wa, wa = wr.alloc (.cells (rC r (.slice Ag r.grant.stamp.length cg) (.slice Ar r.stamp.length cr)).toArray 32) := ⟨_, rfl⟩
      have HKA := Lib.hid (show Kp No wr wa by rw [hwa]; exact (Kp.refl No wr).alloc _)
      have HR7 := Lib.hid (show Bk wa x7 32 (rC r (.slice Ag r.grant.stamp.length cg) (.slice Ar r.stamp.length cr)) by rw [hwa]; exact Bk.new' hx7 rfl)
      have HG7 := Lib.hid (hin1.no HKA.out); have HS7 := Lib.hid (hin2.no HKA.out)
      have HWA := Lib.hid hwa; have HX7 := Lib.hid hx7
      have HKW := Lib.hid (HK.out.trans HKA.out)
      clear hwa hx7 hin1 hin2 hcell
      go_upto_region 10 with (fail)
      unfold rC at HWA
      rw [← HWA.out, ← HX7.out]
      clear HWA y0 y1 y2 y3 y4 y5 y6 y7 y8 y9 y10 y11
      obtain ⟨b', hb'⟩ : ∃ b', b' = (applyB (bk n' k' t' l') r).1 := ⟨_, rfl⟩
      obtain ⟨er, her⟩ : ∃ er, er = (applyB (bk n' k' t' l') r).2 := ⟨_, rfl⟩
      have HBE := Lib.hid (And.intro hb' her)
      clear hb' her
      go_cut [8, 9] (fun s8 s9 wx => ∃ q8 A8 l8 c8, s8 = .pointer (some ⟨q8, 0, none⟩) ∧ s9 = .int .i64 er ∧ Bk wx q8 25 [.int .i64 b'.next, .int .i64 b'.boots, .int .i64 b'.longest, .slice A8 l8.length c8] ∧ gsL l8 = b'.grants ∧ OwnG wx wa.heap.size (.slice A8 l8.length c8) l8 ∧ wa.heap.size ≤ q8 ∧ Kp No wa wx)
      case first =>
        have po := fun W2 (kk : Kp No wa W2) => (ownB_any n' k' t' (.slice A' l'.length c') l' W2 ((HO.out.no (HKA.out.trans kk)).arg) (by have := (valid_sh HVA.out).1; have h6 : (gsL l').length ≤ 6 := HVA.out.2.2.1; rw [gsL_len] at h6; omega) (fun p hp => by
          have h1 := (HVA.out.2.2.2.1 p.1 (List.mem_map_of_mem hp)).1
          have h3 := (cnt_of_valid h1.2.2.2.2.1).1
          omega)).mono fun e w' ⟨sv, l2, h1, h2, h3, h4⟩ => (⟨sv, l2, h1, h2, h3.arg, h4⟩ : ∃ sv l2, e = Ending.returned (.agg #[.int .i64 n', .int .i64 k', .int .i64 t', sv]) ∧ gsL l2 = gsL l' ∧ ArgG w' sv l2 ∧ Kp No W2 w')
        have pr := fun W2 (kk : Kp No wa W2) => (ownRec_any r (.slice Ag r.grant.stamp.length cg) (.slice Ar r.stamp.length cr) W2 (HG7.out.no kk) (HS7.out.no kk) HSR.out.1.2 HSR.out.2).mono fun e w' ⟨gv, rv, h1, h2, h3, h4⟩ => (⟨gv, rv, h1, own_argI h2, own_argI h3, h4⟩ : ∃ gv rv, e = Ending.returned (.agg (rC r gv rv).toArray) ∧ ArgInts w' gv r.grant.stamp ∧ ArgInts w' rv r.stamp ∧ Kp No W2 w')
        have pap := fun W2 (kk : Kp No wa W2) sv l2 gv rv (hg : gsL l2 = gsL l') (ha : ArgG W2 sv l2) (hag : ArgInts W2 gv r.grant.stamp) (har : ArgInts W2 rv r.stamp) => (apply_any n' k' t' sv l2 r gv rv W2 ha (shL_gs (valid_sh HVA.out) hg) hag har HSR.out.1.sh (by have := HSR.out.2; unfold maxLen; omega)).mono fun e w' ⟨s8, l8, h1, h2, h3, h4⟩ => (⟨s8, l8, by rw [h1, bk_gs hg, HBE.out.1, HBE.out.2], by rw [h2, bk_gs hg, HBE.out.1], h3.mono kk.size, h4⟩ : ∃ s8 l8, e = Ending.returned (.tuple #[.agg #[.int .i64 b'.next, .int .i64 b'.boots, .int .i64 b'.longest, s8], .int .i64 er]) ∧ gsL l8 = b'.grants ∧ OwnG w' wa.heap.size s8 l8 ∧ Kp No W2 w')
        have sk : ∀ W2, Kp No wa W2 → W2.cell? ⟨W.heap.size, 0, none⟩ = some (.int .i64 n') ∧ W2.cell? ⟨W.heap.size, 1, none⟩ = some (.int .i64 k') ∧ W2.cell? ⟨W.heap.size, 2, none⟩ = some (.int .i64 t') ∧ W2.cell? ⟨W.heap.size, 3, none⟩ = some (.slice A' l'.length c') ∧ W2.cell? ⟨x7, 0, none⟩ = some (.int .i64 r.kind) ∧ W2.cell? ⟨x7, 1, none⟩ = some (.int .i64 r.grant.id) ∧ W2.cell? ⟨x7, 2, none⟩ = some (.int .i64 r.grant.holder) ∧ W2.cell? ⟨x7, 3, none⟩ = some (.string ⟨r.grant.path.toArray⟩) ∧ W2.cell? ⟨x7, 4, none⟩ = some (.int .i64 r.grant.mode) ∧ W2.cell? ⟨x7, 5, none⟩ = some (.slice Ag r.grant.stamp.length cg) ∧ W2.cell? ⟨x7, 6, none⟩ = some (.int .i64 r.grant.term) ∧ W2.cell? ⟨x7, 7, none⟩ = some (.int .i64 r.id) ∧ W2.cell? ⟨x7, 8, none⟩ = some (.slice Ar r.stamp.length cr) ∧ W2.cell? ⟨x7, 9, none⟩ = some (.int .i64 r.next) ∧ W2.cell? ⟨x7, 10, none⟩ = some (.int .i64 r.boots) ∧ W2.cell? ⟨x7, 11, none⟩ = some (.int .i64 r.longest) := fun W2 kk => ⟨(HB.out.no (HKA.out.trans kk)).cell 0, (HB.out.no (HKA.out.trans kk)).cell 1, (HB.out.no (HKA.out.trans kk)).cell 2, (HB.out.no (HKA.out.trans kk)).cell 3, (HR7.out.no kk).cell 0, (HR7.out.no kk).cell 1, (HR7.out.no kk).cell 2, (HR7.out.no kk).cell 3, (HR7.out.no kk).cell 4, (HR7.out.no kk).cell 5, (HR7.out.no kk).cell 6, (HR7.out.no kk).cell 7, (HR7.out.no kk).cell 8, (HR7.out.no kk).cell 9, (HR7.out.no kk).cell 10, (HR7.out.no kk).cell 11⟩
        have hF := sk _ ((Kp.refl No wa).drew)
        simp only [rC] at pr pap
        refine rg_begin (fun W2 => W2.cell? ⟨W.heap.size, 0, none⟩ = some (.int .i64 n') ∧ W2.cell? ⟨W.heap.size, 1, none⟩ = some (.int .i64 k') ∧ W2.cell? ⟨W.heap.size, 2, none⟩ = some (.int .i64 t') ∧ W2.cell? ⟨W.heap.size, 3, none⟩ = some (.slice A' l'.length c') ∧ W2.cell? ⟨x7, 0, none⟩ = some (.int .i64 r.kind) ∧ W2.cell? ⟨x7, 1, none⟩ = some (.int .i64 r.grant.id) ∧ W2.cell? ⟨x7, 2, none⟩ = some (.int .i64 r.grant.holder) ∧ W2.cell? ⟨x7, 3, none⟩ = some (.string ⟨r.grant.path.toArray⟩) ∧ W2.cell? ⟨x7, 4, none⟩ = some (.int .i64 r.grant.mode) ∧ W2.cell? ⟨x7, 5, none⟩ = some (.slice Ag r.grant.stamp.length cg) ∧ W2.cell? ⟨x7, 6, none⟩ = some (.int .i64 r.grant.term) ∧ W2.cell? ⟨x7, 7, none⟩ = some (.int .i64 r.id) ∧ W2.cell? ⟨x7, 8, none⟩ = some (.slice Ar r.stamp.length cr) ∧ W2.cell? ⟨x7, 9, none⟩ = some (.int .i64 r.next) ∧ W2.cell? ⟨x7, 10, none⟩ = some (.int .i64 r.boots) ∧ W2.cell? ⟨x7, 11, none⟩ = some (.int .i64 r.longest)) 11 (by kernel_rfl) ?_
        refine rg_take (i := 0) (v := ?vp0) (by simp only [List.getElem?_toArray, List.getElem?_cons_zero]; rfl) (by kernel_rfl) (by exact fun _ _ _ h => h) (by rfl) ?rp0 hF ?sp0
        case rp0 => (intro W9 hW9; obtain ⟨f1, f2, f3, f4, f5, f6, f7, f8, f9, f10, f11, f12, f13, f14, f15, f16⟩ := hW9; go_simp; try with_reducible rfl)
        try simp only [Act.put, List.setIfInBounds_toArray, List.set_cons_zero, List.set_cons_succ]
        refine rg_take (i := 2) (v := ?vp2) (by simp only [List.getElem?_toArray, List.getElem?_cons_succ, List.getElem?_cons_zero]; rfl) (by kernel_rfl) (by exact fun _ _ _ h => h) (by rfl) ?rp2 hF ?sp2
        case rp2 => (intro W9 hW9; obtain ⟨f1, f2, f3, f4, f5, f6, f7, f8, f9, f10, f11, f12, f13, f14, f15, f16⟩ := hW9; go_simp; try with_reducible rfl)
        try simp only [Act.put, List.setIfInBounds_toArray, List.set_cons_zero, List.set_cons_succ]
        refine rg_two (i := 1) (j := 8) (oi := ?op1) (oj := ?op8) ?ap1 ?ap8 ?bp1 ?cp1 ?cp8 ?dp1 ?dp8
        case ap1 => (simp only [List.getElem?_toArray, List.getElem?_cons_succ, List.getElem?_cons_zero]; rfl)
        case ap8 => (simp only [List.getElem?_toArray, List.getElem?_cons_succ, List.getElem?_cons_zero]; rfl)
        case bp1 => kernel_rfl
        case cp1 => rfl
        case cp8 => rfl
        case dp1 =>
          intro K hK
          (go_simp; refine (po _ (Kp.refl No wa).drew).mono ?_; rintro e wg0 ⟨sv0, la0, rfl, hl0, ha0, kg0⟩)
          refine rg_use hK (sk _ ((Kp.refl No wa).drew.trans kg0)) (fun hF => ?_)
          clear hK K
          try simp only [Act.put, List.setIfInBounds_toArray, List.set_cons_zero, List.set_cons_succ]
          refine rg_two (i := 3) (j := 8) (oi := ?opx1x3) (oj := ?opx1x8) ?apx1x3 ?apx1x8 ?bpx1x3 ?cpx1x3 ?cpx1x8 ?dpx1x3 ?dpx1x8
          case apx1x3 => (simp only [List.getElem?_toArray, List.getElem?_cons_succ, List.getElem?_cons_zero]; rfl)
          case apx1x8 => (simp only [List.getElem?_toArray, List.getElem?_cons_succ, List.getElem?_cons_zero]; rfl)
          case bpx1x3 => kernel_rfl
          case cpx1x3 => rfl
          case cpx1x8 => rfl
          case dpx1x3 =>
            intro K hK
            (go_simp; refine (pr _ ((Kp.refl No wa).drew.trans kg0)).mono ?_; rintro e wg1 ⟨gv1, rv1, rfl, hag1, har1, kg1⟩)
            refine rg_use hK (sk _ (((Kp.refl No wa).drew.trans kg0).trans kg1)) (fun hF => ?_)
            clear hK K
            try simp only [Act.put, List.setIfInBounds_toArray, List.set_cons_zero, List.set_cons_succ]
            refine rg_two (i := 4) (j := 8) (oi := ?opx1xx3x4) (oj := ?opx1xx3x8) ?apx1xx3x4 ?apx1xx3x8 ?bpx1xx3x4 ?cpx1xx3x4 ?cpx1xx3x8 ?dpx1xx3x4 ?dpx1xx3x8
            case apx1xx3x4 => (simp only [List.getElem?_toArray, List.getElem?_cons_succ, List.getElem?_cons_zero]; rfl)
            case apx1xx3x8 => (simp only [List.getElem?_toArray, List.getElem?_cons_succ, List.getElem?_cons_zero]; rfl)
            case bpx1xx3x4 => kernel_rfl
            case cpx1xx3x4 => rfl
            case cpx1xx3x8 => rfl
            case dpx1xx3x4 =>
              intro K hK
              (go_simp; refine (pap _ (((Kp.refl No wa).drew.trans kg0).trans kg1) _ _ _ _ hl0 (ha0.no kg1) hag1 har1).mono ?_; rintro e wg2 ⟨sv2, la2, rfl, hl2, ho2, kg2⟩; obtain ⟨Aa2, ca2, rfl, _⟩ := own_len ho2.1)
              refine rg_use hK (sk _ ((((Kp.refl No wa).drew.trans kg0).trans kg1).trans kg2)) (fun hF => ?_)
              clear hK K
              try simp only [Act.put, List.setIfInBounds_toArray, List.set_cons_zero, List.set_cons_succ]
              refine rg_take (i := 5) (v := ?vpx1xx3xx4x5) (by simp only [List.getElem?_toArray, List.getElem?_cons_succ, List.getElem?_cons_zero]; rfl) (by kernel_rfl) (by exact fun _ _ _ h => h) (by rfl) ?rpx1xx3xx4x5 hF ?spx1xx3xx4x5
              case rpx1xx3xx4x5 => (intro W hW; clear hW; go_simp; try with_reducible rfl)
              try simp only [Act.put, List.setIfInBounds_toArray, List.set_cons_zero, List.set_cons_succ]
              refine rg_take (i := 6) (v := ?vpx1xx3xx4x6) (by simp only [List.getElem?_toArray, List.getElem?_cons_succ, List.getElem?_cons_zero]; rfl) (by kernel_rfl) (by exact fun _ _ _ h => h) (by rfl) ?rpx1xx3xx4x6 hF ?spx1xx3xx4x6
              case rpx1xx3xx4x6 => (intro W hW; clear hW; go_simp; try with_reducible rfl)
              try simp only [Act.put, List.setIfInBounds_toArray, List.set_cons_zero, List.set_cons_succ]
              refine rg_take (i := 7) (v := ?vpx1xx3xx4x7) (by simp only [List.getElem?_toArray, List.getElem?_cons_succ, List.getElem?_cons_zero]; rfl) (by kernel_rfl) (by exact fun _ _ _ h => h) (by rfl) ?rpx1xx3xx4x7 hF ?spx1xx3xx4x7
              case rpx1xx3xx4x7 => (intro W hW; clear hW; go_simp; try with_reducible rfl)
              try simp only [Act.put, List.setIfInBounds_toArray, List.set_cons_zero, List.set_cons_succ]
              refine rg_one (i := 8) (oi := ?opx1xx3xx4x8) ?apx1xx3xx4x8 ?bpx1xx3xx4x8 ?cpx1xx3xx4x8 ?dpx1xx3xx4x8
              case apx1xx3xx4x8 => (simp only [List.getElem?_toArray, List.getElem?_cons_succ, List.getElem?_cons_zero]; rfl)
              case bpx1xx3xx4x8 => kernel_rfl
              case cpx1xx3xx4x8 => rfl
              intro K hK
              go_simp
              refine rg_use hK (sk _ (((((Kp.refl No wa).drew.trans kg0).trans kg1).trans kg2).alloc (.cells #[.int .i64 0, .int .i64 0, .int .i64 0, .slice none 0 0] 25))) (fun hF => ?_)
              clear hK K
              try simp only [Act.put, List.setIfInBounds_toArray, List.set_cons_zero, List.set_cons_succ]
              refine rg_one (i := 9) (oi := ?opx1xx3xx4x9) ?apx1xx3xx4x9 ?bpx1xx3xx4x9 ?cpx1xx3xx4x9 ?dpx1xx3xx4x9
              case apx1xx3xx4x9 => (simp only [List.getElem?_toArray, List.getElem?_cons_succ, List.getElem?_cons_zero]; rfl)
              case bpx1xx3xx4x9 => kernel_rfl
              case cpx1xx3xx4x9 => rfl
              intro K hK
              go_simp
              refine rg_use hK (sk _ (((((Kp.refl No wa).drew.trans kg0).trans kg1).trans kg2).alloc (.cells #[.int .i64 b'.next, .int .i64 b'.boots, .int .i64 b'.longest, .slice Aa2 la2.length ca2] 25))) (fun hF => ?_)
              clear hK K
              try simp only [Act.put, List.setIfInBounds_toArray, List.set_cons_zero, List.set_cons_succ]
              refine rg_take (i := 10) (v := ?vpx1xx3xx4x10) (by simp only [List.getElem?_toArray, List.getElem?_cons_succ, List.getElem?_cons_zero]; rfl) (by kernel_rfl) (by exact fun _ _ _ h => h) (by rfl) ?rpx1xx3xx4x10 hF ?spx1xx3xx4x10
              case rpx1xx3xx4x10 => (intro W hW; clear hW; go_simp; try with_reducible rfl)
              try simp only [Act.put, List.setIfInBounds_toArray, List.set_cons_zero, List.set_cons_succ]
              refine rg_done (by kernel_rfl) ?_
              go_wp2
              go_meet
              exact ⟨wg2.heap.size, Aa2, la2, ca2, rfl, rfl, (Bk.new' rfl rfl : Bk (wg2.alloc (.cells #[.int .i64 b'.next, .int .i64 b'.boots, .int .i64 b'.longest, .slice Aa2 la2.length ca2] 25)) wg2.heap.size 25 [.int .i64 b'.next, .int .i64 b'.boots, .int .i64 b'.longest, .slice Aa2 la2.length ca2]), hl2, (ho2.no ((Kp.refl No _).alloc (.cells #[.int .i64 b'.next, .int .i64 b'.boots, .int .i64 b'.longest, .slice Aa2 la2.length ca2] 25))), (show wa.heap.size ≤ wg2.heap.size from ((((Kp.refl No wa).drew.trans kg0).trans kg1).trans kg2).size), (((((Kp.refl No wa).drew.trans kg0).trans kg1).trans kg2).alloc (.cells #[.int .i64 b'.next, .int .i64 b'.boots, .int .i64 b'.longest, .slice Aa2 la2.length ca2] 25))⟩
            case dpx1xx3x8 =>
              intro K hK
              go_simp
              refine rg_use hK (sk _ ((((Kp.refl No wa).drew.trans kg0).trans kg1).alloc (.cells #[.int .i64 0, .int .i64 0, .int .i64 0, .slice none 0 0] 25))) (fun hF => ?_)
              clear hK K
              try simp only [Act.put, List.setIfInBounds_toArray, List.set_cons_zero, List.set_cons_succ]
              refine rg_one (i := 4) (oi := ?opx1xx3xx8x4) ?apx1xx3xx8x4 ?bpx1xx3xx8x4 ?cpx1xx3xx8x4 ?dpx1xx3xx8x4
              case apx1xx3xx8x4 => (simp only [List.getElem?_toArray, List.getElem?_cons_succ, List.getElem?_cons_zero]; rfl)
              case bpx1xx3xx8x4 => kernel_rfl
              case cpx1xx3xx8x4 => rfl
              intro K hK
              (go_simp; refine (pap _ ((((Kp.refl No wa).drew.trans kg0).trans kg1).alloc (.cells #[.int .i64 0, .int .i64 0, .int .i64 0, .slice none 0 0] 25)) _ _ _ _ hl0 ((ha0.no kg1).no ((Kp.refl No _).alloc (.cells #[.int .i64 0, .int .i64 0, .int .i64 0, .slice none 0 0] 25))) (hag1.no ((Kp.refl No _).alloc (.cells #[.int .i64 0, .int .i64 0, .int .i64 0, .slice none 0 0] 25))) (har1.no ((Kp.refl No _).alloc (.cells #[.int .i64 0, .int .i64 0, .int .i64 0, .slice none 0 0] 25)))).mono ?_; rintro e wg2 ⟨sv2, la2, rfl, hl2, ho2, kg2⟩; obtain ⟨Aa2, ca2, rfl, _⟩ := own_len ho2.1)
              refine rg_use hK (sk _ (((((Kp.refl No wa).drew.trans kg0).trans kg1).alloc (.cells #[.int .i64 0, .int .i64 0, .int .i64 0, .slice none 0 0] 25)).trans kg2)) (fun hF => ?_)
              clear hK K
              try simp only [Act.put, List.setIfInBounds_toArray, List.set_cons_zero, List.set_cons_succ]
              refine rg_take (i := 5) (v := ?vpx1xx3xx8x5) (by simp only [List.getElem?_toArray, List.getElem?_cons_succ, List.getElem?_cons_zero]; rfl) (by kernel_rfl) (by exact fun _ _ _ h => h) (by rfl) ?rpx1xx3xx8x5 hF ?spx1xx3xx8x5
              case rpx1xx3xx8x5 => (intro W hW; clear hW; go_simp; try with_reducible rfl)
              try simp only [Act.put, List.setIfInBounds_toArray, List.set_cons_zero, List.set_cons_succ]
              refine rg_take (i := 6) (v := ?vpx1xx3xx8x6) (by simp only [List.getElem?_toArray, List.getElem?_cons_succ, List.getElem?_cons_zero]; rfl) (by kernel_rfl) (by exact fun _ _ _ h => h) (by rfl) ?rpx1xx3xx8x6 hF ?spx1xx3xx8x6
              case rpx1xx3xx8x6 => (intro W hW; clear hW; go_simp; try with_reducible rfl)
              try simp only [Act.put, List.setIfInBounds_toArray, List.set_cons_zero, List.set_cons_succ]
              refine rg_take (i := 7) (v := ?vpx1xx3xx8x7) (by simp only [List.getElem?_toArray, List.getElem?_cons_succ, List.getElem?_cons_zero]; rfl) (by kernel_rfl) (by exact fun _ _ _ h => h) (by rfl) ?rpx1xx3xx8x7 hF ?spx1xx3xx8x7
              case rpx1xx3xx8x7 => (intro W hW; clear hW; go_simp; try with_reducible rfl)
              try simp only [Act.put, List.setIfInBounds_toArray, List.set_cons_zero, List.set_cons_succ]
              refine rg_one (i := 9) (oi := ?opx1xx3xx8x9) ?apx1xx3xx8x9 ?bpx1xx3xx8x9 ?cpx1xx3xx8x9 ?dpx1xx3xx8x9
              case apx1xx3xx8x9 => (simp only [List.getElem?_toArray, List.getElem?_cons_succ, List.getElem?_cons_zero]; rfl)
              case bpx1xx3xx8x9 => kernel_rfl
              case cpx1xx3xx8x9 => rfl
              intro K hK
              (have bz3 := ((Bk.new' rfl rfl : Bk (wg1.alloc (.cells #[.int .i64 0, .int .i64 0, .int .i64 0, .slice none 0 0] 25)) wg1.heap.size 25 [.int .i64 0, .int .i64 0, .int .i64 0, .slice none 0 0]).no kg2); have q0 : wg2.cell? ⟨wg1.heap.size, 0, none⟩ = some (.int .i64 0) := bz3.cell 0; have q1 : wg2.cell? ⟨wg1.heap.size, 1, none⟩ = some (.int .i64 0) := bz3.cell 1; have q2 : wg2.cell? ⟨wg1.heap.size, 2, none⟩ = some (.int .i64 0) := bz3.cell 2; have q3 : wg2.cell? ⟨wg1.heap.size, 3, none⟩ = some (.slice none 0 0) := bz3.cell 3; have qf := bz3.frozen; go_simp)
              refine rg_use hK (sk _ ((((((Kp.refl No wa).drew.trans kg0).trans kg1).alloc (.cells #[.int .i64 0, .int .i64 0, .int .i64 0, .slice none 0 0] 25)).trans kg2).then_ (((((Kp.refl (One wg1.heap.size) wg2).set (.inl (One.self _)) 0 (.int .i64 b'.next)).set (.inl (One.self _)) 1 (.int .i64 b'.boots)).set (.inl (One.self _)) 2 (.int .i64 b'.longest)).set (.inl (One.self _)) 3 (.slice Aa2 la2.length ca2)) fun j hj m => by have h1 : j = wg1.heap.size := m; have h2 := (show wa.heap.size ≤ wg1.heap.size from (((Kp.refl No wa).drew.trans kg0).trans kg1).size); exact absurd hj (by omega))) (fun hF => ?_)
              clear hK K
              try simp only [Act.put, List.setIfInBounds_toArray, List.set_cons_zero, List.set_cons_succ]
              refine rg_take (i := 10) (v := ?vpx1xx3xx8x10) (by simp only [List.getElem?_toArray, List.getElem?_cons_succ, List.getElem?_cons_zero]; rfl) (by kernel_rfl) (by exact fun _ _ _ h => h) (by rfl) ?rpx1xx3xx8x10 hF ?spx1xx3xx8x10
              case rpx1xx3xx8x10 => (intro W hW; clear hW; go_simp; try with_reducible rfl)
              try simp only [Act.put, List.setIfInBounds_toArray, List.set_cons_zero, List.set_cons_succ]
              refine rg_done (by kernel_rfl) ?_
              go_wp2
              go_meet
              exact ⟨wg1.heap.size, Aa2, la2, ca2, rfl, rfl, ((((bz3.set_ 0 (.int .i64 b'.next)).set_ 1 (.int .i64 b'.boots)).set_ 2 (.int .i64 b'.longest)).set_ 3 (.slice Aa2 la2.length ca2)), hl2, (OwnG.far ho2 (((((Kp.refl (One wg1.heap.size) wg2).set (.inl (One.self _)) 0 (.int .i64 b'.next)).set (.inl (One.self _)) 1 (.int .i64 b'.boots)).set (.inl (One.self _)) 2 (.int .i64 b'.longest)).set (.inl (One.self _)) 3 (.slice Aa2 la2.length ca2)) bz3 (by decide) (by decide)), (show wa.heap.size ≤ wg1.heap.size from (((Kp.refl No wa).drew.trans kg0).trans kg1).size), ((((((Kp.refl No wa).drew.trans kg0).trans kg1).alloc (.cells #[.int .i64 0, .int .i64 0, .int .i64 0, .slice none 0 0] 25)).trans kg2).then_ (((((Kp.refl (One wg1.heap.size) wg2).set (.inl (One.self _)) 0 (.int .i64 b'.next)).set (.inl (One.self _)) 1 (.int .i64 b'.boots)).set (.inl (One.self _)) 2 (.int .i64 b'.longest)).set (.inl (One.self _)) 3 (.slice Aa2 la2.length ca2)) fun j hj m => by have h1 : j = wg1.heap.size := m; have h2 := (show wa.heap.size ≤ wg1.heap.size from (((Kp.refl No wa).drew.trans kg0).trans kg1).size); exact absurd hj (by omega))⟩
          case dpx1x8 =>
            intro K hK
            go_simp
            refine rg_use hK (sk _ (((Kp.refl No wa).drew.trans kg0).alloc (.cells #[.int .i64 0, .int .i64 0, .int .i64 0, .slice none 0 0] 25))) (fun hF => ?_)
            clear hK K
            try simp only [Act.put, List.setIfInBounds_toArray, List.set_cons_zero, List.set_cons_succ]
            refine rg_one (i := 3) (oi := ?opx1xx8x3) ?apx1xx8x3 ?bpx1xx8x3 ?cpx1xx8x3 ?dpx1xx8x3
            case apx1xx8x3 => (simp only [List.getElem?_toArray, List.getElem?_cons_succ, List.getElem?_cons_zero]; rfl)
            case bpx1xx8x3 => kernel_rfl
            case cpx1xx8x3 => rfl
            intro K hK
            (go_simp; refine (pr _ (((Kp.refl No wa).drew.trans kg0).alloc (.cells #[.int .i64 0, .int .i64 0, .int .i64 0, .slice none 0 0] 25))).mono ?_; rintro e wg1 ⟨gv1, rv1, rfl, hag1, har1, kg1⟩)
            refine rg_use hK (sk _ ((((Kp.refl No wa).drew.trans kg0).alloc (.cells #[.int .i64 0, .int .i64 0, .int .i64 0, .slice none 0 0] 25)).trans kg1)) (fun hF => ?_)
            clear hK K
            try simp only [Act.put, List.setIfInBounds_toArray, List.set_cons_zero, List.set_cons_succ]
            refine rg_one (i := 4) (oi := ?opx1xx8x4) ?apx1xx8x4 ?bpx1xx8x4 ?cpx1xx8x4 ?dpx1xx8x4
            case apx1xx8x4 => (simp only [List.getElem?_toArray, List.getElem?_cons_succ, List.getElem?_cons_zero]; rfl)
            case bpx1xx8x4 => kernel_rfl
            case cpx1xx8x4 => rfl
            intro K hK
            (go_simp; refine (pap _ ((((Kp.refl No wa).drew.trans kg0).alloc (.cells #[.int .i64 0, .int .i64 0, .int .i64 0, .slice none 0 0] 25)).trans kg1) _ _ _ _ hl0 ((ha0.no ((Kp.refl No _).alloc (.cells #[.int .i64 0, .int .i64 0, .int .i64 0, .slice none 0 0] 25))).no kg1) hag1 har1).mono ?_; rintro e wg2 ⟨sv2, la2, rfl, hl2, ho2, kg2⟩; obtain ⟨Aa2, ca2, rfl, _⟩ := own_len ho2.1)
            refine rg_use hK (sk _ (((((Kp.refl No wa).drew.trans kg0).alloc (.cells #[.int .i64 0, .int .i64 0, .int .i64 0, .slice none 0 0] 25)).trans kg1).trans kg2)) (fun hF => ?_)
            clear hK K
            try simp only [Act.put, List.setIfInBounds_toArray, List.set_cons_zero, List.set_cons_succ]
            refine rg_take (i := 5) (v := ?vpx1xx8x5) (by simp only [List.getElem?_toArray, List.getElem?_cons_succ, List.getElem?_cons_zero]; rfl) (by kernel_rfl) (by exact fun _ _ _ h => h) (by rfl) ?rpx1xx8x5 hF ?spx1xx8x5
            case rpx1xx8x5 => (intro W hW; clear hW; go_simp; try with_reducible rfl)
            try simp only [Act.put, List.setIfInBounds_toArray, List.set_cons_zero, List.set_cons_succ]
            refine rg_take (i := 6) (v := ?vpx1xx8x6) (by simp only [List.getElem?_toArray, List.getElem?_cons_succ, List.getElem?_cons_zero]; rfl) (by kernel_rfl) (by exact fun _ _ _ h => h) (by rfl) ?rpx1xx8x6 hF ?spx1xx8x6
            case rpx1xx8x6 => (intro W hW; clear hW; go_simp; try with_reducible rfl)
            try simp only [Act.put, List.setIfInBounds_toArray, List.set_cons_zero, List.set_cons_succ]
            refine rg_take (i := 7) (v := ?vpx1xx8x7) (by simp only [List.getElem?_toArray, List.getElem?_cons_succ, List.getElem?_cons_zero]; rfl) (by kernel_rfl) (by exact fun _ _ _ h => h) (by rfl) ?rpx1xx8x7 hF ?spx1xx8x7
            case rpx1xx8x7 => (intro W hW; clear hW; go_simp; try with_reducible rfl)
            try simp only [Act.put, List.setIfInBounds_toArray, List.set_cons_zero, List.set_cons_succ]
            refine rg_one (i := 9) (oi := ?opx1xx8x9) ?apx1xx8x9 ?bpx1xx8x9 ?cpx1xx8x9 ?dpx1xx8x9
            case apx1xx8x9 => (simp only [List.getElem?_toArray, List.getElem?_cons_succ, List.getElem?_cons_zero]; rfl)
            case bpx1xx8x9 => kernel_rfl
            case cpx1xx8x9 => rfl
            intro K hK
            (have bz3 := (((Bk.new' rfl rfl : Bk (wg0.alloc (.cells #[.int .i64 0, .int .i64 0, .int .i64 0, .slice none 0 0] 25)) wg0.heap.size 25 [.int .i64 0, .int .i64 0, .int .i64 0, .slice none 0 0]).no kg1).no kg2); have q0 : wg2.cell? ⟨wg0.heap.size, 0, none⟩ = some (.int .i64 0) := bz3.cell 0; have q1 : wg2.cell? ⟨wg0.heap.size, 1, none⟩ = some (.int .i64 0) := bz3.cell 1; have q2 : wg2.cell? ⟨wg0.heap.size, 2, none⟩ = some (.int .i64 0) := bz3.cell 2; have q3 : wg2.cell? ⟨wg0.heap.size, 3, none⟩ = some (.slice none 0 0) := bz3.cell 3; have qf := bz3.frozen; go_simp)
            refine rg_use hK (sk _ ((((((Kp.refl No wa).drew.trans kg0).alloc (.cells #[.int .i64 0, .int .i64 0, .int .i64 0, .slice none 0 0] 25)).trans kg1).trans kg2).then_ (((((Kp.refl (One wg0.heap.size) wg2).set (.inl (One.self _)) 0 (.int .i64 b'.next)).set (.inl (One.self _)) 1 (.int .i64 b'.boots)).set (.inl (One.self _)) 2 (.int .i64 b'.longest)).set (.inl (One.self _)) 3 (.slice Aa2 la2.length ca2)) fun j hj m => by have h1 : j = wg0.heap.size := m; have h2 := (show wa.heap.size ≤ wg0.heap.size from ((Kp.refl No wa).drew.trans kg0).size); exact absurd hj (by omega))) (fun hF => ?_)
            clear hK K
            try simp only [Act.put, List.setIfInBounds_toArray, List.set_cons_zero, List.set_cons_succ]
            refine rg_take (i := 10) (v := ?vpx1xx8x10) (by simp only [List.getElem?_toArray, List.getElem?_cons_succ, List.getElem?_cons_zero]; rfl) (by kernel_rfl) (by exact fun _ _ _ h => h) (by rfl) ?rpx1xx8x10 hF ?spx1xx8x10
            case rpx1xx8x10 => (intro W hW; clear hW; go_simp; try with_reducible rfl)
            try simp only [Act.put, List.setIfInBounds_toArray, List.set_cons_zero, List.set_cons_succ]
            refine rg_done (by kernel_rfl) ?_
            go_wp2
            go_meet
            exact ⟨wg0.heap.size, Aa2, la2, ca2, rfl, rfl, ((((bz3.set_ 0 (.int .i64 b'.next)).set_ 1 (.int .i64 b'.boots)).set_ 2 (.int .i64 b'.longest)).set_ 3 (.slice Aa2 la2.length ca2)), hl2, (OwnG.far ho2 (((((Kp.refl (One wg0.heap.size) wg2).set (.inl (One.self _)) 0 (.int .i64 b'.next)).set (.inl (One.self _)) 1 (.int .i64 b'.boots)).set (.inl (One.self _)) 2 (.int .i64 b'.longest)).set (.inl (One.self _)) 3 (.slice Aa2 la2.length ca2)) bz3 (by decide) (by decide)), (show wa.heap.size ≤ wg0.heap.size from ((Kp.refl No wa).drew.trans kg0).size), ((((((Kp.refl No wa).drew.trans kg0).alloc (.cells #[.int .i64 0, .int .i64 0, .int .i64 0, .slice none 0 0] 25)).trans kg1).trans kg2).then_ (((((Kp.refl (One wg0.heap.size) wg2).set (.inl (One.self _)) 0 (.int .i64 b'.next)).set (.inl (One.self _)) 1 (.int .i64 b'.boots)).set (.inl (One.self _)) 2 (.int .i64 b'.longest)).set (.inl (One.self _)) 3 (.slice Aa2 la2.length ca2)) fun j hj m => by have h1 : j = wg0.heap.size := m; have h2 := (show wa.heap.size ≤ wg0.heap.size from ((Kp.refl No wa).drew.trans kg0).size); exact absurd hj (by omega))⟩
        case dp8 =>
          intro K hK
          go_simp
          refine rg_use hK (sk _ ((Kp.refl No wa).drew.alloc (.cells #[.int .i64 0, .int .i64 0, .int .i64 0, .slice none 0 0] 25))) (fun hF => ?_)
          clear hK K
          try simp only [Act.put, List.setIfInBounds_toArray, List.set_cons_zero, List.set_cons_succ]
          refine rg_one (i := 1) (oi := ?opx8x1) ?apx8x1 ?bpx8x1 ?cpx8x1 ?dpx8x1
          case apx8x1 => (simp only [List.getElem?_toArray, List.getElem?_cons_succ, List.getElem?_cons_zero]; rfl)
          case bpx8x1 => kernel_rfl
          case cpx8x1 => rfl
          intro K hK
          (go_simp; refine (po _ ((Kp.refl No wa).drew.alloc (.cells #[.int .i64 0, .int .i64 0, .int .i64 0, .slice none 0 0] 25))).mono ?_; rintro e wg0 ⟨sv0, la0, rfl, hl0, ha0, kg0⟩)
          refine rg_use hK (sk _ (((Kp.refl No wa).drew.alloc (.cells #[.int .i64 0, .int .i64 0, .int .i64 0, .slice none 0 0] 25)).trans kg0)) (fun hF => ?_)
          clear hK K
          try simp only [Act.put, List.setIfInBounds_toArray, List.set_cons_zero, List.set_cons_succ]
          refine rg_one (i := 3) (oi := ?opx8x3) ?apx8x3 ?bpx8x3 ?cpx8x3 ?dpx8x3
          case apx8x3 => (simp only [List.getElem?_toArray, List.getElem?_cons_succ, List.getElem?_cons_zero]; rfl)
          case bpx8x3 => kernel_rfl
          case cpx8x3 => rfl
          intro K hK
          (go_simp; refine (pr _ (((Kp.refl No wa).drew.alloc (.cells #[.int .i64 0, .int .i64 0, .int .i64 0, .slice none 0 0] 25)).trans kg0)).mono ?_; rintro e wg1 ⟨gv1, rv1, rfl, hag1, har1, kg1⟩)
          refine rg_use hK (sk _ ((((Kp.refl No wa).drew.alloc (.cells #[.int .i64 0, .int .i64 0, .int .i64 0, .slice none 0 0] 25)).trans kg0).trans kg1)) (fun hF => ?_)
          clear hK K
          try simp only [Act.put, List.setIfInBounds_toArray, List.set_cons_zero, List.set_cons_succ]
          refine rg_one (i := 4) (oi := ?opx8x4) ?apx8x4 ?bpx8x4 ?cpx8x4 ?dpx8x4
          case apx8x4 => (simp only [List.getElem?_toArray, List.getElem?_cons_succ, List.getElem?_cons_zero]; rfl)
          case bpx8x4 => kernel_rfl
          case cpx8x4 => rfl
          intro K hK
          (go_simp; refine (pap _ ((((Kp.refl No wa).drew.alloc (.cells #[.int .i64 0, .int .i64 0, .int .i64 0, .slice none 0 0] 25)).trans kg0).trans kg1) _ _ _ _ hl0 (ha0.no kg1) hag1 har1).mono ?_; rintro e wg2 ⟨sv2, la2, rfl, hl2, ho2, kg2⟩; obtain ⟨Aa2, ca2, rfl, _⟩ := own_len ho2.1)
          refine rg_use hK (sk _ (((((Kp.refl No wa).drew.alloc (.cells #[.int .i64 0, .int .i64 0, .int .i64 0, .slice none 0 0] 25)).trans kg0).trans kg1).trans kg2)) (fun hF => ?_)
          clear hK K
          try simp only [Act.put, List.setIfInBounds_toArray, List.set_cons_zero, List.set_cons_succ]
          refine rg_take (i := 5) (v := ?vpx8x5) (by simp only [List.getElem?_toArray, List.getElem?_cons_succ, List.getElem?_cons_zero]; rfl) (by kernel_rfl) (by exact fun _ _ _ h => h) (by rfl) ?rpx8x5 hF ?spx8x5
          case rpx8x5 => (intro W hW; clear hW; go_simp; try with_reducible rfl)
          try simp only [Act.put, List.setIfInBounds_toArray, List.set_cons_zero, List.set_cons_succ]
          refine rg_take (i := 6) (v := ?vpx8x6) (by simp only [List.getElem?_toArray, List.getElem?_cons_succ, List.getElem?_cons_zero]; rfl) (by kernel_rfl) (by exact fun _ _ _ h => h) (by rfl) ?rpx8x6 hF ?spx8x6
          case rpx8x6 => (intro W hW; clear hW; go_simp; try with_reducible rfl)
          try simp only [Act.put, List.setIfInBounds_toArray, List.set_cons_zero, List.set_cons_succ]
          refine rg_take (i := 7) (v := ?vpx8x7) (by simp only [List.getElem?_toArray, List.getElem?_cons_succ, List.getElem?_cons_zero]; rfl) (by kernel_rfl) (by exact fun _ _ _ h => h) (by rfl) ?rpx8x7 hF ?spx8x7
          case rpx8x7 => (intro W hW; clear hW; go_simp; try with_reducible rfl)
          try simp only [Act.put, List.setIfInBounds_toArray, List.set_cons_zero, List.set_cons_succ]
          refine rg_one (i := 9) (oi := ?opx8x9) ?apx8x9 ?bpx8x9 ?cpx8x9 ?dpx8x9
          case apx8x9 => (simp only [List.getElem?_toArray, List.getElem?_cons_succ, List.getElem?_cons_zero]; rfl)
          case bpx8x9 => kernel_rfl
          case cpx8x9 => rfl
          intro K hK
          (have bz3 := ((((Bk.new' rfl rfl : Bk (wa.drew.alloc (.cells #[.int .i64 0, .int .i64 0, .int .i64 0, .slice none 0 0] 25)) wa.heap.size 25 [.int .i64 0, .int .i64 0, .int .i64 0, .slice none 0 0]).no kg0).no kg1).no kg2); have q0 : wg2.cell? ⟨wa.heap.size, 0, none⟩ = some (.int .i64 0) := bz3.cell 0; have q1 : wg2.cell? ⟨wa.heap.size, 1, none⟩ = some (.int .i64 0) := bz3.cell 1; have q2 : wg2.cell? ⟨wa.heap.size, 2, none⟩ = some (.int .i64 0) := bz3.cell 2; have q3 : wg2.cell? ⟨wa.heap.size, 3, none⟩ = some (.slice none 0 0) := bz3.cell 3; have qf := bz3.frozen; go_simp)
          refine rg_use hK (sk _ ((((((Kp.refl No wa).drew.alloc (.cells #[.int .i64 0, .int .i64 0, .int .i64 0, .slice none 0 0] 25)).trans kg0).trans kg1).trans kg2).then_ (((((Kp.refl (One wa.heap.size) wg2).set (.inl (One.self _)) 0 (.int .i64 b'.next)).set (.inl (One.self _)) 1 (.int .i64 b'.boots)).set (.inl (One.self _)) 2 (.int .i64 b'.longest)).set (.inl (One.self _)) 3 (.slice Aa2 la2.length ca2)) fun j hj m => by have h1 : j = wa.heap.size := m; have h2 := (show wa.heap.size ≤ wa.heap.size from (Kp.refl No wa).drew.size); exact absurd hj (by omega))) (fun hF => ?_)
          clear hK K
          try simp only [Act.put, List.setIfInBounds_toArray, List.set_cons_zero, List.set_cons_succ]
          refine rg_take (i := 10) (v := ?vpx8x10) (by simp only [List.getElem?_toArray, List.getElem?_cons_succ, List.getElem?_cons_zero]; rfl) (by kernel_rfl) (by exact fun _ _ _ h => h) (by rfl) ?rpx8x10 hF ?spx8x10
          case rpx8x10 => (intro W hW; clear hW; go_simp; try with_reducible rfl)
          try simp only [Act.put, List.setIfInBounds_toArray, List.set_cons_zero, List.set_cons_succ]
          refine rg_done (by kernel_rfl) ?_
          go_wp2
          go_meet
          exact ⟨wa.heap.size, Aa2, la2, ca2, rfl, rfl, ((((bz3.set_ 0 (.int .i64 b'.next)).set_ 1 (.int .i64 b'.boots)).set_ 2 (.int .i64 b'.longest)).set_ 3 (.slice Aa2 la2.length ca2)), hl2, (OwnG.far ho2 (((((Kp.refl (One wa.heap.size) wg2).set (.inl (One.self _)) 0 (.int .i64 b'.next)).set (.inl (One.self _)) 1 (.int .i64 b'.boots)).set (.inl (One.self _)) 2 (.int .i64 b'.longest)).set (.inl (One.self _)) 3 (.slice Aa2 la2.length ca2)) bz3 (by decide) (by decide)), (show wa.heap.size ≤ wa.heap.size from (Kp.refl No wa).drew.size), ((((((Kp.refl No wa).drew.alloc (.cells #[.int .i64 0, .int .i64 0, .int .i64 0, .slice none 0 0] 25)).trans kg0).trans kg1).trans kg2).then_ (((((Kp.refl (One wa.heap.size) wg2).set (.inl (One.self _)) 0 (.int .i64 b'.next)).set (.inl (One.self _)) 1 (.int .i64 b'.boots)).set (.inl (One.self _)) 2 (.int .i64 b'.longest)).set (.inl (One.self _)) 3 (.slice Aa2 la2.length ca2)) fun j hj m => by have h1 : j = wa.heap.size := m; have h2 := (show wa.heap.size ≤ wa.heap.size from (Kp.refl No wa).drew.size); exact absurd hj (by omega))⟩
      case rest =>
        obtain ⟨q8, A8, l8, c8, rfl, rfl, hb8, hg8, ho8, hq8, hk8⟩ := hcut
        have HB8 := Lib.hid hb8; have HG8 := Lib.hid hg8; have HO8 := Lib.hid ho8; have HQ8 := Lib.hid hq8; have HK8 := Lib.hid hk8
        have HBc := Lib.hid (HB.out.no (HKA.out.trans hk8)); have HOc := Lib.hid (HO.out.no (HKA.out.trans hk8)); have HUc := Lib.hid (own_kp HU.out (HKA.out.trans hk8) fun _ _ m => m)
        have HKc := Lib.hid (HKW.out.trans hk8)
        have HSZ := Lib.hid HKW.out.size
        clear hb8 hg8 ho8 hq8 hk8
        by_cases her : er = 0
        case neg =>
          have hb0 : b' = {} := by rw [HBE.out.1]; exact apply_err (by rw [← HBE.out.2]; exact her)
          subst hb0
          have hg0 : gsL l8 = [] := HG8.out
          have ps := rsameB_any 0 0 0 0 0 0 (.slice A8 l8.length c8) (.slice none 0 0) l8 [] wc HO8.out.arg (ArgG.nil _ _ _) (shL_of_nil hg0) (shL_nil _)
          rw [decide_eq_true (bk_eq.2 ⟨rfl, rfl, rfl, hg0⟩)] at ps
          have z0 : wc.cell? ⟨q8, 0, none⟩ = some (.int .i64 0) := HB8.out.cell 0
          have z1 : wc.cell? ⟨q8, 1, none⟩ = some (.int .i64 0) := HB8.out.cell 1
          have z2 : wc.cell? ⟨q8, 2, none⟩ = some (.int .i64 0) := HB8.out.cell 2
          have z3 : wc.cell? ⟨q8, 3, none⟩ = some (.slice A8 l8.length c8) := HB8.out.cell 3
          clear hg0
          go_wp2_with fail
          refine ps.mono ?_
          rintro e w9 ⟨rfl, k9⟩
          have HB9 := Lib.hid (HBc.out.no k9); have HO9 := Lib.hid (HOc.out.no k9); have HU9 := Lib.hid (own_kp HUc.out k9 fun _ _ m => m); have HK9 := Lib.hid (HKc.out.trans k9)
          clear ps k9 z0 z1 z2 z3
          go_wp2
          go_roundw
          case rel => exact ⟨j + 1, n', k', t', _, l', ul, by omega, by go_num, HB9.out, HO9.out, HVA.out, HU9.out, by have := HUL.out; omega, HUX.out, HK9.out⟩
          case measure => simp [intOf]; omega
        case pos =>
        have hok := apply_ok (b := bk n' k' t' l') (r := r) (by rw [← HBE.out.2]; exact her)
        subst her
        rw [← HBE.out.1] at hok
        obtain ⟨hvb, hn1, hn2, hn3, hkd⟩ := hok
        have HVB := Lib.hid (show validB (bk b'.next b'.boots b'.longest l8) by rw [bk_of HG8.out]; exact hvb)
        have HKD := Lib.hid hkd
        have hn1 : n' ≤ b'.next := hn1
        have hn2 : k' ≤ b'.boots := hn2
        have hn3 : t' ≤ b'.longest := hn3
        have hl8 : l8.length ≤ 6 := by have h6 : (gsL l8).length ≤ 6 := HVB.out.2.2.1; rw [gsL_len] at h6; exact h6
        have hnr : n' ≤ 1099511627777 := HVA.out.1.2.1
        have hnl : 1 ≤ n' := HVA.out.1.1
        have po := ownB_any b'.next b'.boots b'.longest (.slice A8 l8.length c8) l8 wc HO8.out.arg (by omega) (fun p hp => by
          have h1 := (HVB.out.2.2.2.1 p.1 (List.mem_map_of_mem hp)).1
          have h3 := (cnt_of_valid h1.2.2.2.2.1).1
          omega)
        have z0 : wc.cell? ⟨q8, 0, none⟩ = some (.int .i64 b'.next) := HB8.out.cell 0
        have z1 : wc.cell? ⟨q8, 1, none⟩ = some (.int .i64 b'.boots) := HB8.out.cell 1
        have z2 : wc.cell? ⟨q8, 2, none⟩ = some (.int .i64 b'.longest) := HB8.out.cell 2
        have z3 : wc.cell? ⟨q8, 3, none⟩ = some (.slice A8 l8.length c8) := HB8.out.cell 3
        clear hvb hkd
        go_wp2_with fail
        refine po.mono ?_
        rintro e w9 ⟨sv9, l9, rfl, hg9, ho9, k9⟩
        have pv := bvalid_any b'.next b'.boots b'.longest sv9 l9 w9 ho9.arg (shL_gs (valid_sh HVB.out) hg9)
        rw [bk_gs hg9, decide_eq_true HVB.out] at pv
        have HK9 := Lib.hid k9
        clear po ho9 hg9 k9 z0 z1 z2 z3
        go_wp2_with fail
        refine pv.mono ?_
        rintro e w10 ⟨rfl, k10⟩
        have HQs := Lib.hid ((HB8.out.no HK9.out).no k10); have HWs := Lib.hid ((HBc.out.no HK9.out).no k10); have HOs := Lib.hid ((HO8.out.no HK9.out).no k10)
        have HUs := Lib.hid (own_kp (own_kp HUc.out HK9.out fun _ _ m => m) k10 fun _ _ m => m); have HKs := Lib.hid ((HKc.out.trans HK9.out).trans k10)
        have HK10 := Lib.hid ((HK8.out.trans HK9.out).trans k10)
        have HR10 := Lib.hid (HR7.out.no HK10.out)
        clear pv k10
        have z0 : w10.cell? ⟨q8, 0, none⟩ = some (.int .i64 b'.next) := HQs.out.cell 0
        have z1 : w10.cell? ⟨q8, 1, none⟩ = some (.int .i64 b'.boots) := HQs.out.cell 1
        have z2 : w10.cell? ⟨q8, 2, none⟩ = some (.int .i64 b'.longest) := HQs.out.cell 2
        have z3 : w10.cell? ⟨q8, 3, none⟩ = some (.slice A8 l8.length c8) := HQs.out.cell 3
        have y0 : w10.cell? ⟨W.heap.size, 0, none⟩ = some (.int .i64 n') := HWs.out.cell 0
        have y1 : w10.cell? ⟨W.heap.size, 1, none⟩ = some (.int .i64 k') := HWs.out.cell 1
        have y2 : w10.cell? ⟨W.heap.size, 2, none⟩ = some (.int .i64 t') := HWs.out.cell 2
        have y3 : w10.cell? ⟨W.heap.size, 3, none⟩ = some (.slice A' l'.length c') := HWs.out.cell 3
        have d1 : ¬ b'.next < n' := by omega
        have d2 : ¬ (6 : Int) < (l8.length : Int) := by omega
        have d3 : ¬ b'.boots < k' := by omega
        have d4 : ¬ b'.longest < t' := by omega
        go_upto_region 16 with (fail)
        clear d1 d2 d3 d4 z0 z1 z2 z3 y0 y1 y2 y3 HB8 HBc HOc HUc HKc HO8
        by_cases hkind : r.kind = 4
        · obtain ⟨hnext, hne, hnw⟩ := HKD.out.1 hkind
          have hnext : b'.next = n' + 1 := hnext
          have hnw : newestS r.grant.stamp = n' := hnw
          obtain ⟨kk, hkk⟩ : ∃ kk, r.grant.stamp.length = kk + 1 := ⟨r.grant.stamp.length - 1, by have := List.length_pos_iff.2 hne; omega⟩
          have hlast := last_get hkk hnw
          obtain ⟨g2, o2, c2, e2, hxx⟩ := (HG7.out.no HK10.out).at_ (show kk < r.grant.stamp.length by omega)
          have hx : w10.cell? ⟨g2, o2 + kk, none⟩ = some (.int .i64 n') := hxx kk n' hlast
          injection e2 with e2 _ e3
          subst e2 e3
          have hb2 : kk + 1 ≤ 9223372036854775807 := by have h := HSR.out.1.2; omega
          have e0 : ((kk + 1 : Nat) : Int) - 1 = (kk : Int) := by omega
          have hq0 : (0 : Int) ≤ (kk : Int) := by omega
          have hq1 : (kk : Int) < ((kk + 1 : Nat) : Int) := by omega
          have r0 : w10.cell? ⟨x7, 0, none⟩ = some (.int .i64 4) := by rw [← hkind]; exact HR10.out.cell 0
          have r8 : w10.cell? ⟨x7, 8, none⟩ = some (.slice Ar r.stamp.length cr) := HR10.out.cell 8
          have r5 : w10.cell? ⟨x7, 5, none⟩ = some (.slice (some ⟨g2, o2, none⟩) (kk + 1) cg) := by rw [← hkk]; exact HR10.out.cell 5
          have HQx := Lib.hid (show Bk w10 q8 25 [.int .i64 (n' + 1), .int .i64 b'.boots, .int .i64 b'.longest, .slice A8 l8.length c8] by rw [← hnext]; exact HQs.out)
          have HVt := Lib.hid (show validB (bk (n' + 1) b'.boots b'.longest l8) by rw [← hnext]; exact HVB.out)
          have z0 : w10.cell? ⟨q8, 0, none⟩ = some (.int .i64 (n' + 1)) := HQx.out.cell 0
          have y0 : w10.cell? ⟨W.heap.size, 0, none⟩ = some (.int .i64 n') := HWs.out.cell 0
          have hul4 : ul.length ≤ 400 := by have := HUL.out; have := H4.out; omega
          have hsz0 : W.heap.size ≤ w10.heap.size := HKs.out.size
          clear hxx hlast hnw hne hkk hkind hnext HQs HVB HBE
          go_wp2
          go_loopw [113] (fun i wq => ∃ a : Nat, a ≤ ul.length ∧ i = .int .i64 a ∧ w10 = wq) (fun i _ => ul.length - (intOf i).toNat)
          case atStart => exact ⟨0, Nat.zero_le _, rfl, rfl⟩
          case round =>
            obtain ⟨a, ha, rfl, rfl⟩ := hrel
            by_cases hla : a < ul.length
            · have ha0 : (0 : Int) ≤ (a : Int) := by omega
              have ha1 : (a : Int) < (ul.length : Int) := by omega
              obtain ⟨g3, o3, c3, e3, hxu⟩ := (own_argI HUs.out).at_ hla
              injection e3 with e3 _ e4
              subst e3 e4
              have hxa : w10.cell? ⟨g3, o3 + a, none⟩ = some (.int .i64 ul[a]) := hxu a _ (List.getElem?_eq_getElem hla)
              have hlx := HUX.out _ (List.getElem_mem hla)
              generalize ul[a] = xa at hxa hlx
              have hnx : ¬ xa = n' := by omega
              clear hxu hla
              go_wp2
              go_roundw
              case rel => exact ⟨a + 1, by omega, by go_num, by first | trivial | rfl⟩
              case measure => simp [intOf]; omega
            · have ha1 : ¬ (a : Int) < (ul.length : Int) := by omega
              clear hla
              have kal : Kp No w10 (w10.alloc (.cells #[.int .i64 n'] 3)) := (Kp.refl No w10).alloc _
              go_upto_region 32 with (at_builtin; go_must (refine wpList_app1 _ rfl _ _ 28 rfl W.heap.size 3 _ 1 8 Try.underlying28 Try.infoInt rfl (by omega) _ ul.length (ints ul) rfl (HUs.out.alloc _) _ _ _ rfl (Bk.new' rfl rfl : Bk _ _ _ [.int .i64 n']) rfl (by simp [Value.oneCell']) (by omega) (by omega) (by simp; omega) ?_); intro g5 cap5 w5 hown5 hk5 hat5)
              have HQt := Lib.hid ((HQx.out.no kal).kp hk5 (own_ne HUs.out HQx.out (by decide)))
              have HWt := Lib.hid ((HWs.out.no kal).kp hk5 (own_ne HUs.out HWs.out (by decide)))
              have HOt := Lib.hid ((HOs.out.no kal).low hk5 fun i e => Nat.lt_of_lt_of_le (HU.out.lt i e).2 HKA.out.size)
              have HKt := Lib.hid ((HKs.out.trans kal).then_ hk5 fun i hi e => by have := (HUs.out.lt i e).1; omega)
              have HUt := Lib.hid (show w5.ownsRow W.heap.size 3 1 (.slice (some ⟨g5, 0, none⟩) (ul.length + 1) cap5) (ul ++ [n']).length (ints (ul ++ [n'])) by rw [ints_append, List.length_append]; exact hown5)
              clear kal hown5 hk5 hat5 z0 y0 r0 r8 r5 hx ha1 HQx
              have z0 : w5.cell? ⟨q8, 0, none⟩ = some (.int .i64 (n' + 1)) := HQt.out.cell 0
              have z1 : w5.cell? ⟨q8, 1, none⟩ = some (.int .i64 b'.boots) := HQt.out.cell 1
              have z2 : w5.cell? ⟨q8, 2, none⟩ = some (.int .i64 b'.longest) := HQt.out.cell 2
              have z3 : w5.cell? ⟨q8, 3, none⟩ = some (.slice A8 l8.length c8) := HQt.out.cell 3
              have y0 : w5.cell? ⟨W.heap.size, 0, none⟩ = some (.int .i64 n') := HWt.out.cell 0
              have y1 : w5.cell? ⟨W.heap.size, 1, none⟩ = some (.int .i64 k') := HWt.out.cell 1
              have y2 : w5.cell? ⟨W.heap.size, 2, none⟩ = some (.int .i64 t') := HWt.out.cell 2
              have y3 : w5.cell? ⟨W.heap.size, 3, none⟩ = some (.slice A' l'.length c') := HWt.out.cell 3
              have v0 := HWt.out.frozen 0; have v1 := HWt.out.frozen 1; have v2 := HWt.out.frozen 2; have v3 := HWt.out.frozen 3
              go_wp2
              have B9 := (((HWt.out.set_ 0 (.int .i64 (n' + 1))).set_ 1 (.int .i64 b'.boots)).set_ 2 (.int .i64 b'.longest)).set_ 3 (.slice A8 l8.length c8)
              have K9 : Kp (One W.heap.size) w5 _ := ((((Kp.refl (One W.heap.size) w5).set (.inl (One.self _)) 0 (.int .i64 (n' + 1))).set (.inl (One.self _)) 1 (.int .i64 b'.boots)).set (.inl (One.self _)) 2 (.int .i64 b'.longest)).set (.inl (One.self _)) 3 (.slice A8 l8.length c8)
              generalize hwz : World.setCell _ ⟨W.heap.size, 3, none⟩ _ = wz at B9 K9 ⊢
              have HOz := Lib.hid (show OwnG wz W.heap.size (.slice A8 l8.length c8) l8 from (HOt.out.far K9 HWt.out (by decide) (by decide)).mono HSZ.out)
              have HBz := Lib.hid (show Bk wz W.heap.size 25 [.int .i64 (n' + 1), .int .i64 b'.boots, .int .i64 b'.longest, .slice A8 l8.length c8] from B9)
              have HKz := Lib.hid (show Kp No W wz from HKt.out.then_ K9 fun i hi m => by have h1 : i = W.heap.size := m; omega)
              have HUz := Lib.hid (own_kp HUt.out K9 fun j e m => own_ne HUt.out HWt.out (by decide) (by rw [e, show j = W.heap.size from m]))
              clear B9 K9 hwz z0 z1 z2 z3 y0 y1 y2 y3 v0 v1 v2 v3
              go_roundw
              case rel => exact ⟨j + 1, (n' + 1), b'.boots, b'.longest, _, l8, ul ++ [n'], by omega, by go_num, HBz.out, HOz.out, HVt.out, HUz.out, (by rw [List.length_append]; have := HUL.out; simp; omega), (fun x hx => by rcases List.mem_append.1 hx with h | h; (have := HUX.out x h; omega); (rw [List.mem_singleton] at h; omega)), HKz.out⟩
              case measure => simp [intOf]; omega
        by_cases hk5 : r.kind = 5
        · have hkind := hk5
          clear hk5
          obtain ⟨hnext, hne, hnw⟩ := HKD.out.2 hkind
          have hnext : b'.next = n' + 1 := hnext
          have hnw : newestS r.stamp = n' := hnw
          obtain ⟨kk, hkk⟩ : ∃ kk, r.stamp.length = kk + 1 := ⟨r.stamp.length - 1, by have := List.length_pos_iff.2 hne; omega⟩
          have hlast := last_get hkk hnw
          obtain ⟨g2, o2, c2, e2, hxx⟩ := (HS7.out.no HK10.out).at_ (show kk < r.stamp.length by omega)
          have hx : w10.cell? ⟨g2, o2 + kk, none⟩ = some (.int .i64 n') := hxx kk n' hlast
          injection e2 with e2 _ e3
          subst e2 e3
          have hb2 : kk + 1 ≤ 9223372036854775807 := by have h := HSR.out.2; omega
          have e0 : ((kk + 1 : Nat) : Int) - 1 = (kk : Int) := by omega
          have hq0 : (0 : Int) ≤ (kk : Int) := by omega
          have hq1 : (kk : Int) < ((kk + 1 : Nat) : Int) := by omega
          have r0 : w10.cell? ⟨x7, 0, none⟩ = some (.int .i64 5) := by rw [← hkind]; exact HR10.out.cell 0
          have r8 : w10.cell? ⟨x7, 8, none⟩ = some (.slice (some ⟨g2, o2, none⟩) (kk + 1) cr) := by rw [← hkk]; exact HR10.out.cell 8
          have HQx := Lib.hid (show Bk w10 q8 25 [.int .i64 (n' + 1), .int .i64 b'.boots, .int .i64 b'.longest, .slice A8 l8.length c8] by rw [← hnext]; exact HQs.out)
          have HVt := Lib.hid (show validB (bk (n' + 1) b'.boots b'.longest l8) by rw [← hnext]; exact HVB.out)
          have z0 : w10.cell? ⟨q8, 0, none⟩ = some (.int .i64 (n' + 1)) := HQx.out.cell 0
          have y0 : w10.cell? ⟨W.heap.size, 0, none⟩ = some (.int .i64 n') := HWs.out.cell 0
          have hul4 : ul.length ≤ 400 := by have := HUL.out; have := H4.out; omega
          have hsz0 : W.heap.size ≤ w10.heap.size := HKs.out.size
          clear hxx hlast hnw hne hkk hkind hnext HQs HVB HBE
          go_wp2
          go_loopw [113] (fun i wq => ∃ a : Nat, a ≤ ul.length ∧ i = .int .i64 a ∧ w10 = wq) (fun i _ => ul.length - (intOf i).toNat)
          case atStart => exact ⟨0, Nat.zero_le _, rfl, rfl⟩
          case round =>
            obtain ⟨a, ha, rfl, rfl⟩ := hrel
            by_cases hla : a < ul.length
            · have ha0 : (0 : Int) ≤ (a : Int) := by omega
              have ha1 : (a : Int) < (ul.length : Int) := by omega
              obtain ⟨g3, o3, c3, e3, hxu⟩ := (own_argI HUs.out).at_ hla
              injection e3 with e3 _ e4
              subst e3 e4
              have hxa : w10.cell? ⟨g3, o3 + a, none⟩ = some (.int .i64 ul[a]) := hxu a _ (List.getElem?_eq_getElem hla)
              have hlx := HUX.out _ (List.getElem_mem hla)
              generalize ul[a] = xa at hxa hlx
              have hnx : ¬ xa = n' := by omega
              clear hxu hla
              go_wp2
              go_roundw
              case rel => exact ⟨a + 1, by omega, by go_num, by first | trivial | rfl⟩
              case measure => simp [intOf]; omega
            · have ha1 : ¬ (a : Int) < (ul.length : Int) := by omega
              clear hla
              have kal : Kp No w10 (w10.alloc (.cells #[.int .i64 n'] 3)) := (Kp.refl No w10).alloc _
              go_upto_region 32 with (at_builtin; go_must (refine wpList_app1 _ rfl _ _ 28 rfl W.heap.size 3 _ 1 8 Try.underlying28 Try.infoInt rfl (by omega) _ ul.length (ints ul) rfl (HUs.out.alloc _) _ _ _ rfl (Bk.new' rfl rfl : Bk _ _ _ [.int .i64 n']) rfl (by simp [Value.oneCell']) (by omega) (by omega) (by simp; omega) ?_); intro g5 cap5 w5 hown5 hk5 hat5)
              have HQt := Lib.hid ((HQx.out.no kal).kp hk5 (own_ne HUs.out HQx.out (by decide)))
              have HWt := Lib.hid ((HWs.out.no kal).kp hk5 (own_ne HUs.out HWs.out (by decide)))
              have HOt := Lib.hid ((HOs.out.no kal).low hk5 fun i e => Nat.lt_of_lt_of_le (HU.out.lt i e).2 HKA.out.size)
              have HKt := Lib.hid ((HKs.out.trans kal).then_ hk5 fun i hi e => by have := (HUs.out.lt i e).1; omega)
              have HUt := Lib.hid (show w5.ownsRow W.heap.size 3 1 (.slice (some ⟨g5, 0, none⟩) (ul.length + 1) cap5) (ul ++ [n']).length (ints (ul ++ [n'])) by rw [ints_append, List.length_append]; exact hown5)
              clear kal hown5 hk5 hat5 z0 y0 r0 r8 hx ha1 HQx
              have z0 : w5.cell? ⟨q8, 0, none⟩ = some (.int .i64 (n' + 1)) := HQt.out.cell 0
              have z1 : w5.cell? ⟨q8, 1, none⟩ = some (.int .i64 b'.boots) := HQt.out.cell 1
              have z2 : w5.cell? ⟨q8, 2, none⟩ = some (.int .i64 b'.longest) := HQt.out.cell 2
              have z3 : w5.cell? ⟨q8, 3, none⟩ = some (.slice A8 l8.length c8) := HQt.out.cell 3
              have y0 : w5.cell? ⟨W.heap.size, 0, none⟩ = some (.int .i64 n') := HWt.out.cell 0
              have y1 : w5.cell? ⟨W.heap.size, 1, none⟩ = some (.int .i64 k') := HWt.out.cell 1
              have y2 : w5.cell? ⟨W.heap.size, 2, none⟩ = some (.int .i64 t') := HWt.out.cell 2
              have y3 : w5.cell? ⟨W.heap.size, 3, none⟩ = some (.slice A' l'.length c') := HWt.out.cell 3
              have v0 := HWt.out.frozen 0; have v1 := HWt.out.frozen 1; have v2 := HWt.out.frozen 2; have v3 := HWt.out.frozen 3
              go_wp2
              have B9 := (((HWt.out.set_ 0 (.int .i64 (n' + 1))).set_ 1 (.int .i64 b'.boots)).set_ 2 (.int .i64 b'.longest)).set_ 3 (.slice A8 l8.length c8)
              have K9 : Kp (One W.heap.size) w5 _ := ((((Kp.refl (One W.heap.size) w5).set (.inl (One.self _)) 0 (.int .i64 (n' + 1))).set (.inl (One.self _)) 1 (.int .i64 b'.boots)).set (.inl (One.self _)) 2 (.int .i64 b'.longest)).set (.inl (One.self _)) 3 (.slice A8 l8.length c8)
              generalize hwz : World.setCell _ ⟨W.heap.size, 3, none⟩ _ = wz at B9 K9 ⊢
              have HOz := Lib.hid (show OwnG wz W.heap.size (.slice A8 l8.length c8) l8 from (HOt.out.far K9 HWt.out (by decide) (by decide)).mono HSZ.out)
              have HBz := Lib.hid (show Bk wz W.heap.size 25 [.int .i64 (n' + 1), .int .i64 b'.boots, .int .i64 b'.longest, .slice A8 l8.length c8] from B9)
              have HKz := Lib.hid (show Kp No W wz from HKt.out.then_ K9 fun i hi m => by have h1 : i = W.heap.size := m; omega)
              have HUz := Lib.hid (own_kp HUt.out K9 fun j e m => own_ne HUt.out HWt.out (by decide) (by rw [e, show j = W.heap.size from m]))
              clear B9 K9 hwz z0 z1 z2 z3 y0 y1 y2 y3 v0 v1 v2 v3
              go_roundw
              case rel => exact ⟨j + 1, (n' + 1), b'.boots, b'.longest, _, l8, ul ++ [n'], by omega, by go_num, HBz.out, HOz.out, HVt.out, HUz.out, (by rw [List.length_append]; have := HUL.out; simp; omega), (fun x hx => by rcases List.mem_append.1 hx with h | h; (have := HUX.out x h; omega); (rw [List.mem_singleton] at h; omega)), HKz.out⟩
              case measure => simp [intOf]; omega
        · have r0 : w10.cell? ⟨x7, 0, none⟩ = some (.int .i64 r.kind) := HR10.out.cell 0
          have r8 : w10.cell? ⟨x7, 8, none⟩ = some (.slice Ar r.stamp.length cr) := HR10.out.cell 8
          have HVt := HVB
          go_upto_region 32 with (fail)
          clear r0 r8 HVB
          have HQt := HQs; have HWt := HWs; have HOt := HOs; have HUt := HUs; have HKt := HKs
          clear HQs HWs HOs HUs HKs
          have z0 : w10.cell? ⟨q8, 0, none⟩ = some (.int .i64 b'.next) := HQt.out.cell 0
          have z1 : w10.cell? ⟨q8, 1, none⟩ = some (.int .i64 b'.boots) := HQt.out.cell 1
          have z2 : w10.cell? ⟨q8, 2, none⟩ = some (.int .i64 b'.longest) := HQt.out.cell 2
          have z3 : w10.cell? ⟨q8, 3, none⟩ = some (.slice A8 l8.length c8) := HQt.out.cell 3
          have y0 : w10.cell? ⟨W.heap.size, 0, none⟩ = some (.int .i64 n') := HWt.out.cell 0
          have y1 : w10.cell? ⟨W.heap.size, 1, none⟩ = some (.int .i64 k') := HWt.out.cell 1
          have y2 : w10.cell? ⟨W.heap.size, 2, none⟩ = some (.int .i64 t') := HWt.out.cell 2
          have y3 : w10.cell? ⟨W.heap.size, 3, none⟩ = some (.slice A' l'.length c') := HWt.out.cell 3
          have v0 := HWt.out.frozen 0; have v1 := HWt.out.frozen 1; have v2 := HWt.out.frozen 2; have v3 := HWt.out.frozen 3
          go_wp2
          have B9 := (((HWt.out.set_ 0 (.int .i64 b'.next)).set_ 1 (.int .i64 b'.boots)).set_ 2 (.int .i64 b'.longest)).set_ 3 (.slice A8 l8.length c8)
          have K9 : Kp (One W.heap.size) w10 _ := ((((Kp.refl (One W.heap.size) w10).set (.inl (One.self _)) 0 (.int .i64 b'.next)).set (.inl (One.self _)) 1 (.int .i64 b'.boots)).set (.inl (One.self _)) 2 (.int .i64 b'.longest)).set (.inl (One.self _)) 3 (.slice A8 l8.length c8)
          generalize hwz : World.setCell _ ⟨W.heap.size, 3, none⟩ _ = wz at B9 K9 ⊢
          have HOz := Lib.hid (show OwnG wz W.heap.size (.slice A8 l8.length c8) l8 from (HOt.out.far K9 HWt.out (by decide) (by decide)).mono HSZ.out)
          have HBz := Lib.hid (show Bk wz W.heap.size 25 [.int .i64 b'.next, .int .i64 b'.boots, .int .i64 b'.longest, .slice A8 l8.length c8] from B9)
          have HKz := Lib.hid (show Kp No W wz from HKt.out.then_ K9 fun i hi m => by have h1 : i = W.heap.size := m; omega)
          have HUz := Lib.hid (own_kp HUt.out K9 fun j e m => own_ne HUt.out HWt.out (by decide) (by rw [e, show j = W.heap.size from m]))
          clear B9 K9 hwz z0 z1 z2 z3 y0 y1 y2 y3 v0 v1 v2 v3
          go_roundw
          case rel => exact ⟨j + 1, b'.next, b'.boots, b'.longest, _, l8, ul, by omega, by go_num, HBz.out, HOz.out, HVt.out, HUz.out, (by have := HUL.out; omega), (fun x hx => by have := HUX.out x hx; omega), HKz.out⟩
          case measure => simp [intOf]; omega
    · have hk1 : ¬ (j : Int) < (L.length : Int) := by omega
      clear hlt
      go_wp2
      go_ret
      exact ⟨rfl, HK.out.below (Nat.le_refl _) fun _ _ m => m⟩
/-! ### The row's step -/
set_option maxRecDepth 100000 in
theorem lifted (os : Os) (started : os.Started) (H : Type) (enc : TypeId × Value → H) :
    ReturnsInHanded {} Try.checked os 9 .any (Rows.bookOnceSpec.pre6 enc Try.prog Try.f9 Rows.bookOnceRow.domain false) (Rows.bookOnceSpec.post enc Try.prog Try.f9 false true false false) := by
  refine returnsInHanded_of_change_sized (C := Try.checked) own started (by kernel_rfl) Try.func9
    (ChangeSpec.witness6 (enc := enc) (C := Try.checked) false ⟨#[], #[.agg #[.int .i64 0, .int .i64 0, .int .i64 0, .slice none 0 0], .slice none 0 0], []⟩ 8 (by kernel_rfl) (by kernel_rfl) (by kernel_rfl) (by kernel_rfl)) ?_
  intro W base args ds gs before hval0 hW hcnd hsz0 _
  have hval : ∀ (j : Nat) t v, Try.f9.params[j]? = some t → args[j]? = some v → Value.okWide Try.prog W .any base t v := hval0
  have hW' := hW
  obtain ⟨p, q, hA0, hV, rfl, hfz, hnd⟩ := hW
  have hA : DataW.TrodAll enc Try.prog W 0 (fun _ => true) true Try.f9.params.toList args.toList ds p := hA0
  rw [Try.params9] at hA hval
  obtain ⟨v0, vs0, d0, ds0, p0, q0, hargs, rfl, rfl, h0, r0⟩ := trodAll_cons hA
  obtain ⟨v1, vs1, d1, ds1, p1, q1, rfl, rfl, rfl, h1, r1⟩ := trodAll_cons r0
  obtain ⟨rfl, rfl, rfl⟩ := trodAll_nil r1
  obtain rfl : args = #[v0, v1] := by cases args; simp_all
  obtain ⟨rfl, rfl⟩ := trodVars_none hV
  have hsz : ∀ (j : Nat) (t : TypeId) (d : DataW H), ([25, 43] : List TypeId)[j]? = some t → [d0, d1][j]? = some d → ∀ n ∈ d.weights Try.prog t, n ≤ reachBytes := by
    intro j t d ht hd n hn
    have hsz1 : (DataW.weightsEach Try.prog ([25, 43] : List TypeId) [d0, d1]).all (· ≤ reachBytes) = true := hsz0
    have := List.all_eq_true.1 hsz1 n (DataW.weights_mem_each ht hd n hn)
    simpa using this
  have k0 := h0
  have lt0 : ∀ x ∈ p0, x.block < W.heap.size := by obtain ⟨m, hm⟩ := k0; exact DataW.trod_lt m _ _ _ hm
  obtain ⟨n0, k0b, t0, s0v, l0, rfl, a0, b0l, b0p, _, _, _⟩ := open_book (hval 0 25 v0 rfl rfl) h0 (hsz 0 25 _ rfl rfl)
  have k1 := h1
  have lt1 : ∀ x ∈ p1, x.block < W.heap.size := by obtain ⟨m, hm⟩ := k1; exact DataW.trod_lt m _ _ _ hm
  obtain ⟨A1, n1, c1, L1, rfl, e1, a1, b1⟩ := open_recs (hval 1 43 v1 rfl rfl) h1 (hsz 1 43 _ rfl rfl)
  refine (walk n0 k0b t0 s0v l0 A1 n1 c1 L1 W a0 b0l b0p e1 a1 b1).mono fun e W' ⟨he, bel⟩ => ?_
  subst he
  exact ⟨_, rfl, _, _, _, [], _, [], hW', trodAll_mk1 (shut_bool Try.underlying4 _), (trodAll_cons_mk (Below.trod laidOut (by kernel_rfl) (of_decide_eq_true (by kernel_rfl)) k0 bel lt0) (trodAll_cons_mk (Below.trod laidOut (by kernel_rfl) (of_decide_eq_true (by kernel_rfl)) k1 bel lt1) trodAll_mk0)), rfl, bel.frame _, fun h => by cases h⟩

theorem over : Rows.bookOnceRow.holds Try.pinned (OpenSpec.ofChange Rows.bookOnceSpec) :=
  OpenClaim.holds_of_wide 9 Try.f9 rfl rfl rfl rfl rfl rfl rfl ⟨rfl, rfl, rfl, rfl, rfl⟩ rfl rfl rfl rfl rfl (by kernel_rfl) Try.func9 (by kernel_rfl)
    (of_decide_eq_true (by kernel_rfl)) (by unfold Func.isWrapper; first | (rw [if_pos (by decide +kernel)]; kernel_rfl) | (rw [if_neg (by decide +kernel)]; exact ⟨rfl, rfl⟩))
    (fun os started H enc _ => lifted os started H enc)

theorem proved : Rows.BookOnceSaid := over
#print axioms proved
end Go.Proofs.Ytifdceofglocdaa.bookOnce
