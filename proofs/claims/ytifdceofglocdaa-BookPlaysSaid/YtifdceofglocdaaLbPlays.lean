/- BookPlays: records applied one after the other make the book that the document says, with its dump behind each, for every list of records. No condition. -/
import Derived.Test.YtifdceofglocdaaB21
import Derived.Test.YtifdceofglocdaaB32
import Derived.Deep.CutBlock
import Derived.Deep.MidRow
import Derived.Deep.CutRange
import Derived.Deep.DeepCutAuto
import Derived.ProofKit
import Derived.OpenShut
import Derived.ShutString
import Derived.ChangeOld
import Derived.SizedLaws
import Derived.Below
namespace Go.Proofs.Ytifdceofglocdaa.bookPlays
open Go.ChangeShapes Go.WideShapes Go.ChangeAt Go.RowKit
open Go.ChangeMaps (open_string shut_string)

theorem own : ownKnob Try.prog.godebug = none := by kernel_rfl
theorem laidOut : laidOutB Try.prog = true := by kernel_rfl
/-- the two books, as far as they have come -/
structure PlI (W : World) (qb qm : Nat) (n k t : Int) (A : Option Addr) (l : List GP) (c : Nat) (A2 : Option Addr) (l2 : List GP) (c2 : Nat) (w : World) : Prop where
  bb : Bk w qb 25 [.int .i64 n, .int .i64 k, .int .i64 t, .slice A l.length c]
  bm : Bk w qm 25 [.int .i64 n, .int .i64 k, .int .i64 t, .slice A2 l2.length c2]
  ob : OwnG w W.heap.size (.slice A l.length c) l
  om : OwnG w W.heap.size (.slice A2 l2.length c2) l2
  eq : gsL l2 = gsL l
  sm : l.length ≤ 6 ∧ ∀ p ∈ l, p.1.stamp.length ≤ 4 ∧ p.1.path.length ≤ 27
  sm2 : l2.length ≤ 6 ∧ ∀ p ∈ l2, p.1.stamp.length ≤ 4 ∧ p.1.path.length ≤ 27
  kp : Kp No W w
theorem PlI.no {W w w' : World} {qb qm : Nat} {n k t : Int} {A : Option Addr} {l : List GP} {c : Nat} {A2 : Option Addr} {l2 : List GP} {c2 : Nat} (h : PlI W qb qm n k t A l c A2 l2 c2 w) (hk : Kp No w w') : PlI W qb qm n k t A l c A2 l2 c2 w' :=
  ⟨h.bb.no hk, h.bm.no hk, h.ob.no hk, h.om.no hk, h.eq, h.sm, h.sm2, h.kp.trans hk⟩
set_option maxRecDepth 100000 in
set_option maxHeartbeats 16000000 in
theorem walk (A : Option Addr) (m c : Nat) (L : List RP) (W : World) (hm : m = L.length) (hL : ArgRs W (.slice A m c) L) (hLl : L.length ≤ 1034834473200) :
    Calls Try.prog 5 #[.slice A m c] W fun e w' => e = .returned (.bool true) ∧ Below W.heap.size W w' := by
  subst hm
  have HLR := Lib.hid hL; have HLL := Lib.hid hLl
  have pa := awake_any W
  clear hL hLl
  have HUB := Lib.hid Try.underlying25
  have HUR := Lib.hid Try.underlying32
  go_enter Try.func5, Try.ntmps5
  go_wp2_with fail
  refine pa.mono ?_
  rintro e w1 ⟨rfl, k1⟩
  have HK1 := Lib.hid k1
  clear k1 pa
  have pn := new_any w1
  go_wp2_with fail
  refine pn.mono ?_
  rintro e w2 ⟨rfl, k2⟩
  obtain ⟨qb, hqb⟩ : ∃ q, q = w2.heap.size := ⟨_, rfl⟩
  obtain ⟨w3, hw3⟩ : ∃ w3, w3 = w2.alloc (.cells #[.int .i64 1, .int .i64 0, .int .i64 0, .slice none 0 0] 25) := ⟨_, rfl⟩
  have HB3 := Lib.hid (show Bk w3 qb 25 [.int .i64 1, .int .i64 0, .int .i64 0, .slice none 0 0] by rw [hw3, hqb]; exact Bk.new' rfl rfl)
  have HK3 := Lib.hid (show Kp No W w3 by rw [hw3]; exact (HK1.out.trans k2).alloc _)
  have HQB := Lib.hid (show W.heap.size ≤ qb by rw [hqb]; exact (HK1.out.trans k2).size)
  have HW3 := Lib.hid hw3; have HXB := Lib.hid hqb
  clear k2 pn hw3 hqb
  go_upto_region 4 with (fail)
  rw [← HW3.out, ← HXB.out]
  clear HW3 HXB
  have pn := rnew_any w3
  go_wp2_with fail
  refine pn.mono ?_
  rintro e w4 ⟨rfl, k4⟩
  obtain ⟨qm, hqm⟩ : ∃ q, q = w4.heap.size := ⟨_, rfl⟩
  obtain ⟨w5, hw5⟩ : ∃ w5, w5 = w4.alloc (.cells #[.int .i64 1, .int .i64 0, .int .i64 0, .slice none 0 0] 25) := ⟨_, rfl⟩
  have k5 : Kp No w4 w5 := by rw [hw5]; exact (Kp.refl No w4).alloc _
  have HM5 := Lib.hid (show Bk w5 qm 25 [.int .i64 1, .int .i64 0, .int .i64 0, .slice none 0 0] by rw [hw5, hqm]; exact Bk.new' rfl rfl)
  have HB5 := Lib.hid ((HB3.out.no k4).no k5)
  have HK5 := Lib.hid ((HK3.out.trans k4).trans k5)
  have HQM := Lib.hid (show W.heap.size ≤ qm by rw [hqm]; exact (HK3.out.trans k4).size)
  have HNE := Lib.hid (show qb ≠ qm by have h1 := HB3.out.lt; have h2 := k4.size; omega)
  have HI5 := Lib.hid (show PlI W qb qm 1 0 0 none [] 0 none [] 0 w5 from ⟨HB5.out, HM5.out, OwnG.nil _ _, OwnG.nil _ _, rfl, ⟨Nat.zero_le _, fun p hp => by cases hp⟩, ⟨Nat.zero_le _, fun p hp => by cases hp⟩, HK5.out⟩)
  have HW5 := Lib.hid hw5; have HXM := Lib.hid hqm
  clear k4 k5 pn hw5 hqm HB3 HK3 HM5 HB5 HK5 HK1
  go_upto_region 5 with (fail)
  rw [← HW5.out, ← HXM.out]
  clear HW5 HXM
  go_wp2
  go_loopw [17] (fun i wr => ∃ (j : Nat) (n' k' t' : Int) (A' : Option Addr) (l' : List GP) (c' : Nat) (A2 : Option Addr) (l2 : List GP) (c2 : Nat), j ≤ L.length ∧ i = .int .i64 j ∧ PlI W qb qm n' k' t' A' l' c' A2 l2 c2 wr) (fun i _ => L.length - (intOf i).toNat)
  case atStart => exact ⟨0, 1, 0, 0, none, [], 0, none, [], 0, Nat.zero_le _, rfl, HI5.out⟩
  case round =>
    obtain ⟨j, n', k', t', A', l', c', A2, l2, c2, hj, rfl, hI⟩ := hrel
    have HI := Lib.hid hI
    clear hI
    have pd : ∀ {n' k' t' A' l' c' A2 l2 c2} W2, PlI W qb qm n' k' t' A' l' c' A2 l2 c2 W2 → Calls Try.prog 22 #[.agg #[.int .i64 n', .int .i64 k', .int .i64 t', .slice A' l'.length c'], .agg #[.int .i64 n', .int .i64 k', .int .i64 t', .slice A2 l2.length c2]] W2 fun e w' => e = .returned (.bool true) ∧ Kp No W2 w' := fun {n' k' t' A' l' c' A2 l2 c2} W2 h =>
      dumps_any n' k' t' (.slice A' l'.length c') (.slice A2 l2.length c2) l' l2 W2 h.ob.arg h.om.arg (small_sh h.sm) (small_sh h.sm2) (fun p hp => by have := (h.sm2.2 p hp).2; omega) (by have := h.sm.1; omega) (fun p hp => by have := (h.sm.2 p hp).1; omega) h.eq
    by_cases hlt : j < L.length
    · have hk0 : (0 : Int) ≤ (j : Int) := by omega
      have hk1 : (j : Int) < (L.length : Int) := by omega
      obtain ⟨g, o, eA, hcell⟩ := (HLR.out.no HI.out.kp).cells hlt
      obtain rfl : A = some ⟨g, o, none⟩ := eA
      have hin : RPin wr L[j] := by obtain ⟨_, _, _, _, _, h⟩ := HLR.out.no HI.out.kp; exact h _ (List.getElem_mem hlt)
      obtain ⟨p, hp⟩ : ∃ p, p = L[j] := ⟨_, rfl⟩
      rw [← hp] at hin hcell
      obtain ⟨r, gv, rv⟩ := p
      have hin1 : ArgInts wr gv r.grant.stamp := hin.1
      have hin2 : ArgInts wr rv r.stamp := hin.2.1
      have HS := Lib.hid (show ShRin r from hin.2.2)
      have hcell : ∀ (i : Nat) u, (rC r gv rv)[i]? = some u → wr.cell? ⟨g, o + j * 12 + i, none⟩ = some u := hcell
      clear hin hp
      obtain ⟨Ag, cg, rfl, _⟩ := ints_of _ _ _ hin1
      obtain ⟨Ar, cr, rfl, _⟩ := ints_of _ _ _ hin2
      have y0 : wr.cell? ⟨g, o + j * 12, none⟩ = some (.int .i64 r.kind) := hcell 0 _ rfl
      have y1 : wr.cell? ⟨g, o + j * 12 + 1, none⟩ = some (.int .i64 r.grant.id) := hcell 1 _ rfl
      have y2 : wr.cell? ⟨g, o + j * 12 + 2, none⟩ = some (.int .i64 r.grant.holder) := hcell 2 _ rfl
      have y3 : wr.cell? ⟨g, o + j * 12 + 3, none⟩ = some (.string ⟨r.grant.path.toArray⟩) := hcell 3 _ rfl
      have y4 : wr.cell? ⟨g, o + j * 12 + 4, none⟩ = some (.int .i64 r.grant.mode) := hcell 4 _ rfl
      have y5 : wr.cell? ⟨g, o + j * 12 + 5, none⟩ = some (.slice Ag r.grant.stamp.length cg) := hcell 5 _ rfl
      have y6 : wr.cell? ⟨g, o + j * 12 + 6, none⟩ = some (.int .i64 r.grant.term) := hcell 6 _ rfl
      have y7 : wr.cell? ⟨g, o + j * 12 + 7, none⟩ = some (.int .i64 r.id) := hcell 7 _ rfl
      have y8 : wr.cell? ⟨g, o + j * 12 + 8, none⟩ = some (.slice Ar r.stamp.length cr) := hcell 8 _ rfl
      have y9 : wr.cell? ⟨g, o + j * 12 + 9, none⟩ = some (.int .i64 r.next) := hcell 9 _ rfl
      have y10 : wr.cell? ⟨g, o + j * 12 + 10, none⟩ = some (.int .i64 r.boots) := hcell 10 _ rfl
      have y11 : wr.cell? ⟨g, o + j * 12 + 11, none⟩ = some (.int .i64 r.longest) := hcell 11 _ rfl
      obtain ⟨x7, hx7⟩ : ∃ x7, x7 = wr.heap.size := ⟨_, rfl⟩
      obtain ⟨CR, hCR⟩ : ∃ C : List Value, C = rC r (.slice Ag r.grant.stamp.length cg) (.slice Ar r.stamp.length cr) := ⟨_, rfl⟩
      obtain ⟨wa, hwa⟩ : ∃ wa, wa = wr.alloc (.cells (rC r (.slice Ag r.grant.stamp.length cg) (.slice Ar r.stamp.length cr)).toArray 32) := ⟨_, rfl⟩
      have HKA := Lib.hid (show Kp No wr wa by rw [hwa]; exact (Kp.refl No wr).alloc _)
      have HR7 := Lib.hid (show Bk wa x7 32 CR by rw [hwa, hCR]; exact Bk.new' hx7 rfl)
      have HG7 := Lib.hid (hin1.no HKA.out); have HS7 := Lib.hid (hin2.no HKA.out)
      have HWA := Lib.hid hwa; have HX7 := Lib.hid hx7; have HCR := Lib.hid hCR
      have HIA := Lib.hid (HI.out.no HKA.out)
      have hcl : CR.length = 12 := by rw [hCR]; rfl
      have HIR := Lib.hid (show (Try.prog.info? 32).map (·.size) = some CR.length by rw [hcl]; kernel_rfl)
      have HLT := Lib.hid hlt
      clear hwa hx7 hin1 hin2 hcell hCR hcl hlt
      go_upto_region 8 with (fail)
      unfold rC at HWA
      rw [← HWA.out, ← HX7.out]
      clear HWA HX7 y0 y1 y2 y3 y4 y5 y6 y7 y8 y9 y10 y11
      obtain ⟨b', hb'⟩ : ∃ b', b' = (applyB (bk n' k' t' l') r).1 := ⟨_, rfl⟩
      obtain ⟨er, her⟩ : ∃ er, er = (applyB (bk n' k' t' l') r).2 := ⟨_, rfl⟩
      have HBE := Lib.hid (And.intro hb' her)
      obtain ⟨CB, hCB⟩ : ∃ C : List Value, C = [.int .i64 n', .int .i64 k', .int .i64 t', .slice A' l'.length c'] := ⟨_, rfl⟩
      have HCB := Lib.hid hCB
      have HIB := Lib.hid (show (Try.prog.info? 25).map (·.size) = some CB.length by rw [hCB]; kernel_rfl)
      have HBB := Lib.hid (show ∀ W2, Kp No wa W2 → Bk W2 qb 25 CB from fun W2 kk => by rw [hCB]; exact HIA.out.bb.no kk)
      have HRR := Lib.hid (show ∀ W2, Kp No wa W2 → Bk W2 x7 32 CR from fun W2 kk => HR7.out.no kk)
      clear hb' her hCB
      have pb : ∀ W2, Kp No wa W2 → Calls Try.prog 13 #[.agg CB.toArray] W2 fun e w' => ∃ v, e = .returned v ∧ OwnBk w' wa.heap.size n' k' t' (gsL l') v ∧ Kp No W2 w' := fun W2 kk => by
        rw [HCB.out]
        exact (ownB_any n' k' t' (.slice A' l'.length c') l' W2 (HIA.out.ob.no kk).arg (by have := HI.out.sm.1; omega) (fun p hp => by have := (HI.out.sm.2 p hp).1; omega)).mono fun e w' ⟨sv, l2, h1, h2, h3, h4⟩ => ⟨_, h1, OwnBk.of h2 (h3.mono kk.size), h4⟩
      have pr : ∀ W2, Kp No wa W2 → Calls Try.prog 14 #[.agg CR.toArray] W2 fun e w' => ∃ v, e = .returned v ∧ OwnRv w' wa.heap.size r v ∧ Kp No W2 w' := fun W2 kk => by
        rw [HCR.out]
        exact (ownRec_any r (.slice Ag r.grant.stamp.length cg) (.slice Ar r.stamp.length cr) W2 (HG7.out.no kk) (HS7.out.no kk) HS.out.1.2 HS.out.2).mono fun e w' ⟨gv, rv, h1, h2, h3, h4⟩ => ⟨_, h1, OwnRv.of (own_mono h2 kk.size) (own_mono h3 kk.size), h4⟩
      have pap : ∀ W2, Kp No wa W2 → ∀ v1 v2, OwnBk W2 wa.heap.size n' k' t' (gsL l') v1 → OwnRv W2 wa.heap.size r v2 → Calls Try.prog 12 #[v1, v2] W2 fun e w' => ∃ v, e = .returned v ∧ OwnAp w' wa.heap.size b' er v ∧ Kp No W2 w' := by
        rintro W2 kk v1 v2 ⟨A1, l1, c1, rfl, g1, o1⟩ ⟨A2, c2, A3, c3, rfl, o2, o3⟩
        refine (apply_any n' k' t' (.slice A1 l1.length c1) l1 r (.slice A2 r.grant.stamp.length c2) (.slice A3 r.stamp.length c3) W2 o1.arg (shL_gs (small_sh HI.out.sm) g1) (own_argI o2) (own_argI o3) HS.out.1.sh (by have := HS.out.2; unfold maxLen; omega)).mono ?_
        rintro e w' ⟨s8, l8, h1, h2, h3, h4⟩
        obtain ⟨A8, c8, rfl⟩ := h3.slice
        rw [bk_gs g1, ← HBE.out.1] at h1 h2
        rw [← HBE.out.2] at h1
        exact ⟨_, h1, ⟨A8, l8, c8, rfl, h2, h3.mono kk.size⟩, h4⟩
      refine rg_all [0, 1, 2, 3, 4, 5, 6, 7, 8, 9, 10] (by rfl) ?fr ?hfr (fun j x w => match j with | 0 => (x 0 = .agg CB.toArray) | 1 => (OwnBk w wa.heap.size n' k' t' (gsL l') (x 1)) | 2 => (x 2 = .agg CR.toArray) | 3 => (OwnRv w wa.heap.size r (x 3)) | 4 => (OwnAp w wa.heap.size b' er (x 4)) | 5 => (OwnAp w wa.heap.size b' er (x 5)) | 6 => (OwnBk w wa.heap.size b'.next b'.boots b'.longest b'.grants (x 6)) | 7 => (x 7 = .int .i64 er) | 8 => (NewBk w wa.heap.size 25 4 (x 8)) | 9 => (BokAt w wa.heap.size b' (x 8)) | 10 => (x 10 = .int .i64 er) | _ => True) (fun w => Kp No wa w) (fun i w w' => if i = 9 then StB wa.heap.size 25 4 w w' else Kp No w w') (by kernel_rfl) (by kernel_rfl) ?hF ?mono ?step ?hend
      case hfr =>
        intro x
        simp only [puts, dstOf, List.getElem?_toArray, List.getElem?_cons_succ, List.getElem?_cons_zero, Option.bind_some, Act.put, List.setIfInBounds_toArray, List.set_cons_zero, List.set_cons_succ]
        exact rfl
      case hF =>
        exact (Kp.refl No wa).drew
      case mono =>
        intro i j x v w w' hij hca hr hp
        match j, hij, hca, hp with
        | 0, hij, hca, hp =>
          replace hp : x 0 = .agg CB.toArray := hp
          (have e : upd x i v 0 = x 0 := upd_ne x v hij; exact e.trans hp)
        | 1, hij, hca, hp =>
          replace hp : OwnBk w wa.heap.size n' k' t' (gsL l') (x 1) := hp
          (show OwnBk w' wa.heap.size n' k' t' (gsL l') (upd x i v 1); rw [upd_ne x v hij]; by_cases h9 : i = 9; (subst h9; have hr2 : StB wa.heap.size 25 4 w w' := hr; obtain ⟨g, cs, cs', h1, h2, _, _, h5⟩ := hr2; exact hp.far h5 h2 (by decide) (by decide)); (have hr2 : Kp No w w' := (by simpa [h9] using hr); exact hp.no hr2))
        | 2, hij, hca, hp =>
          replace hp : x 2 = .agg CR.toArray := hp
          (have e : upd x i v 2 = x 2 := upd_ne x v hij; exact e.trans hp)
        | 3, hij, hca, hp =>
          replace hp : OwnRv w wa.heap.size r (x 3) := hp
          (show OwnRv w' wa.heap.size r (upd x i v 3); rw [upd_ne x v hij]; by_cases h9 : i = 9; (subst h9; have hr2 : StB wa.heap.size 25 4 w w' := hr; obtain ⟨g, cs, cs', h1, h2, _, _, h5⟩ := hr2; exact hp.far h5 h2 (by decide)); (have hr2 : Kp No w w' := (by simpa [h9] using hr); exact hp.no hr2))
        | 4, hij, hca, hp =>
          replace hp : OwnAp w wa.heap.size b' er (x 4) := hp
          (show OwnAp w' wa.heap.size b' er (upd x i v 4); rw [upd_ne x v hij]; by_cases h9 : i = 9; (subst h9; have hr2 : StB wa.heap.size 25 4 w w' := hr; obtain ⟨g, cs, cs', h1, h2, _, _, h5⟩ := hr2; exact hp.far h5 h2 (by decide) (by decide)); (have hr2 : Kp No w w' := (by simpa [h9] using hr); exact hp.no hr2))
        | 5, hij, hca, hp =>
          replace hp : OwnAp w wa.heap.size b' er (x 5) := hp
          (show OwnAp w' wa.heap.size b' er (upd x i v 5); rw [upd_ne x v hij]; by_cases h9 : i = 9; (subst h9; have hr2 : StB wa.heap.size 25 4 w w' := hr; obtain ⟨g, cs, cs', h1, h2, _, _, h5⟩ := hr2; exact hp.far h5 h2 (by decide) (by decide)); (have hr2 : Kp No w w' := (by simpa [h9] using hr); exact hp.no hr2))
        | 6, hij, hca, hp =>
          replace hp : OwnBk w wa.heap.size b'.next b'.boots b'.longest b'.grants (x 6) := hp
          (show OwnBk w' wa.heap.size b'.next b'.boots b'.longest b'.grants (upd x i v 6); rw [upd_ne x v hij]; by_cases h9 : i = 9; (subst h9; have hr2 : StB wa.heap.size 25 4 w w' := hr; obtain ⟨g, cs, cs', h1, h2, _, _, h5⟩ := hr2; exact hp.far h5 h2 (by decide) (by decide)); (have hr2 : Kp No w w' := (by simpa [h9] using hr); exact hp.no hr2))
        | 7, hij, hca, hp =>
          replace hp : x 7 = .int .i64 er := hp
          (have e : upd x i v 7 = x 7 := upd_ne x v hij; exact e.trans hp)
        | 8, hij, hca, hp =>
          replace hp : NewBk w wa.heap.size 25 4 (x 8) := hp
          (show NewBk w' wa.heap.size 25 4 (upd x i v 8); rw [upd_ne x v hij]; by_cases h9 : i = 9; (subst h9; have hr2 : StB wa.heap.size 25 4 w w' := hr; exact hp.st hr2); (have hr2 : Kp No w w' := (by simpa [h9] using hr); exact hp.no hr2))
        | 9, hij, hca, hp =>
          replace hp : BokAt w wa.heap.size b' (x 8) := hp
          have h8 : i ≠ 8 := fun e => by subst e; revert hca; decide +kernel
          show BokAt w' wa.heap.size b' (upd x i v 8)
          rw [upd_ne x v h8]
          have hr2 : Kp No w w' := by simpa [show i ≠ 9 from hij] using hr
          exact hp.no hr2
        | 10, hij, hca, hp =>
          replace hp : x 10 = .int .i64 er := hp
          (have e : upd x i v 10 = x 10 := upd_ne x v hij; exact e.trans hp)
        | _ + 11, _, _, _ => trivial
      case step =>
        intro i oi hi x w K hf hd hK
        have hil := (Array.getElem?_eq_some_iff.1 hi).1
        match i, hil, hi, hd, hK with
        | 0, _, hi, hd, hK =>
          simp only [List.getElem?_toArray, List.getElem?_cons_zero, Option.some.injEq] at hi
          subst hi
          refine ro_do rfl (by rfl) ?_
          (refine wp_load_mid 25 _ rfl qb 0 ?_ CB _ (bk_range (HBB.out _ hf)) HUB.out rfl HIB.out ?_; exact rfl)
          refine hK _ (.agg CB.toArray) _ ?_ ?_ ?_ ?_
          · simp [upd, Act.put]
          · exact upd_same x 0 _
          · exact hf
          · exact Kp.refl No _
        | 1, _, hi, hd, hK =>
          have d0 : x 0 = .agg CB.toArray := hd 0 (by kernel_rfl)
          simp only [List.getElem?_toArray, List.getElem?_cons_succ, List.getElem?_cons_zero, Option.some.injEq] at hi
          subst hi
          simp only [d0]
          refine ro_do rfl (by rfl) ?_
          (go_simp; refine (pb _ hf).mono ?_; rintro e w2 ⟨v2, rfl, hv2, k2⟩)
          refine hK _ (v2) _ ?_ ?_ ?_ ?_
          · simp [upd, d0]
          · (show OwnBk _ _ _ _ _ _ (upd x 1 v2 1); rw [upd_same]; exact hv2)
          · exact hf.trans k2
          · exact k2
        | 2, _, hi, hd, hK =>
          simp only [List.getElem?_toArray, List.getElem?_cons_succ, List.getElem?_cons_zero, Option.some.injEq] at hi
          subst hi
          refine ro_do rfl (by rfl) ?_
          (refine wp_load_mid 32 _ rfl x7 0 ?_ CR _ (bk_range (HRR.out _ hf)) HUR.out rfl HIR.out ?_; exact rfl)
          refine hK _ (.agg CR.toArray) _ ?_ ?_ ?_ ?_
          · simp [upd, Act.put]
          · exact upd_same x 2 _
          · exact hf
          · exact Kp.refl No _
        | 3, _, hi, hd, hK =>
          have d1 : OwnBk w wa.heap.size n' k' t' (gsL l') (x 1) := hd 1 (by kernel_rfl)
          have d2 : x 2 = .agg CR.toArray := hd 2 (by kernel_rfl)
          simp only [List.getElem?_toArray, List.getElem?_cons_succ, List.getElem?_cons_zero, Option.some.injEq] at hi
          subst hi
          simp only [d2]
          refine ro_do rfl (by rfl) ?_
          (go_simp; refine (pr _ hf).mono ?_; rintro e w2 ⟨v2, rfl, hv2, k2⟩)
          refine hK _ (v2) _ ?_ ?_ ?_ ?_
          · simp [upd, d2]
          · (show OwnRv _ _ _ (upd x 3 v2 3); rw [upd_same]; exact hv2)
          · exact hf.trans k2
          · exact k2
        | 4, _, hi, hd, hK =>
          have d1 : OwnBk w wa.heap.size n' k' t' (gsL l') (x 1) := hd 1 (by kernel_rfl)
          have d3 : OwnRv w wa.heap.size r (x 3) := hd 3 (by kernel_rfl)
          simp only [List.getElem?_toArray, List.getElem?_cons_succ, List.getElem?_cons_zero, Option.some.injEq] at hi
          subst hi
          refine ro_do rfl (by rfl) ?_
          (go_simp; refine (pap _ hf _ _ d1 d3).mono ?_; rintro e w2 ⟨v2, rfl, hv2, k2⟩)
          refine hK _ (v2) _ ?_ ?_ ?_ ?_
          · simp [upd]
          · (show OwnAp _ _ _ _ (upd x 4 v2 4); rw [upd_same]; exact hv2)
          · exact hf.trans k2
          · exact k2
        | 5, _, hi, hd, hK =>
          have d4 : OwnAp w wa.heap.size b' er (x 4) := hd 4 (by kernel_rfl)
          simp only [List.getElem?_toArray, List.getElem?_cons_succ, List.getElem?_cons_zero, Option.some.injEq] at hi
          subst hi
          refine ro_do rfl (by rfl) ?_
          go_simp
          refine hK _ (x 4) _ ?_ ?_ ?_ ?_
          · simp [upd]
          · (show OwnAp _ _ _ _ (upd x 5 (x 4) 5); rw [upd_same]; exact d4)
          · exact hf
          · exact Kp.refl No _
        | 6, _, hi, hd, hK =>
          have d5 : OwnAp w wa.heap.size b' er (x 5) := hd 5 (by kernel_rfl)
          obtain ⟨A5, l5, c5, e5, g5, o5⟩ := d5
          simp only [List.getElem?_toArray, List.getElem?_cons_succ, List.getElem?_cons_zero, Option.some.injEq] at hi
          subst hi
          refine ro_do rfl (by rfl) ?_
          (simp only [e5]; go_simp)
          refine hK _ (.agg #[.int .i64 b'.next, .int .i64 b'.boots, .int .i64 b'.longest, .slice A5 l5.length c5]) _ ?_ ?_ ?_ ?_
          · simp [upd, e5]
          · (show OwnBk _ _ _ _ _ _ (upd x 6 _ 6); rw [upd_same]; exact ⟨_, _, _, rfl, g5, o5⟩)
          · exact hf
          · exact Kp.refl No _
        | 7, _, hi, hd, hK =>
          have d5 : OwnAp w wa.heap.size b' er (x 5) := hd 5 (by kernel_rfl)
          obtain ⟨A5, l5, c5, e5, g5, o5⟩ := d5
          simp only [List.getElem?_toArray, List.getElem?_cons_succ, List.getElem?_cons_zero, Option.some.injEq] at hi
          subst hi
          refine ro_do rfl (by rfl) ?_
          (simp only [e5]; go_simp)
          refine hK _ (.int .i64 er) _ ?_ ?_ ?_ ?_
          · simp [upd, e5]
          · exact upd_same x 7 _
          · exact hf
          · exact Kp.refl No _
        | 8, _, hi, hd, hK =>
          simp only [List.getElem?_toArray, List.getElem?_cons_succ, List.getElem?_cons_zero, Option.some.injEq] at hi
          subst hi
          refine ro_do rfl (by rfl) ?_
          go_simp
          refine hK _ (.pointer (some ⟨w.heap.size, 0, none⟩)) _ ?_ ?_ ?_ ?_
          · simp [upd]
          · (show NewBk _ _ _ _ (upd x 8 _ 8); rw [upd_same]; exact ⟨_, _, rfl, hf.size, Bk.new' rfl rfl, rfl⟩)
          · exact hf.alloc _
          · exact (Kp.refl No w).alloc _
        | 9, _, hi, hd, hK =>
          have d0 : x 0 = .agg CB.toArray := hd 0 (by kernel_rfl)
          have d1 : OwnBk w wa.heap.size n' k' t' (gsL l') (x 1) := hd 1 (by kernel_rfl)
          have d2 : x 2 = .agg CR.toArray := hd 2 (by kernel_rfl)
          have d3 : OwnRv w wa.heap.size r (x 3) := hd 3 (by kernel_rfl)
          have d4 : OwnAp w wa.heap.size b' er (x 4) := hd 4 (by kernel_rfl)
          have d5 : OwnAp w wa.heap.size b' er (x 5) := hd 5 (by kernel_rfl)
          have d6 : OwnBk w wa.heap.size b'.next b'.boots b'.longest b'.grants (x 6) := hd 6 (by kernel_rfl)
          have d8 : NewBk w wa.heap.size 25 4 (x 8) := hd 8 (by kernel_rfl)
          obtain ⟨g8, cs8, e8, b8, h8, n8⟩ := d8
          obtain ⟨c0, c1, c2, c3, rfl⟩ := list4 n8
          obtain ⟨A6, l6, c6, e6, g6, o6⟩ := d6
          have y0 := h8.cell 0; have y1 := h8.cell 1; have y2 := h8.cell 2; have y3 := h8.cell 3
          simp only [List.getElem?_cons_zero, List.getElem?_cons_succ] at y0 y1 y2 y3
          have f0 := h8.frozen 0; have f1 := h8.frozen 1; have f2 := h8.frozen 2; have f3 := h8.frozen 3
          have B9 := ((((h8.set_ 0 (.int .i64 b'.next)).set_ 1 (.int .i64 b'.boots)).set_ 2 (.int .i64 b'.longest)).set_ 3 (.slice A6 l6.length c6))
          have K9 := (((((Kp.refl (One g8) w).set (.inl (One.self g8)) 0 (.int .i64 b'.next)).set (.inl (One.self g8)) 1 (.int .i64 b'.boots)).set (.inl (One.self g8)) 2 (.int .i64 b'.longest)).set (.inl (One.self g8)) 3 (.slice A6 l6.length c6))
          simp only [List.getElem?_toArray, List.getElem?_cons_succ, List.getElem?_cons_zero, Option.some.injEq] at hi
          subst hi
          refine ro_do rfl (by rfl) ?_
          (simp only [e8, e6]; go_simp)
          refine hK _ (undef) _ ?_ ?_ ?_ ?_
          · simp [upd, e8, e6, d0, d2]
          · exact ⟨g8, A6, l6, c6, (upd_ne x _ (by decide)).trans e8, b8, B9, g6, o6.far K9 h8 (by decide) (by decide)⟩
          · exact hf.then_ K9 fun j hj e => by have h1 : j = g8 := e; omega
          · exact (show StB _ _ _ _ _ from ⟨g8, _, _, b8, h8, B9, rfl, K9⟩)
        | 10, _, hi, hd, hK =>
          have d0 : x 0 = .agg CB.toArray := hd 0 (by kernel_rfl)
          have d1 : OwnBk w wa.heap.size n' k' t' (gsL l') (x 1) := hd 1 (by kernel_rfl)
          have d2 : x 2 = .agg CR.toArray := hd 2 (by kernel_rfl)
          have d3 : OwnRv w wa.heap.size r (x 3) := hd 3 (by kernel_rfl)
          have d4 : OwnAp w wa.heap.size b' er (x 4) := hd 4 (by kernel_rfl)
          have d5 : OwnAp w wa.heap.size b' er (x 5) := hd 5 (by kernel_rfl)
          have d6 : OwnBk w wa.heap.size b'.next b'.boots b'.longest b'.grants (x 6) := hd 6 (by kernel_rfl)
          have d7 : x 7 = .int .i64 er := hd 7 (by kernel_rfl)
          have d8 : NewBk w wa.heap.size 25 4 (x 8) := hd 8 (by kernel_rfl)
          have d9 : BokAt w wa.heap.size b' (x 8) := hd 9 (by kernel_rfl)
          simp only [List.getElem?_toArray, List.getElem?_cons_succ, List.getElem?_cons_zero, Option.some.injEq] at hi
          subst hi
          refine ro_do rfl (by rfl) ?_
          (simp only [d7]; go_simp)
          refine hK _ (.int .i64 er) _ ?_ ?_ ?_ ?_
          · simp [upd, d7, d0, d2]
          · exact upd_same x 10 _
          · exact hf
          · exact Kp.refl No _
        | k + 11, hil, _, _, _ => exact absurd hil (by simp)
      intro x w hf hp
      have p0 : x 0 = .agg CB.toArray := hp 0 (by decide)
      have p1 : OwnBk w wa.heap.size n' k' t' (gsL l') (x 1) := hp 1 (by decide)
      have p2 : x 2 = .agg CR.toArray := hp 2 (by decide)
      have p3 : OwnRv w wa.heap.size r (x 3) := hp 3 (by decide)
      have p4 : OwnAp w wa.heap.size b' er (x 4) := hp 4 (by decide)
      have p5 : OwnAp w wa.heap.size b' er (x 5) := hp 5 (by decide)
      have p6 : OwnBk w wa.heap.size b'.next b'.boots b'.longest b'.grants (x 6) := hp 6 (by decide)
      have p7 : x 7 = .int .i64 er := hp 7 (by decide)
      have p8 : NewBk w wa.heap.size 25 4 (x 8) := hp 8 (by decide)
      have p9 : BokAt w wa.heap.size b' (x 8) := hp 9 (by decide)
      have p10 : x 10 = .int .i64 er := hp 10 (by decide)
      clear hp
      obtain ⟨q8, A8, l8, c8, e8, b8, h8, g8, o8⟩ := p9
      simp only [e8, p10]
      have HKW := Lib.hid hf
      have HC3 := Lib.hid h8; have HO3 := Lib.hid (o8.mono HIA.out.kp.size); have HG8 := Lib.hid g8; have HQ8 := Lib.hid b8
      have HIw := Lib.hid (HIA.out.no hf); have HRw := Lib.hid (HRR.out _ hf)
      have HGw := Lib.hid (HG7.out.no hf); have HSw := Lib.hid (HS7.out.no hf)
      clear p0 p1 p2 p3 p4 p5 p6 p7 p8 p10 e8 b8 h8 g8 o8 hf pb pr pap HBB HRR
      have par := rapply_any n' k' t' (.slice A2 l2.length c2) l2 r (.slice Ag r.grant.stamp.length cg) (.slice Ar r.stamp.length cr) w HIw.out.om.arg (small_sh HI.out.sm2) (fun p hp => by have := (HI.out.sm2.2 p hp).2; omega) HGw.out HSw.out HS.out.1.sh (by have := HS.out.2; unfold maxLen; omega) (by have := HS.out.1.1; omega)
      rw [bk_gs HI.out.eq, ← HCR.out] at par
      have z0 := HIw.out.bm.cell 0; have z1 := HIw.out.bm.cell 1; have z2 := HIw.out.bm.cell 2; have z3 := HIw.out.bm.cell 3
      simp only [List.getElem?_cons_zero, List.getElem?_cons_succ] at z0 z1 z2 z3
      go_wp2_with (first | (with_reducible refine wpList_load_mid rfl _ _ rfl x7 0 rfl CR _ (bk_range HRw.out) HUR.out rfl HIR.out ?_) | fail)
      refine par.mono ?_
      rintro e w4 ⟨s9, l9, rfl, g9, o9, k9⟩
      obtain ⟨A9, c9, rfl⟩ := o9.slice
      rw [← HBE.out.1, ← HBE.out.2]
      rw [← HBE.out.1] at g9
      obtain ⟨q9, hq9⟩ : ∃ q9, q9 = w4.heap.size := ⟨_, rfl⟩
      obtain ⟨w6, hw6⟩ : ∃ w6, w6 = w4.alloc (.cells #[.int .i64 b'.next, .int .i64 b'.boots, .int .i64 b'.longest, .slice A9 l9.length c9] 25) := ⟨_, rfl⟩
      have kal : Kp No w4 w6 := by rw [hw6]; exact (Kp.refl No w4).alloc _
      have HK46 := Lib.hid (show Kp No w w6 from k9.trans kal)
      have HN6 := Lib.hid (show Bk w6 q9 25 [.int .i64 b'.next, .int .i64 b'.boots, .int .i64 b'.longest, .slice A9 l9.length c9] by rw [hw6, hq9]; exact Bk.new' rfl rfl)
      have HC6 := Lib.hid (HC3.out.no HK46.out); have HO6 := Lib.hid (HO3.out.no HK46.out); have HI6 := Lib.hid (HIw.out.no HK46.out)
      have HO9 := Lib.hid (show OwnG w6 W.heap.size (.slice A9 l9.length c9) l9 from (o9.no kal).mono HIw.out.kp.size); have HG9 := Lib.hid g9
      have HWW := Lib.hid hw6; have HQ9 := Lib.hid hq9
      have HXQ := Lib.hid (show qb < w.heap.size ∧ qm < w.heap.size from ⟨HIw.out.bb.lt, HIw.out.bm.lt⟩)
      have HX9 := Lib.hid (show q9 ≠ qb ∧ q9 ≠ qm by have h1 := HXQ.out; have h2 := k9.size; omega)
      have HX8 := Lib.hid (show q8 ≠ qb ∧ q8 ≠ qm by have h1 := HIA.out.bb.lt; have h2 := HIA.out.bm.lt; have h3 := HQ8.out; omega)
      clear par g9 o9 k9 kal hw6 hq9 z0 z1 z2 z3
      go_upto_region 10 with (fail)
      rw [← HWW.out, ← HQ9.out]
      clear HWW HQ9
      have dre : (er != er) = false := by rw [bne_eq_false_iff_eq]
      go_upto_if 40 with (fail)
      clear dre
      go_cut [17, 5] (fun s17 s5 wx => s17 = .int .i64 j ∧ s5 = .int .i64 j ∧ ∃ (n' k' t' : Int) (A' : Option Addr) (l' : List GP) (c' : Nat) (A2 : Option Addr) (l2 : List GP) (c2 : Nat), PlI W qb qm n' k' t' A' l' c' A2 l2 c2 wx)
      case first =>
        by_cases h0 : er = 0
        · subst h0
          have hm8 := apply_small (b := bk n' k' t' l') (r := r) (m := l8) (by rw [← HBE.out.1]; exact HG8.out)
          have hm9 := apply_small (b := bk n' k' t' l') (r := r) (m := l9) (by rw [← HBE.out.1]; exact HG9.out)
          have HM8 := Lib.hid hm8; have HM9 := Lib.hid hm9
          clear hm8 hm9
          go_upto_region 13 with (fail)
          obtain ⟨wd, hwd⟩ : ∃ wd, wd = w6.drew := ⟨_, rfl⟩
          have kd : Kp No w6 wd := by rw [hwd]; exact (Kp.refl No w6).drew
          have hF : Bk wd q8 25 [.int .i64 b'.next, .int .i64 b'.boots, .int .i64 b'.longest, .slice A8 l8.length c8] ∧ Bk wd q9 25 [.int .i64 b'.next, .int .i64 b'.boots, .int .i64 b'.longest, .slice A9 l9.length c9] := ⟨HC6.out.no kd, HN6.out.no kd⟩
          have hB := HI6.out.bb.no kd
          have hM := HI6.out.bm.no kd
          have K7 := ((((Kp.refl (One qb) wd).set (.inl (One.self qb)) 0 (.int .i64 b'.next)).set (.inl (One.self qb)) 1 (.int .i64 b'.boots)).set (.inl (One.self qb)) 2 (.int .i64 b'.longest)).set (.inl (One.self qb)) 3 (.slice A8 l8.length c8)
          have K8 := ((((Kp.refl (One qm) ((((wd.setCell ⟨qb, 0, none⟩ (.int .i64 b'.next)).setCell ⟨qb, 1, none⟩ (.int .i64 b'.boots)).setCell ⟨qb, 2, none⟩ (.int .i64 b'.longest)).setCell ⟨qb, 3, none⟩ (.slice A8 l8.length c8))).set (.inl (One.self qm)) 0 (.int .i64 b'.next)).set (.inl (One.self qm)) 1 (.int .i64 b'.boots)).set (.inl (One.self qm)) 2 (.int .i64 b'.longest)).set (.inl (One.self qm)) 3 (.slice A9 l9.length c9)
          have B7 := ((((hB).set_ 0 (.int .i64 b'.next)).set_ 1 (.int .i64 b'.boots)).set_ 2 (.int .i64 b'.longest)).set_ 3 (.slice A8 l8.length c8)
          have M7 := hM.kp K7 (fun e => HNE.out e.symm)
          have B8 := B7.kp K8 HNE.out
          have M8 := ((((M7).set_ 0 (.int .i64 b'.next)).set_ 1 (.int .i64 b'.boots)).set_ 2 (.int .i64 b'.longest)).set_ 3 (.slice A9 l9.length c9)
          refine rg_begin (fun W2 => Bk W2 q8 25 [.int .i64 b'.next, .int .i64 b'.boots, .int .i64 b'.longest, .slice A8 l8.length c8] ∧ Bk W2 q9 25 [.int .i64 b'.next, .int .i64 b'.boots, .int .i64 b'.longest, .slice A9 l9.length c9]) 4 (by kernel_rfl) ?_
          rw [← hwd]
          clear hwd
          refine rg_take (i := 0) (v := ?vp0) (by simp only [List.getElem?_toArray, List.getElem?_cons_zero]; rfl) (by kernel_rfl) (by exact fun _ _ _ h => h) (by rfl) ?rp0 hF ?sp0
          case rp0 => (intro W9 hW; have s0 : W9.cell? ⟨q8, 0, none⟩ = some (.int .i64 b'.next) := hW.1.cell 0; have s1 : W9.cell? ⟨q8, 1, none⟩ = some (.int .i64 b'.boots) := hW.1.cell 1; have s2 : W9.cell? ⟨q8, 2, none⟩ = some (.int .i64 b'.longest) := hW.1.cell 2; have s3 : W9.cell? ⟨q8, 3, none⟩ = some (.slice A8 l8.length c8) := hW.1.cell 3; clear hW; go_simp; try with_reducible rfl)
          try simp only [Act.put, List.setIfInBounds_toArray, List.set_cons_zero, List.set_cons_succ]
          refine rg_take (i := 1) (v := ?vp1) (by simp only [List.getElem?_toArray, List.getElem?_cons_succ, List.getElem?_cons_zero]; rfl) (by kernel_rfl) (by exact fun _ _ _ h => h) (by rfl) ?rp1 hF ?sp1
          case rp1 => (intro W9 hW; have s0 : W9.cell? ⟨q9, 0, none⟩ = some (.int .i64 b'.next) := hW.2.cell 0; have s1 : W9.cell? ⟨q9, 1, none⟩ = some (.int .i64 b'.boots) := hW.2.cell 1; have s2 : W9.cell? ⟨q9, 2, none⟩ = some (.int .i64 b'.longest) := hW.2.cell 2; have s3 : W9.cell? ⟨q9, 3, none⟩ = some (.slice A9 l9.length c9) := hW.2.cell 3; clear hW; go_simp; try with_reducible rfl)
          try simp only [Act.put, List.setIfInBounds_toArray, List.set_cons_zero, List.set_cons_succ]
          refine rg_one (i := 2) (oi := ?op2) ?ap2 ?bp2 ?cp2 ?dp2
          case ap2 => (simp only [List.getElem?_toArray, List.getElem?_cons_succ, List.getElem?_cons_zero]; rfl)
          case bp2 => kernel_rfl
          case cp2 => rfl
          intro K hK
          (have s0 : wd.cell? ⟨qb, 0, none⟩ = some (.int .i64 n') := hB.cell 0; have s1 : wd.cell? ⟨qb, 1, none⟩ = some (.int .i64 k') := hB.cell 1; have s2 : wd.cell? ⟨qb, 2, none⟩ = some (.int .i64 t') := hB.cell 2; have s3 : wd.cell? ⟨qb, 3, none⟩ = some (.slice A' l'.length c') := hB.cell 3; have fz0 := hB.frozen 0; have fz1 := hB.frozen 1; have fz2 := hB.frozen 2; have fz3 := hB.frozen 3; go_simp)
          refine rg_use hK (⟨hF.1.kp K7 HX8.out.1, hF.2.kp K7 HX9.out.1⟩) (fun hF => ?_)
          clear hK K
          try simp only [Act.put, List.setIfInBounds_toArray, List.set_cons_zero, List.set_cons_succ]
          refine rg_one (i := 3) (oi := ?op3) ?ap3 ?bp3 ?cp3 ?dp3
          case ap3 => (simp only [List.getElem?_toArray, List.getElem?_cons_succ, List.getElem?_cons_zero]; rfl)
          case bp3 => kernel_rfl
          case cp3 => rfl
          intro K hK
          (have s0 : ((((wd.setCell ⟨qb, 0, none⟩ (.int .i64 b'.next)).setCell ⟨qb, 1, none⟩ (.int .i64 b'.boots)).setCell ⟨qb, 2, none⟩ (.int .i64 b'.longest)).setCell ⟨qb, 3, none⟩ (.slice A8 l8.length c8)).cell? ⟨qm, 0, none⟩ = some (.int .i64 n') := M7.cell 0; have s1 : ((((wd.setCell ⟨qb, 0, none⟩ (.int .i64 b'.next)).setCell ⟨qb, 1, none⟩ (.int .i64 b'.boots)).setCell ⟨qb, 2, none⟩ (.int .i64 b'.longest)).setCell ⟨qb, 3, none⟩ (.slice A8 l8.length c8)).cell? ⟨qm, 1, none⟩ = some (.int .i64 k') := M7.cell 1; have s2 : ((((wd.setCell ⟨qb, 0, none⟩ (.int .i64 b'.next)).setCell ⟨qb, 1, none⟩ (.int .i64 b'.boots)).setCell ⟨qb, 2, none⟩ (.int .i64 b'.longest)).setCell ⟨qb, 3, none⟩ (.slice A8 l8.length c8)).cell? ⟨qm, 2, none⟩ = some (.int .i64 t') := M7.cell 2; have s3 : ((((wd.setCell ⟨qb, 0, none⟩ (.int .i64 b'.next)).setCell ⟨qb, 1, none⟩ (.int .i64 b'.boots)).setCell ⟨qb, 2, none⟩ (.int .i64 b'.longest)).setCell ⟨qb, 3, none⟩ (.slice A8 l8.length c8)).cell? ⟨qm, 3, none⟩ = some (.slice A2 l2.length c2) := M7.cell 3; have fz0 := M7.frozen 0; have fz1 := M7.frozen 1; have fz2 := M7.frozen 2; have fz3 := M7.frozen 3; go_simp)
          refine rg_use hK (⟨hF.1.kp K8 HX8.out.2, hF.2.kp K8 HX9.out.2⟩) (fun hF => ?_)
          clear hK K
          try simp only [Act.put, List.setIfInBounds_toArray, List.set_cons_zero, List.set_cons_succ]
          refine rg_done (by kernel_rfl) ?_
          have o8a := ((HO6.out.no kd).far K7 hB (by decide) (by decide)).far K8 M7 (by decide) (by decide)
          have o9a := ((HO9.out.no kd).far K7 hB (by decide) (by decide)).far K8 M7 (by decide) (by decide)
          have HF := Lib.hid (show PlI W qb qm b'.next b'.boots b'.longest A8 l8 c8 A9 l9 c9 _ from ⟨B8, M8, o8a, o9a, HG9.out.trans HG8.out.symm, HM8.out, HM9.out, ((HI6.out.kp.trans kd).then_ K7 fun i hi e => by have h1 : i = qb := e; have h2 := HQB.out; omega).then_ K8 fun i hi e => by have h1 : i = qm := e; have h2 := HQM.out; omega⟩)
          clear hF hB hM K7 K8 B7 M7 B8 M8 kd o8a o9a
          go_wp2
          go_meet
          exact ⟨rfl, rfl, _, _, _, _, _, _, _, _, _, HF.out⟩
        · have d0 : (er == 0) = false := by rw [beq_eq_false_iff_ne]; exact h0
          clear h0
          go_wp2
          go_meet
          exact ⟨rfl, rfl, _, _, _, _, _, _, _, _, _, HI6.out⟩
      case rest =>
        obtain ⟨rfl, rfl, n9, k9, t9, A9, l9, c9, A10, l10, c10, hI⟩ := hcut
        have HIc := Lib.hid hI
        clear hI
        have y0 := HIc.out.bb.cell 0; have y1 := HIc.out.bb.cell 1; have y2 := HIc.out.bb.cell 2; have y3 := HIc.out.bb.cell 3
        have z0 := HIc.out.bm.cell 0; have z1 := HIc.out.bm.cell 1; have z2 := HIc.out.bm.cell 2; have z3 := HIc.out.bm.cell 3
        simp only [List.getElem?_cons_zero, List.getElem?_cons_succ] at y0 y1 y2 y3 z0 z1 z2 z3
        have ps := (rsameB_any n9 k9 t9 n9 k9 t9 (.slice A9 l9.length c9) (.slice A10 l10.length c10) l9 l10 wc HIc.out.ob.arg HIc.out.om.arg (small_sh HIc.out.sm) (small_sh HIc.out.sm2))
        rw [decide_eq_true (by rw [bk_gs HIc.out.eq])] at ps
        go_wp2_with fail
        refine ps.mono ?_
        rintro e wd ⟨rfl, kd⟩
        have HId := Lib.hid (HIc.out.no kd)
        clear ps kd y0 y1 y2 y3 z0 z1 z2 z3
        by_cases h60 : (j : Int) < 60
        · have d60 : decide ((j : Int) < 60) = true := decide_eq_true h60
          have y0 := HId.out.bb.cell 0; have y1 := HId.out.bb.cell 1; have y2 := HId.out.bb.cell 2; have y3 := HId.out.bb.cell 3
          have z0 := HId.out.bm.cell 0; have z1 := HId.out.bm.cell 1; have z2 := HId.out.bm.cell 2; have z3 := HId.out.bm.cell 3
          simp only [List.getElem?_cons_zero, List.getElem?_cons_succ] at y0 y1 y2 y3 z0 z1 z2 z3
          have ps := pd wd HId.out
          go_wp2_with fail
          refine ps.mono ?_
          rintro e we ⟨rfl, ke⟩
          have HIe := Lib.hid (HId.out.no ke)
          have hlb := HLL.out
          clear ps ke y0 y1 y2 y3 z0 z1 z2 z3
          go_wp2
          go_roundw
          case rel => exact ⟨j + 1, n9, k9, t9, A9, l9, c9, A10, l10, c10, HLT.out, by go_num, HIe.out⟩
          case measure => have := HLT.out; simp [intOf]; omega
        · have d60 : decide ((j : Int) < 60) = false := decide_eq_false h60
          have hlb := HLL.out
          go_wp2
          go_roundw
          case rel => exact ⟨j + 1, n9, k9, t9, A9, l9, c9, A10, l10, c10, HLT.out, by go_num, HId.out⟩
          case measure => have := HLT.out; simp [intOf]; omega
    · have hk1 : ¬ (j : Int) < (L.length : Int) := by omega
      have y0 := HI.out.bb.cell 0; have y1 := HI.out.bb.cell 1; have y2 := HI.out.bb.cell 2; have y3 := HI.out.bb.cell 3
      have z0 := HI.out.bm.cell 0; have z1 := HI.out.bm.cell 1; have z2 := HI.out.bm.cell 2; have z3 := HI.out.bm.cell 3
      simp only [List.getElem?_cons_zero, List.getElem?_cons_succ] at y0 y1 y2 y3 z0 z1 z2 z3
      have ps := pd wr HI.out
      clear hlt
      go_wp2_with fail
      refine ps.mono ?_
      rintro e we ⟨rfl, ke⟩
      have HKF := Lib.hid (HI.out.kp.trans ke)
      clear ps ke y0 y1 y2 y3 z0 z1 z2 z3
      go_wp2
      go_ret
      exact ⟨rfl, HKF.out.below (Nat.le_refl _) fun _ _ m => m⟩
/-! ### The row's step -/
set_option maxRecDepth 100000 in
theorem lifted (os : Os) (started : os.Started) (H : Type) (enc : TypeId × Value → H) :
    ReturnsInHanded {} Try.checked os 5 .any (Rows.bookPlaysSpec.pre6 enc Try.prog Try.f5 Rows.bookPlaysRow.domain false) (Rows.bookPlaysSpec.post enc Try.prog Try.f5 false true false false) := by
  refine returnsInHanded_of_change_sized (C := Try.checked) own started (by kernel_rfl) Try.func5
    (ChangeSpec.witness6 (enc := enc) (C := Try.checked) false ⟨#[], #[.slice none 0 0], []⟩ 8 (by kernel_rfl) (by kernel_rfl) (by kernel_rfl) (by kernel_rfl)) ?_
  intro W base args ds gs before hval0 hW hcnd hsz0 _
  have hval : ∀ (j : Nat) t v, Try.f5.params[j]? = some t → args[j]? = some v → Value.okWide Try.prog W .any base t v := hval0
  have hW' := hW
  obtain ⟨p, q, hA0, hV, rfl, hfz, hnd⟩ := hW
  have hA : DataW.TrodAll enc Try.prog W 0 (fun _ => true) true Try.f5.params.toList args.toList ds p := hA0
  rw [Try.params5] at hA hval
  obtain ⟨v0, vs0, d0, ds0, p0, q0, hargs, rfl, rfl, h0, r0⟩ := trodAll_cons hA
  obtain ⟨rfl, rfl, rfl⟩ := trodAll_nil r0
  obtain rfl : args = #[v0] := by cases args; simp_all
  obtain ⟨rfl, rfl⟩ := trodVars_none hV
  have hsz : ∀ (j : Nat) (t : TypeId) (d : DataW H), ([43] : List TypeId)[j]? = some t → [d0][j]? = some d → ∀ n ∈ d.weights Try.prog t, n ≤ reachBytes := by
    intro j t d ht hd n hn
    have hsz1 : (DataW.weightsEach Try.prog ([43] : List TypeId) [d0]).all (· ≤ reachBytes) = true := hsz0
    have := List.all_eq_true.1 hsz1 n (DataW.weights_mem_each ht hd n hn)
    simpa using this
  have k0 := h0
  have lt0 : ∀ x ∈ p0, x.block < W.heap.size := by obtain ⟨m, hm⟩ := k0; exact DataW.trod_lt m _ _ _ hm
  obtain ⟨A0, n0, c0, L0, rfl, e0, a0, b0⟩ := open_recs (hval 0 43 v0 rfl rfl) h0 (hsz 0 43 _ rfl rfl)
  refine (walk A0 n0 c0 L0 W e0 a0 b0).mono fun e W' ⟨he, bel⟩ => ?_
  subst he
  exact ⟨_, rfl, _, _, _, [], _, [], hW', trodAll_mk1 (shut_bool Try.underlying4 _), (trodAll_cons_mk (Below.trod laidOut (by kernel_rfl) (of_decide_eq_true (by kernel_rfl)) k0 bel lt0) trodAll_mk0), rfl, bel.frame _, fun h => by cases h⟩

theorem over : Rows.bookPlaysRow.holds Try.pinned (OpenSpec.ofChange Rows.bookPlaysSpec) :=
  OpenClaim.holds_of_wide 5 Try.f5 rfl rfl rfl rfl rfl rfl rfl ⟨rfl, rfl, rfl, rfl, rfl⟩ rfl rfl rfl rfl rfl (by kernel_rfl) Try.func5 (by kernel_rfl)
    (of_decide_eq_true (by kernel_rfl)) (by unfold Func.isWrapper; first | (rw [if_pos (by decide +kernel)]; kernel_rfl) | (rw [if_neg (by decide +kernel)]; exact ⟨rfl, rfl⟩))
    (fun os started H enc _ => lifted os started H enc)

theorem proved : Rows.BookPlaysSaid := over
#print axioms proved
end Go.Proofs.Ytifdceofglocdaa.bookPlays
