/- BookOwn: what is handed in stays as it is, and what is answered shares no memory, for every book and record. No condition. -/
import Derived.Test.YtifdceofglocdaaB21
import Derived.Test.YtifdceofglocdaaB36
import Derived.Deep.CutBlock
import Derived.Deep.MidRow
import Derived.Deep.CutRange
import Derived.Deep.DeepCutAuto
import Derived.ProofKit
import Derived.OpenShut
import Derived.ShutString
import Derived.ChangeOld
import Derived.SizedLaws
import Derived.Below
namespace Go.Proofs.Ytifdceofglocdaa.bookOwn
open Go.ChangeShapes Go.WideShapes Go.ChangeAt Go.RowKit
open Go.ChangeMaps (open_string shut_string)

theorem own : ownKnob Try.prog.godebug = none := by kernel_rfl
theorem laidOut : laidOutB Try.prog = true := by kernel_rfl
set_option maxRecDepth 100000 in
set_option maxHeartbeats 32000000 in
theorem walk (n k t : Int) (sv : Value) (l : List GP) (r : Rcd) (gv rv : Value) (W : World) (hv : ArgG W sv l) (hl : l.length ≤ 1954687338211) (hp : ∀ p ∈ l, ShGin p.1) (hg : ArgInts W gv r.grant.stamp) (hr : ArgInts W rv r.stamp) (hs : ShRin r) :
    Calls Try.prog 10 #[.agg #[.int .i64 n, .int .i64 k, .int .i64 t, sv], .agg (rC r gv rv).toArray] W fun e w' => e = .returned (.bool true) ∧ Below W.heap.size W w' := by
  obtain ⟨A0, c0, rfl, _⟩ := hv.len
  obtain ⟨Ag, cg, rfl, _⟩ := ints_of _ _ _ hg
  obtain ⟨Ar, cr, rfl, _⟩ := ints_of _ _ _ hr
  have HSH := Lib.hid (ShGin.shL hl hp)
  have HST := Lib.hid (show ∀ p ∈ l, p.1.stamp.length ≤ 17592186043904 from fun p q => (hp p q).2)
  have HP63 := Lib.hid (show ∀ p ∈ l, p.1.path.length < 9223372036854775807 from fun p q => by have := (hp p q).1; omega)
  have HL := Lib.hid hl; have HS := Lib.hid hs
  obtain ⟨CB, hCB⟩ : ∃ CB : List Value, CB = [.int .i64 n, .int .i64 k, .int .i64 t, .slice A0 l.length c0] := ⟨_, rfl⟩
  obtain ⟨CR, hCR⟩ : ∃ CR : List Value, CR = rC r (.slice Ag r.grant.stamp.length cg) (.slice Ar r.stamp.length cr) := ⟨_, rfl⟩
  have hbl : CB.length = 4 := by rw [hCB]; rfl
  have hcl : CR.length = 12 := by rw [hCR]; rfl
  have HIB := Lib.hid (show (Try.prog.info? 25).map (·.size) = some CB.length by rw [hbl]; kernel_rfl)
  have HUB := Lib.hid Try.underlying25
  have HIR := Lib.hid (show (Try.prog.info? 32).map (·.size) = some CR.length by rw [hcl]; kernel_rfl)
  have HUR := Lib.hid Try.underlying32
  obtain ⟨w1, hw1⟩ : ∃ w1, w1 = (W.alloc (.cells CB.toArray 25)).alloc (.cells CR.toArray 32) := ⟨_, rfl⟩
  have HB1 := Lib.hid (show Bk w1 W.heap.size 25 CB by rw [hw1]; exact (Bk.new' rfl rfl).alloc _)
  have HR1 := Lib.hid (show Bk w1 (W.heap.size + 1) 32 CR by rw [hw1]; exact Bk.new' (by simp) rfl)
  have HK1 := Lib.hid (show Kp No W w1 by rw [hw1]; exact ((Kp.refl No W).alloc _).alloc _)
  have HW := Lib.hid hw1
  have HCB := Lib.hid hCB; have HCR := Lib.hid hCR
  have pa := awake_any w1
  have HV := Lib.hid hv; have HG := Lib.hid hg; have HR := Lib.hid hr
  obtain ⟨b', hb'⟩ : ∃ b', b' = (applyB (bk n k t l) r).1 := ⟨_, rfl⟩
  obtain ⟨er, her⟩ : ∃ er, er = (applyB (bk n k t l) r).2 := ⟨_, rfl⟩
  have HBE := Lib.hid (And.intro hb' her)
  clear hw1 hbl hcl hv hg hr hl hp hs hb' her
  rw [← hCB, ← hCR]
  clear hCB hCR
  go_enter Try.func10, Try.ntmps10
  go_upto_region 1 with (fail)
  rw [← HW.out]
  clear HW
  go_wp2_with fail
  refine pa.mono ?_
  rintro e w2 ⟨rfl, k2⟩
  have HK2 := Lib.hid (HK1.out.trans k2)
  have HBB := Lib.hid (show ∀ W2, Kp No w2 W2 → Bk W2 W.heap.size 25 CB from fun W2 kk => (HB1.out.no k2).no kk)
  have HRR := Lib.hid (show ∀ W2, Kp No w2 W2 → Bk W2 (W.heap.size + 1) 32 CR from fun W2 kk => (HR1.out.no k2).no kk)
  clear pa k2
  have pb : ∀ W2, Kp No w2 W2 → Calls Try.prog 13 #[.agg CB.toArray] W2 fun e w' => ∃ v, e = .returned v ∧ OwnBk w' w2.heap.size n k t (gsL l) v ∧ Kp No W2 w' := fun W2 kk => by
    rw [HCB.out]
    exact (ownB_any n k t (.slice A0 l.length c0) l W2 (HV.out.no (HK2.out.trans kk)) HL.out HST.out).mono fun e w' ⟨sv, l2, h1, h2, h3, h4⟩ => ⟨_, h1, OwnBk.of h2 (h3.mono kk.size), h4⟩
  have pr : ∀ W2, Kp No w2 W2 → Calls Try.prog 14 #[.agg CR.toArray] W2 fun e w' => ∃ v, e = .returned v ∧ OwnRv w' w2.heap.size r v ∧ Kp No W2 w' := fun W2 kk => by
    rw [HCR.out]
    exact (ownRec_any r (.slice Ag r.grant.stamp.length cg) (.slice Ar r.stamp.length cr) W2 (HG.out.no (HK2.out.trans kk)) (HR.out.no (HK2.out.trans kk)) HS.out.1.2 HS.out.2).mono fun e w' ⟨gv, rv, h1, h2, h3, h4⟩ => ⟨_, h1, OwnRv.of (own_mono h2 kk.size) (own_mono h3 kk.size), h4⟩
  go_upto_region 3 with (fail)
  refine rg_all [0, 1, 2, 3, 4, 5, 6, 7] (by rfl) ?fr ?hfr (fun j x w => match j with | 0 => (x 0 = .agg CB.toArray) | 1 => (OwnBk w w2.heap.size n k t (gsL l) (x 1)) | 2 => (x 2 = .agg CR.toArray) | 3 => (OwnRv w w2.heap.size r (x 3)) | 4 => (NewBk w w2.heap.size 25 4 (x 4)) | 5 => (NewBk w w2.heap.size 32 12 (x 5)) | 6 => (BokAt w w2.heap.size (bk n k t l) (x 4)) | 7 => (RecAt w w2.heap.size r (x 5)) | _ => True) (fun w => Kp No w2 w) (fun i w w' => if i = 6 then StB w2.heap.size 25 4 w w' else if i = 7 then StB w2.heap.size 32 12 w w' else Kp No w w') (by kernel_rfl) (by kernel_rfl) ?hF ?mono ?step ?hend
  case hfr =>
    intro x
    simp only [puts, dstOf, List.getElem?_toArray, List.getElem?_cons_succ, List.getElem?_cons_zero, Option.bind_some, Act.put, List.setIfInBounds_toArray, List.set_cons_zero, List.set_cons_succ]
    exact rfl
  case hF =>
    exact (Kp.refl No w2).drew
  case mono =>
    intro i j x v w w' hij hca hr hp
    match j, hij, hca, hp with
    | 0, hij, hca, hp =>
      replace hp : x 0 = .agg CB.toArray := hp
      (have e : upd x i v 0 = x 0 := upd_ne x v hij; exact e.trans hp)
    | 1, hij, hca, hp =>
      replace hp : OwnBk w w2.heap.size n k t (gsL l) (x 1) := hp
      show OwnBk w' w2.heap.size n k t (gsL l) (upd x i v 1)
      rw [upd_ne x v hij]
      by_cases h6 : i = 6
      · subst h6
        have hr2 : StB w2.heap.size 25 4 w w' := hr
        exact hp.st hr2 (by decide) (by decide)
      by_cases h7 : i = 7
      · subst h7
        have hr2 : StB w2.heap.size 32 12 w w' := hr
        exact hp.st hr2 (by decide) (by decide)
      have hr2 : Kp No w w' := by simpa [h6, h7] using hr
      exact hp.no hr2
    | 2, hij, hca, hp =>
      replace hp : x 2 = .agg CR.toArray := hp
      (have e : upd x i v 2 = x 2 := upd_ne x v hij; exact e.trans hp)
    | 3, hij, hca, hp =>
      replace hp : OwnRv w w2.heap.size r (x 3) := hp
      show OwnRv w' w2.heap.size r (upd x i v 3)
      rw [upd_ne x v hij]
      by_cases h6 : i = 6
      · subst h6
        have hr2 : StB w2.heap.size 25 4 w w' := hr
        exact hp.st hr2 (by decide)
      by_cases h7 : i = 7
      · subst h7
        have hr2 : StB w2.heap.size 32 12 w w' := hr
        exact hp.st hr2 (by decide)
      have hr2 : Kp No w w' := by simpa [h6, h7] using hr
      exact hp.no hr2
    | 4, hij, hca, hp =>
      replace hp : NewBk w w2.heap.size 25 4 (x 4) := hp
      show NewBk w' w2.heap.size 25 4 (upd x i v 4)
      rw [upd_ne x v hij]
      by_cases h6 : i = 6
      · subst h6
        have hr2 : StB w2.heap.size 25 4 w w' := hr
        exact hp.st hr2
      by_cases h7 : i = 7
      · subst h7
        have hr2 : StB w2.heap.size 32 12 w w' := hr
        exact hp.st2 hr2 (by decide)
      have hr2 : Kp No w w' := by simpa [h6, h7] using hr
      exact hp.no hr2
    | 5, hij, hca, hp =>
      replace hp : NewBk w w2.heap.size 32 12 (x 5) := hp
      show NewBk w' w2.heap.size 32 12 (upd x i v 5)
      rw [upd_ne x v hij]
      by_cases h6 : i = 6
      · subst h6
        have hr2 : StB w2.heap.size 25 4 w w' := hr
        exact hp.st2 hr2 (by decide)
      by_cases h7 : i = 7
      · subst h7
        have hr2 : StB w2.heap.size 32 12 w w' := hr
        exact hp.st hr2
      have hr2 : Kp No w w' := by simpa [h6, h7] using hr
      exact hp.no hr2
    | 6, hij, hca, hp =>
      replace hp : BokAt w w2.heap.size (bk n k t l) (x 4) := hp
      have h4 : i ≠ 4 := fun e => by subst e; revert hca; decide +kernel
      show BokAt w' w2.heap.size (bk n k t l) (upd x i v 4)
      rw [upd_ne x v h4]
      by_cases h6 : i = 6
      · subst h6
        have hr2 : StB w2.heap.size 25 4 w w' := hr
        exact absurd rfl hij
      by_cases h7 : i = 7
      · subst h7
        have hr2 : StB w2.heap.size 32 12 w w' := hr
        exact hp.st hr2 (by decide) (by decide) (by decide)
      have hr2 : Kp No w w' := by simpa [h6, h7] using hr
      exact hp.no hr2
    | 7, hij, hca, hp =>
      replace hp : RecAt w w2.heap.size r (x 5) := hp
      have h5 : i ≠ 5 := fun e => by subst e; revert hca; decide +kernel
      have h66 : i ≠ 6 := fun e => by subst e; revert hca; decide +kernel
      show RecAt w' w2.heap.size r (upd x i v 5)
      rw [upd_ne x v h5]
      by_cases h6 : i = 6
      · subst h6
        have hr2 : StB w2.heap.size 25 4 w w' := hr
        exact absurd rfl h66
      by_cases h7 : i = 7
      · subst h7
        have hr2 : StB w2.heap.size 32 12 w w' := hr
        exact absurd rfl hij
      have hr2 : Kp No w w' := by simpa [h6, h7] using hr
      exact hp.no hr2
    | _ + 8, _, _, _ => trivial
  case step =>
    intro i oi hi x w K hf hd hK
    have hil := (Array.getElem?_eq_some_iff.1 hi).1
    match i, hil, hi, hd, hK with
    | 0, _, hi, hd, hK =>
      simp only [List.getElem?_toArray, List.getElem?_cons_zero, Option.some.injEq] at hi
      subst hi
      refine ro_do rfl (by rfl) ?_
      (refine wp_load_mid 25 _ rfl W.heap.size 0 ?_ CB _ (bk_range (HBB.out _ hf)) HUB.out rfl HIB.out ?_; exact rfl)
      refine hK _ (.agg CB.toArray) _ ?_ ?_ ?_ ?_
      · simp [upd, Act.put]
      · exact upd_same x 0 _
      · exact hf
      · exact Kp.refl No _
    | 1, _, hi, hd, hK =>
      have d0 : x 0 = .agg CB.toArray := hd 0 (by kernel_rfl)
      simp only [List.getElem?_toArray, List.getElem?_cons_succ, List.getElem?_cons_zero, Option.some.injEq] at hi
      subst hi
      simp only [d0]
      refine ro_do rfl (by rfl) ?_
      (go_simp; refine (pb _ hf).mono ?_; rintro e w3 ⟨v3, rfl, hv3, k3⟩)
      refine hK _ (v3) _ ?_ ?_ ?_ ?_
      · simp [upd, d0]
      · (show OwnBk _ _ _ _ _ _ (upd x 1 v3 1); rw [upd_same]; exact hv3)
      · exact hf.trans k3
      · exact k3
    | 2, _, hi, hd, hK =>
      simp only [List.getElem?_toArray, List.getElem?_cons_succ, List.getElem?_cons_zero, Option.some.injEq] at hi
      subst hi
      refine ro_do rfl (by rfl) ?_
      (refine wp_load_mid 32 _ rfl (W.heap.size + 1) 0 ?_ CR _ (bk_range (HRR.out _ hf)) HUR.out rfl HIR.out ?_; exact rfl)
      refine hK _ (.agg CR.toArray) _ ?_ ?_ ?_ ?_
      · simp [upd, Act.put]
      · exact upd_same x 2 _
      · exact hf
      · exact Kp.refl No _
    | 3, _, hi, hd, hK =>
      have d1 : OwnBk w w2.heap.size n k t (gsL l) (x 1) := hd 1 (by kernel_rfl)
      have d2 : x 2 = .agg CR.toArray := hd 2 (by kernel_rfl)
      simp only [List.getElem?_toArray, List.getElem?_cons_succ, List.getElem?_cons_zero, Option.some.injEq] at hi
      subst hi
      simp only [d2]
      refine ro_do rfl (by rfl) ?_
      (go_simp; refine (pr _ hf).mono ?_; rintro e w3 ⟨v3, rfl, hv3, k3⟩)
      refine hK _ (v3) _ ?_ ?_ ?_ ?_
      · simp [upd, d2]
      · (show OwnRv _ _ _ (upd x 3 v3 3); rw [upd_same]; exact hv3)
      · exact hf.trans k3
      · exact k3
    | 4, _, hi, hd, hK =>
      simp only [List.getElem?_toArray, List.getElem?_cons_succ, List.getElem?_cons_zero, Option.some.injEq] at hi
      subst hi
      refine ro_do rfl (by rfl) ?_
      go_simp
      refine hK _ (.pointer (some ⟨w.heap.size, 0, none⟩)) _ ?_ ?_ ?_ ?_
      · simp [upd]
      · (show NewBk _ _ _ _ (upd x 4 _ 4); rw [upd_same]; exact ⟨_, _, rfl, hf.size, Bk.new' rfl rfl, rfl⟩)
      · exact hf.alloc _
      · exact (Kp.refl No w).alloc _
    | 5, _, hi, hd, hK =>
      simp only [List.getElem?_toArray, List.getElem?_cons_succ, List.getElem?_cons_zero, Option.some.injEq] at hi
      subst hi
      refine ro_do rfl (by rfl) ?_
      go_simp
      refine hK _ (.pointer (some ⟨w.heap.size, 0, none⟩)) _ ?_ ?_ ?_ ?_
      · simp [upd]
      · (show NewBk _ _ _ _ (upd x 5 _ 5); rw [upd_same]; exact ⟨_, _, rfl, hf.size, Bk.new' rfl rfl, rfl⟩)
      · exact hf.alloc _
      · exact (Kp.refl No w).alloc _
    | 6, _, hi, hd, hK =>
      have d0 : x 0 = .agg CB.toArray := hd 0 (by kernel_rfl)
      have d1 : OwnBk w w2.heap.size n k t (gsL l) (x 1) := hd 1 (by kernel_rfl)
      have d3 : OwnRv w w2.heap.size r (x 3) := hd 3 (by kernel_rfl)
      have d4 : NewBk w w2.heap.size 25 4 (x 4) := hd 4 (by kernel_rfl)
      have d5 : NewBk w w2.heap.size 32 12 (x 5) := hd 5 (by kernel_rfl)
      obtain ⟨g8, cs8, e8, b8, h8, n8⟩ := d4
      obtain ⟨c0_, c1_, c2_, c3_, rfl⟩ := list4 n8
      obtain ⟨A1, l1, c1, e1, g1, o1⟩ := d1
      have y0 := h8.cell 0; have y1 := h8.cell 1; have y2 := h8.cell 2; have y3 := h8.cell 3
      simp only [List.getElem?_cons_zero, List.getElem?_cons_succ] at y0 y1 y2 y3
      have f0 := h8.frozen 0; have f1 := h8.frozen 1; have f2 := h8.frozen 2; have f3 := h8.frozen 3
      have B9 := ((((h8.set_ 0 (.int .i64 n)).set_ 1 (.int .i64 k)).set_ 2 (.int .i64 t)).set_ 3 (.slice A1 l1.length c1))
      have K9 := (((((Kp.refl (One g8) w).set (.inl (One.self g8)) 0 (.int .i64 n)).set (.inl (One.self g8)) 1 (.int .i64 k)).set (.inl (One.self g8)) 2 (.int .i64 t)).set (.inl (One.self g8)) 3 (.slice A1 l1.length c1))
      simp only [List.getElem?_toArray, List.getElem?_cons_succ, List.getElem?_cons_zero, Option.some.injEq] at hi
      subst hi
      refine ro_do rfl (by rfl) ?_
      (simp only [e8, e1]; go_simp)
      refine hK _ (undef) _ ?_ ?_ ?_ ?_
      · simp [upd, e8, e1, d0]
      · exact ⟨g8, A1, l1, c1, (upd_ne x _ (by decide)).trans e8, b8, B9, g1, o1.far K9 h8 (by decide) (by decide)⟩
      · exact hf.then_ K9 fun j hj e => by have h1 : j = g8 := e; omega
      · exact (show StB _ _ _ _ _ from ⟨g8, _, _, b8, h8, B9, rfl, K9⟩)
    | 7, _, hi, hd, hK =>
      have d0 : x 0 = .agg CB.toArray := hd 0 (by kernel_rfl)
      have d1 : OwnBk w w2.heap.size n k t (gsL l) (x 1) := hd 1 (by kernel_rfl)
      have d2 : x 2 = .agg CR.toArray := hd 2 (by kernel_rfl)
      have d3 : OwnRv w w2.heap.size r (x 3) := hd 3 (by kernel_rfl)
      have d4 : NewBk w w2.heap.size 25 4 (x 4) := hd 4 (by kernel_rfl)
      have d5 : NewBk w w2.heap.size 32 12 (x 5) := hd 5 (by kernel_rfl)
      have d6 : BokAt w w2.heap.size (bk n k t l) (x 4) := hd 6 (by kernel_rfl)
      obtain ⟨g8, cs8, e8, b8, h8, n8⟩ := d5
      obtain ⟨c0_, c1_, c2_, c3_, c4_, c5_, c6_, c7_, c8_, c9_, c10_, c11_, rfl⟩ := list12 n8
      obtain ⟨A1, c1, A2, c2, e1, o1, o2⟩ := d3
      simp only [rC] at e1
      have y0 := h8.cell 0; have y1 := h8.cell 1; have y2 := h8.cell 2; have y3 := h8.cell 3; have y4 := h8.cell 4; have y5 := h8.cell 5; have y6 := h8.cell 6; have y7 := h8.cell 7; have y8 := h8.cell 8; have y9 := h8.cell 9; have y10 := h8.cell 10; have y11 := h8.cell 11
      simp only [List.getElem?_cons_zero, List.getElem?_cons_succ] at y0 y1 y2 y3 y4 y5 y6 y7 y8 y9 y10 y11
      have f0 := h8.frozen 0; have f1 := h8.frozen 1; have f2 := h8.frozen 2; have f3 := h8.frozen 3; have f4 := h8.frozen 4; have f5 := h8.frozen 5; have f6 := h8.frozen 6; have f7 := h8.frozen 7; have f8 := h8.frozen 8; have f9 := h8.frozen 9; have f10 := h8.frozen 10; have f11 := h8.frozen 11
      have B9 := ((((((((((((h8.set_ 0 (.int .i64 r.kind)).set_ 1 (.int .i64 r.grant.id)).set_ 2 (.int .i64 r.grant.holder)).set_ 3 (.string ⟨r.grant.path.toArray⟩)).set_ 4 (.int .i64 r.grant.mode)).set_ 5 (.slice A1 r.grant.stamp.length c1)).set_ 6 (.int .i64 r.grant.term)).set_ 7 (.int .i64 r.id)).set_ 8 (.slice A2 r.stamp.length c2)).set_ 9 (.int .i64 r.next)).set_ 10 (.int .i64 r.boots)).set_ 11 (.int .i64 r.longest))
      have K9 := (((((((((((((Kp.refl (One g8) w).set (.inl (One.self g8)) 0 (.int .i64 r.kind)).set (.inl (One.self g8)) 1 (.int .i64 r.grant.id)).set (.inl (One.self g8)) 2 (.int .i64 r.grant.holder)).set (.inl (One.self g8)) 3 (.string ⟨r.grant.path.toArray⟩)).set (.inl (One.self g8)) 4 (.int .i64 r.grant.mode)).set (.inl (One.self g8)) 5 (.slice A1 r.grant.stamp.length c1)).set (.inl (One.self g8)) 6 (.int .i64 r.grant.term)).set (.inl (One.self g8)) 7 (.int .i64 r.id)).set (.inl (One.self g8)) 8 (.slice A2 r.stamp.length c2)).set (.inl (One.self g8)) 9 (.int .i64 r.next)).set (.inl (One.self g8)) 10 (.int .i64 r.boots)).set (.inl (One.self g8)) 11 (.int .i64 r.longest))
      simp only [List.getElem?_toArray, List.getElem?_cons_succ, List.getElem?_cons_zero, Option.some.injEq] at hi
      subst hi
      refine ro_do rfl (by rfl) ?_
      (simp only [e8, e1]; go_simp)
      refine hK _ (undef) _ ?_ ?_ ?_ ?_
      · simp [upd, e8, e1, d0, d2]
      · exact ⟨g8, A1, c1, A2, c2, (upd_ne x _ (by decide)).trans e8, b8, B9, int_far o1 K9 h8 (by decide), int_far o2 K9 h8 (by decide)⟩
      · exact hf.then_ K9 fun j hj e => by have h1 : j = g8 := e; omega
      · exact (show StB _ _ _ _ _ from ⟨g8, _, _, b8, h8, B9, rfl, K9⟩)
    | k + 8, hil, _, _, _ => exact absurd hil (by simp)
  intro x w hf hp
  have p0 : x 0 = .agg CB.toArray := hp 0 (by decide)
  have p1 : OwnBk w w2.heap.size n k t (gsL l) (x 1) := hp 1 (by decide)
  have p2 : x 2 = .agg CR.toArray := hp 2 (by decide)
  have p3 : OwnRv w w2.heap.size r (x 3) := hp 3 (by decide)
  have p4 : NewBk w w2.heap.size 25 4 (x 4) := hp 4 (by decide)
  have p5 : NewBk w w2.heap.size 32 12 (x 5) := hp 5 (by decide)
  have p6 : BokAt w w2.heap.size (bk n k t l) (x 4) := hp 6 (by decide)
  have p7 : RecAt w w2.heap.size r (x 5) := hp 7 (by decide)
  clear hp
  obtain ⟨q5, A5, l5, c5, e5, b5, h5, g5, o5⟩ := p6
  obtain ⟨q6, A6, c6, B6, d6, e6, b6, h6, o6, o6'⟩ := p7
  simp only [e5, e6]
  have HK3 := Lib.hid (HK2.out.trans hf)
  have HB3 := Lib.hid (HBB.out _ hf); have HR3 := Lib.hid (HRR.out _ hf)
  have H5 := Lib.hid (show Bk w q5 25 [.int .i64 n, .int .i64 k, .int .i64 t, .slice A5 l5.length c5] from h5)
  have HG5 := Lib.hid (show gsL l5 = gsL l from g5); have HO5 := Lib.hid (o5.mono HK2.out.size)
  have H6 := Lib.hid h6; have HO6 := Lib.hid (own_mono o6 HK2.out.size); have HO6' := Lib.hid (own_mono o6' HK2.out.size)
  have HNE5 := Lib.hid (show W.heap.size < q5 by have h1 := HBB.out w2 (Kp.refl _ _); have h2 := h1.lt; omega)
  have HNE5' := Lib.hid (show W.heap.size + 1 < q5 by have h1 := HRR.out w2 (Kp.refl _ _); have h2 := h1.lt; omega)
  have HQ5 := Lib.hid (Nat.le_trans HK2.out.size b5); have HQ6 := Lib.hid (Nat.le_trans HK2.out.size b6)
  have hl5 : l5.length = l.length := by rw [← gsL_len, HG5.out, gsL_len]
  have HL5 := Lib.hid hl5
  clear p0 p1 p2 p3 p4 p5 e5 e6 b5 b6 h5 h6 g5 o5 o6 o6' hf pb pr HBB HRR
  -- spare
  have hbd : l5.length + 1 ≤ 1954687338212 := by have := HL.out; have := HL5.out; omega
  have hsz := HK3.out.size
  have y3 : w.cell? ⟨q5, 3, none⟩ = some (.slice A5 l5.length c5) := H5.out.cell 3
  clear hl5
  go_upto_region 5 with (at_builtin; go_must (refine wpList_app1 _ rfl _ _ 23 rfl W.heap.size 30 _ 6 72 Try.underlying23 Try.infoGr rfl (by omega) _ l5.length (pL l5) rfl (HO5.out.1.alloc _) _ _ _ rfl (Bk.new' rfl rfl : Bk _ _ _ [.int .i64 (-9), .int .i64 0, .string ⟨#[]⟩, .int .i64 0, .slice none 0 0, .int .i64 0]) rfl (by simp [Value.oneCell']) (by omega) (by omega) (by simp; omega) ?_); intro g4 cap4 w4 hown4 hk4 hat4)
  have kal : Kp No w (w.alloc (.cells #[.int .i64 (-9), .int .i64 0, .string ⟨#[]⟩, .int .i64 0, .slice none 0 0, .int .i64 0] 30)) := (Kp.refl No w).alloc _
  have HK4 := Lib.hid ((HK3.out.trans kal).then_ hk4 fun i hi e => by have := (HO5.out.1.lt i e).1; omega)
  have HB4 := Lib.hid ((HB3.out.no kal).kp hk4 (own_ne HO5.out.1 HB3.out (by decide)))
  have HR4 := Lib.hid ((HR3.out.no kal).kp hk4 (own_ne HO5.out.1 HR3.out (by decide)))
  have H54 := Lib.hid ((H5.out.no kal).kp hk4 (own_ne HO5.out.1 H5.out (by decide)))
  have H64 := Lib.hid ((H6.out.no kal).kp hk4 (own_ne HO5.out.1 H6.out (by decide)))
  have hia : ∀ {m : Nat} {v : Value} {xs : List Value}, w.ownsRow W.heap.size 3 1 v m xs → w4.ownsRow W.heap.size 3 1 v m xs := fun h => own_kp (own_kp h kal fun _ _ q => q) hk4 (own_apart h HO5.out.1 (by decide))
  have HST4 := Lib.hid (show ∀ p ∈ l5, w4.ownsRow W.heap.size 3 1 p.2 p.1.stamp.length (ints p.1.stamp) from fun p q => hia (HO5.out.2 p q))
  have HO64 := Lib.hid (hia HO6.out); have HO64' := Lib.hid (hia HO6'.out)
  have HSP4 := Lib.hid hown4
  have hcap : l5.length + 1 ≤ cap4 := by obtain ⟨_, _, e, h⟩ := own_len hown4; injection e with _ _ e; omega
  have hsl := slice_toG g4 (l5.length + 1) l.length cap4 (by have := HL5.out; omega) (by omega)
  have HCAP := Lib.hid hcap
  clear kal hk4 hown4 hat4 hia HO6 HO6' HO5 H5 H6 y3 hcap HB3 HR3 HK3 hsz
  have y3 : w4.cell? ⟨q5, 3, none⟩ = some (.slice A5 l5.length c5) := H54.out.cell 3
  have f3 := H54.out.frozen 3
  have z3 : w4.cell? ⟨W.heap.size, 3, none⟩ = some (.slice A0 l.length c0) := by rw [HB4.out.cell, HCB.out]; rfl
  go_upto_region 6 with (fail)
  have B5 := H54.out.set_ 3 (.slice (some ⟨g4, 0, none⟩) l.length cap4)
  have K5 := (Kp.refl (One q5) w4).set (.inl (One.self q5)) 3 (.slice (some ⟨g4, 0, none⟩) l.length cap4)
  have hne5 : q5 ≠ W.heap.size := by have h3 := HNE5.out; omega
  generalize w4.setCell ⟨q5, 3, none⟩ (.slice (some ⟨g4, 0, none⟩) l.length cap4) = w5 at B5 K5 ⊢
  have HK5 := Lib.hid (HK4.out.then_ K5 fun i hi e => by have h1 : i = q5 := e; have h2 := HQ5.out; omega)
  have HB5 := Lib.hid (HB4.out.kp K5 (fun e => by have h1 : W.heap.size = q5 := e; have h3 := HNE5.out; omega))
  have HR5 := Lib.hid (HR4.out.kp K5 (fun e => by have h1 : W.heap.size + 1 = q5 := e; have h3 := HNE5'.out; omega))
  have HC65 := Lib.hid (H64.out.kp K5 (fun e => H64.out.ne_ H54.out (by decide) e))
  have HSP5 := Lib.hid (own_kp HSP4.out K5 fun j e m => own_ne HSP4.out H54.out (by decide) (by rw [e, show j = q5 from m]))
  have HST5 := Lib.hid (show ∀ p ∈ l5, w5.ownsRow W.heap.size 3 1 p.2 p.1.stamp.length (ints p.1.stamp) from fun p q => int_far (HST4.out p q) K5 H54.out (by decide))
  have HI1 := Lib.hid (int_far HO64.out K5 H54.out (by decide)); have HI2 := Lib.hid (int_far HO64'.out K5 H54.out (by decide))
  obtain ⟨CIN, hCIN⟩ : ∃ C : List Value, C = [.int .i64 n, .int .i64 k, .int .i64 t, .slice (some ⟨g4, 0, none⟩) l5.length cap4] := ⟨_, rfl⟩
  obtain ⟨CRC, hCRC⟩ : ∃ C : List Value, C = rC r (.slice A6 r.grant.stamp.length c6) (.slice B6 r.stamp.length d6) := ⟨_, rfl⟩
  have HCIN := Lib.hid hCIN; have HCRC := Lib.hid hCRC
  have HIN5 := Lib.hid (show Bk w5 q5 25 CIN by rw [hCIN, HL5.out]; exact B5)
  have HRC5 := Lib.hid (show Bk w5 q6 32 CRC by rw [hCRC]; exact HC65.out)
  have HII := Lib.hid (show (Try.prog.info? 25).map (·.size) = some CIN.length by rw [hCIN]; kernel_rfl)
  have HIC := Lib.hid (show (Try.prog.info? 32).map (·.size) = some CRC.length by rw [hCRC]; kernel_rfl)
  have HAIN := Lib.hid (argG_prefix HSP5.out HST5.out)
  clear B5 K5 hne5 hCIN hCRC HB4 HR4 H64 H54 HSP4 HST4 HO64 HO64' HC65 HK4 y3 z3 f3 hsl
  have papp : ∀ W2, Kp No w5 W2 → Calls Try.prog 12 #[.agg CIN.toArray, .agg CRC.toArray] W2 fun e w' => ∃ A lx c, e = .returned (.tuple #[.agg #[.int .i64 b'.next, .int .i64 b'.boots, .int .i64 b'.longest, .slice A lx.length c], .int .i64 er]) ∧ gsL lx = b'.grants ∧ OwnG w' W2.heap.size (.slice A lx.length c) lx ∧ Kp No W2 w' := fun W2 kk => by
    rw [HCIN.out, HCRC.out]
    refine (apply_any n k t (.slice (some ⟨g4, 0, none⟩) l5.length cap4) l5 r (.slice A6 r.grant.stamp.length c6) (.slice B6 r.stamp.length d6) W2 (HAIN.out.no kk) (shL_gs HSH.out HG5.out) (own_argI (own_kp HI1.out kk fun _ _ m => m)) (own_argI (own_kp HI2.out kk fun _ _ m => m)) HS.out.1.sh (by have := HS.out.2; unfold maxLen; omega)).mono ?_
    rintro e w' ⟨s8, l8, h1, h2, h3, h4⟩
    obtain ⟨A8, c8, rfl⟩ := h3.slice
    rw [bk_gs HG5.out, ← HBE.out.1] at h1 h2
    rw [← HBE.out.2] at h1
    exact ⟨A8, l8, c8, h1, h2, h3, h4⟩
  have pdump : ∀ W2, Kp No w5 W2 → Calls Try.prog 28 #[.agg CIN.toArray] W2 fun e w' => ∃ A rl c, e = .returned (.slice A rl.length c) ∧ rl.map (·.1) = dumpB (bk n k t l) ∧ OwnRs w' W2.heap.size (.slice A rl.length c) rl ∧ Kp No W2 w' := fun W2 kk => by
    rw [HCIN.out]
    refine (dump_any n k t (.slice (some ⟨g4, 0, none⟩) l5.length cap4) l5 W2 (HAIN.out.no kk) (shL_gs HSH.out HG5.out)).mono ?_
    rintro e w' ⟨sv, rl, h1, h2, h3, h4⟩
    obtain ⟨A8, c8, rfl, _⟩ := own_len h3.1
    exact ⟨A8, rl, c8, h1, by rw [h2, bk_gs HG5.out], h3, h4⟩
  have penc : ∀ W2, Kp No w5 W2 → Calls Try.prog 23 #[.agg CRC.toArray] W2 fun e w' => (∃ a b, e = .returned (.tuple #[a, b])) ∧ Kp No W2 w' := fun W2 kk => by
    rw [HCRC.out]
    refine (bencode_any r (.slice A6 r.grant.stamp.length c6) (.slice B6 r.stamp.length d6) W2 (own_slI (own_kp HI1.out kk fun _ _ m => m)) (own_slI (own_kp HI2.out kk fun _ _ m => m)) HS.out.1.sh (by have := HS.out.2; unfold maxLen; omega)).mono ?_
    rintro e w' ⟨hres, hk⟩
    refine ⟨?_, hk⟩
    rcases hres with ⟨_, rfl⟩ | ⟨v5, x, _, rfl, _⟩
    · exact ⟨_, _, rfl⟩
    · exact ⟨_, _, rfl⟩
  have psm : ∀ W2, Kp No w5 W2 → Calls Try.prog 16 #[.agg CIN.toArray, .agg CB.toArray] W2 fun e w' => e = .returned (.bool true) ∧ Kp No W2 w' := fun W2 kk => by
    rw [HCIN.out, HCB.out]
    refine (rsameB_any n k t n k t (.slice (some ⟨g4, 0, none⟩) l5.length cap4) (.slice A0 l.length c0) l5 l W2 (HAIN.out.no kk) (HV.out.no (HK5.out.trans kk)) (shL_gs HSH.out HG5.out) HSH.out).mono fun e w' ⟨h1, h2⟩ => ⟨?_, h2⟩
    rw [h1, decide_eq_true (bk_gs HG5.out)]
  have psr : ∀ W2, Kp No w5 W2 → Calls Try.prog 27 #[.agg CRC.toArray, .agg CR.toArray] W2 fun e w' => e = .returned (.bool true) ∧ Kp No W2 w' := fun W2 kk => by
    rw [HCRC.out, HCR.out]
    have h2 : r.stamp.length ≤ maxLen := by have := HS.out.2; unfold maxLen; omega
    refine (rsameRec_any r r (.slice A6 r.grant.stamp.length c6) (.slice B6 r.stamp.length d6) (.slice Ag r.grant.stamp.length cg) (.slice Ar r.stamp.length cr) W2 (own_argI (own_kp HI1.out kk fun _ _ m => m)) (own_argI (own_kp HI2.out kk fun _ _ m => m)) (HG.out.no (HK5.out.trans kk)) (HR.out.no (HK5.out.trans kk)) HS.out.1.sh.2 h2 HS.out.1.sh.2 h2).mono fun e w' ⟨h1, h3⟩ => ⟨?_, h3⟩
    rw [h1, decide_eq_true rfl]
  have prap : ∀ W2, Kp No w5 W2 → Calls Try.prog 15 #[.agg CB.toArray, .agg CR.toArray] W2 fun e w' => ∃ A lx c, e = .returned (.tuple #[.agg #[.int .i64 b'.next, .int .i64 b'.boots, .int .i64 b'.longest, .slice A lx.length c], .int .i64 er]) ∧ gsL lx = b'.grants ∧ OwnG w' W2.heap.size (.slice A lx.length c) lx ∧ Kp No W2 w' := fun W2 kk => by
    rw [HCB.out, HCR.out]
    refine (rapply_any n k t (.slice A0 l.length c0) l r (.slice Ag r.grant.stamp.length cg) (.slice Ar r.stamp.length cr) W2 (HV.out.no (HK5.out.trans kk)) HSH.out HP63.out (HG.out.no (HK5.out.trans kk)) (HR.out.no (HK5.out.trans kk)) HS.out.1.sh (by have := HS.out.2; unfold maxLen; omega) (by have := HS.out.1.1; omega)).mono ?_
    rintro e w' ⟨s8, l8, h1, h2, h3, h4⟩
    obtain ⟨A8, c8, rfl⟩ := h3.slice
    rw [← HBE.out.1] at h1 h2
    rw [← HBE.out.2] at h1
    exact ⟨A8, l8, c8, h1, h2, h3, h4⟩
  have prdp : ∀ W2, Kp No w5 W2 → Calls Try.prog 29 #[.agg CB.toArray] W2 fun e w' => ∃ A rl c, e = .returned (.slice A rl.length c) ∧ rl.map (·.1) = dumpB (bk n k t l) ∧ OwnRs w' W2.heap.size (.slice A rl.length c) rl ∧ Kp No W2 w' := fun W2 kk => by
    rw [HCB.out]
    refine (rdump_any n k t (.slice A0 l.length c0) l W2 (HV.out.no (HK5.out.trans kk)) HSH.out HP63.out).mono ?_
    rintro e w' ⟨sv, rl, h1, h2, h3, h4⟩
    obtain ⟨A8, c8, rfl, _⟩ := own_len h3.1
    exact ⟨A8, rl, c8, h1, h2, h3, h4⟩
  -- x
  go_wp2_with (first | (with_reducible refine wpList_load_mid rfl _ _ rfl q5 0 rfl CIN _ (bk_range HIN5.out) HUB.out rfl HII.out ?_) | (with_reducible refine wpList_load_mid rfl _ _ rfl q6 0 rfl CRC _ (bk_range HRC5.out) HUR.out rfl HIC.out ?_) | fail)
  refine (papp _ (Kp.refl _ _)).mono ?_
  rintro e w6 ⟨Ax, lx, cx, rfl, gx, ox, k6⟩
  obtain ⟨q8, hq8⟩ : ∃ q, q = w6.heap.size := ⟨_, rfl⟩
  obtain ⟨w7, hw7⟩ : ∃ w7, w7 = w6.alloc (.cells #[.int .i64 b'.next, .int .i64 b'.boots, .int .i64 b'.longest, .slice Ax lx.length cx] 25) := ⟨_, rfl⟩
  have k67 : Kp No w6 w7 := by rw [hw7]; exact (Kp.refl No w6).alloc _
  have HX7 := Lib.hid (show Bk w7 q8 25 [.int .i64 b'.next, .int .i64 b'.boots, .int .i64 b'.longest, .slice Ax lx.length cx] by rw [hw7, hq8]; exact Bk.new' rfl rfl)
  have HOX := Lib.hid (ox.no k67); have HGX := Lib.hid gx; have HZX := Lib.hid (ox.safe.mono (S' := fun k => w5.heap.size ≤ k ∧ k < w7.heap.size) fun k h => ⟨h.1, Nat.lt_of_lt_of_le h.2 k67.size⟩)
  have HZQ8 := Lib.hid (show w5.heap.size ≤ q8 ∧ q8 < w7.heap.size from ⟨by rw [hq8]; exact k6.size, HX7.out.lt⟩)
  have HK57 := Lib.hid (k6.trans k67)
  have HW7 := Lib.hid hw7; have HQ8 := Lib.hid hq8
  clear gx ox k6 k67 hw7 hq8
  go_upto_region 7 with (fail)
  rw [← HW7.out, ← HQ8.out]
  clear HW7 HQ8
  -- y
  have HIN7 := Lib.hid (HIN5.out.no HK57.out); have HRC7 := Lib.hid (HRC5.out.no HK57.out)
  go_wp2_with (first | (with_reducible refine wpList_load_mid rfl _ _ rfl q5 0 rfl CIN _ (bk_range HIN7.out) HUB.out rfl HII.out ?_) | (with_reducible refine wpList_load_mid rfl _ _ rfl q6 0 rfl CRC _ (bk_range HRC7.out) HUR.out rfl HIC.out ?_) | fail)
  refine (papp _ HK57.out).mono ?_
  rintro e w8 ⟨Ay, ly, cy, rfl, gy, oy, k8⟩
  obtain ⟨q10, hq10⟩ : ∃ q, q = w8.heap.size := ⟨_, rfl⟩
  obtain ⟨w9, hw9⟩ : ∃ w9, w9 = w8.alloc (.cells #[.int .i64 b'.next, .int .i64 b'.boots, .int .i64 b'.longest, .slice Ay ly.length cy] 25) := ⟨_, rfl⟩
  have k89 : Kp No w8 w9 := by rw [hw9]; exact (Kp.refl No w8).alloc _
  have HY9 := Lib.hid (show Bk w9 q10 25 [.int .i64 b'.next, .int .i64 b'.boots, .int .i64 b'.longest, .slice Ay ly.length cy] by rw [hw9, hq10]; exact Bk.new' rfl rfl)
  have HOY := Lib.hid (oy.no k89); have HGY := Lib.hid gy; have HZY := Lib.hid (oy.safe.mono (S' := fun k => w7.heap.size ≤ k ∧ k < w9.heap.size) fun k h => ⟨h.1, Nat.lt_of_lt_of_le h.2 k89.size⟩)
  have HZQ10 := Lib.hid (show w7.heap.size ≤ q10 ∧ q10 < w9.heap.size from ⟨by rw [hq10]; exact k8.size, HY9.out.lt⟩)
  have HK79 := Lib.hid (k8.trans k89); have HK59 := Lib.hid (HK57.out.trans HK79.out)
  have HW9 := Lib.hid hw9; have HQ10 := Lib.hid hq10
  clear gy oy k8 k89 hw9 hq10 HIN7 HRC7
  go_upto_region 8 with (fail)
  rw [← HW9.out, ← HQ10.out]
  clear HW9 HQ10
  -- d
  have HIN9 := Lib.hid (HIN5.out.no HK59.out)
  go_wp2_with (first | (with_reducible refine wpList_load_mid rfl _ _ rfl q5 0 rfl CIN _ (bk_range HIN9.out) HUB.out rfl HII.out ?_) | fail)
  refine (pdump _ HK59.out).mono ?_
  rintro e w10 ⟨Ad, dl1, cd, rfl, gd, od, k10⟩
  have HOD := Lib.hid od; have HGD := Lib.hid gd; have HZD := Lib.hid od.safe
  have HK910 := Lib.hid k10; have HK510 := Lib.hid (HK59.out.trans k10)
  have HIN10 := Lib.hid (HIN9.out.no k10)
  clear gd od k10 HIN9
  -- k
  go_wp2_with (first | (with_reducible refine wpList_load_mid rfl _ _ rfl q5 0 rfl CIN _ (bk_range HIN10.out) HUB.out rfl HII.out ?_) | fail)
  refine (pdump _ HK510.out).mono ?_
  rintro e w11 ⟨Ak, kl, ck, rfl, gk, ok, k11⟩
  have HOK := Lib.hid ok; have HGK := Lib.hid gk; have HZK := Lib.hid ok.safe
  have HK1011 := Lib.hid k11; have HK511 := Lib.hid (HK510.out.trans k11)
  have HRC11 := Lib.hid (HRC5.out.no HK511.out)
  clear gk ok k11 HIN10
  go_wp2_with (first | (with_reducible refine wpList_load_mid rfl _ _ rfl q6 0 rfl CRC _ (bk_range HRC11.out) HUR.out rfl HIC.out ?_) | fail)
  refine (penc _ HK511.out).mono ?_
  rintro e w12 ⟨⟨ea, eb, rfl⟩, k12⟩
  have HK1112 := Lib.hid k12; have HK512 := Lib.hid (HK511.out.trans k12)
  have HIN12 := Lib.hid (HIN5.out.no HK512.out); have HB12 := Lib.hid (HB5.out.no HK512.out)
  clear k12 HRC11
  go_wp2_with (first | (with_reducible refine wpList_load_mid rfl _ _ rfl q5 0 rfl CIN _ (bk_range HIN12.out) HUB.out rfl HII.out ?_) | (with_reducible refine wpList_load_mid rfl _ _ rfl W.heap.size 0 rfl CB _ (bk_range HB12.out) HUB.out rfl HIB.out ?_) | fail)
  refine (psm _ HK512.out).mono ?_
  rintro e w13 ⟨rfl, k13⟩
  have HK1213 := Lib.hid k13; have HK513 := Lib.hid (HK512.out.trans k13)
  have HRC13 := Lib.hid (HRC5.out.no HK513.out); have HR13 := Lib.hid (HR5.out.no HK513.out)
  clear k13 HIN12 HB12
  go_wp2_with (first | (refine wpList_load_mid_g (by rfl) _ _ rfl q6 0 rfl CRC _ (bk_range HRC13.out) HUR.out rfl HIC.out ?_) | (refine wpList_load_mid_g (by rfl) _ _ rfl (W.heap.size + 1) 0 rfl CR _ (bk_range HR13.out) HUR.out rfl HIR.out ?_) | fail)
  refine (psr _ HK513.out).mono ?_
  rintro e w14 ⟨rfl, k14⟩
  have HK1314 := Lib.hid k14; have HK514 := Lib.hid (HK513.out.trans k14)
  have HB14 := Lib.hid (HB5.out.no HK514.out); have HR14 := Lib.hid (HR5.out.no HK514.out)
  have HSP14 := Lib.hid (own_kp HSP5.out HK514.out fun _ _ m => m)
  clear k14 HRC13 HR13
  have z3 : w14.cell? ⟨W.heap.size, 3, none⟩ = some (.slice A0 l.length c0) := by rw [HB14.out.cell, HCB.out]; rfl
  have hq9 : w14.cell? ⟨g4, l.length * 6, none⟩ = some (.int .i64 (-9)) := by
    have h := HSP14.out.cells (g := g4) rfl (l5.length * 6) (.int .i64 (-9)) (by
      rw [List.getElem?_append_right (by rw [pL_len]; omega), pL_len, show l5.length * 6 - 6 * l5.length = 0 by omega]; rfl)
    rw [Addr.add_mid, Nat.zero_add, HL5.out] at h
    exact h
  have hk0 : (0 : Int) ≤ (l.length : Int) := by omega
  have hk1 : (l.length : Int) < (l5.length : Int) + 1 := by have := HL5.out; omega
  go_upto_region 13 with (fail)
  clear z3 hq9 hk0 hk1 hbd
  -- want
  go_wp2_with (first | (with_reducible refine wpList_load_mid rfl _ _ rfl W.heap.size 0 rfl CB _ (bk_range HB14.out) HUB.out rfl HIB.out ?_) | (with_reducible refine wpList_load_mid rfl _ _ rfl (W.heap.size + 1) 0 rfl CR _ (bk_range HR14.out) HUR.out rfl HIR.out ?_) | fail)
  refine (prap _ HK514.out).mono ?_
  rintro e w15 ⟨Aw, lw, cw, rfl, gw, ow, k15⟩
  obtain ⟨q14, hq14⟩ : ∃ q, q = w15.heap.size := ⟨_, rfl⟩
  obtain ⟨w16, hw16⟩ : ∃ w16, w16 = w15.alloc (.cells #[.int .i64 b'.next, .int .i64 b'.boots, .int .i64 b'.longest, .slice Aw lw.length cw] 25) := ⟨_, rfl⟩
  have k1516 : Kp No w15 w16 := by rw [hw16]; exact (Kp.refl No w15).alloc _
  have HW16B := Lib.hid (show Bk w16 q14 25 [.int .i64 b'.next, .int .i64 b'.boots, .int .i64 b'.longest, .slice Aw lw.length cw] by rw [hw16, hq14]; exact Bk.new' rfl rfl)
  have HOW := Lib.hid (ow.no k1516); have HGW := Lib.hid gw; have HZW := Lib.hid (ow.safe.mono (S' := fun k => w14.heap.size ≤ k ∧ k < w16.heap.size) fun k h => ⟨h.1, Nat.lt_of_lt_of_le h.2 k1516.size⟩)
  have HZQ14 := Lib.hid (show w14.heap.size ≤ q14 ∧ q14 < w16.heap.size from ⟨by rw [hq14]; exact k15.size, HW16B.out.lt⟩)
  have HK1416 := Lib.hid (k15.trans k1516); have HK516 := Lib.hid (HK514.out.trans HK1416.out)
  have HB16 := Lib.hid (HB5.out.no HK516.out)
  have HW16 := Lib.hid hw16; have HQ14 := Lib.hid hq14
  clear gw ow k15 k1516 hw16 hq14 HB14 HR14 HSP14
  go_upto_region 14 with (fail)
  rw [← HW16.out, ← HQ14.out]
  clear HW16 HQ14
  -- dump
  go_wp2_with (first | (with_reducible refine wpList_load_mid rfl _ _ rfl W.heap.size 0 rfl CB _ (bk_range HB16.out) HUB.out rfl HIB.out ?_) | fail)
  refine (prdp _ HK516.out).mono ?_
  rintro e w17 ⟨Au, ul, cu, rfl, gu, ou, k17⟩
  have HK1017 := Lib.hid (show Kp No w11 w17 from (((HK1112.out.trans HK1213.out).trans HK1314.out).trans HK1416.out).trans k17)
  obtain ⟨s1, e1⟩ : ∃ s, s = w5.heap.size := ⟨_, rfl⟩; obtain ⟨s2, e2⟩ : ∃ s, s = w7.heap.size := ⟨_, rfl⟩; obtain ⟨s3, e3⟩ : ∃ s, s = w9.heap.size := ⟨_, rfl⟩
  obtain ⟨s4, e4⟩ : ∃ s, s = w10.heap.size := ⟨_, rfl⟩; obtain ⟨s9, e9⟩ : ∃ s, s = w17.heap.size := ⟨_, rfl⟩
  have o1 : W.heap.size ≤ s1 := by rw [e1]; exact HK5.out.size
  have o2 : s1 ≤ s2 := by rw [e1, e2]; exact HK57.out.size
  have o3 : s2 ≤ s3 := by rw [e2, e3]; exact HK79.out.size
  have o4 : s3 ≤ s4 := by rw [e3, e4]; exact HK910.out.size
  have o9 : s4 ≤ s9 := by rw [e4, e9]; exact (HK1011.out.trans HK1017.out).size
  have HS9 := Lib.hid (show s9 ≤ w17.heap.size by rw [e9]; exact Nat.le_refl _)
  have HOO := Lib.hid (And.intro o1 (And.intro o2 (And.intro o3 (And.intro o4 o9))))
  obtain ⟨S, hS⟩ : ∃ S : Nat → Prop, S = fun k => s2 ≤ k ∧ k < s3 ∨ s4 ≤ k ∧ k < s9 := ⟨_, rfl⟩
  have HSS := Lib.hid (show ∀ k, S k ↔ (s2 ≤ k ∧ k < s3 ∨ s4 ≤ k ∧ k < s9) from fun k => by rw [hS])
  have kd17 : Kp No w9 w17 := (HK910.out.trans HK1011.out).trans HK1017.out
  have k1017 := HK1011.out.trans HK1017.out
  have k716 : Kp No w7 w17 := HK79.out.trans kd17
  have hWk : ∀ {w}, Kp No w5 w → W.heap.size ≤ w.heap.size := fun kk => Nat.le_trans HK5.out.size kk.size
  have HREST := Lib.hid (show Rest W S q10 q14 b' (dumpB (bk n k t l)) Ay ly cy Aw lw cw (.slice Ak kl.length ck) kl (.slice Au ul.length cu) ul w17 from
    ⟨HY9.out.no kd17, (HOY.out.mono (hWk HK57.out)).no kd17, HZY.out.mono fun k h => (HSS.out k).2 (.inl (by rw [e2, e3]; exact h)), HGY.out,
      HW16B.out.no k17, (HOW.out.mono (hWk HK514.out)).no k17, HZW.out.mono fun k h => (HSS.out k).2 (.inr ⟨by have h1 := ((HK1011.out.trans HK1112.out).trans (HK1213.out.trans HK1314.out)).size; omega, by have h1 := k17.size; omega⟩), HGW.out,
      (HOK.out.mono (hWk HK510.out)).no HK1017.out, HZK.out.mono fun k h => (HSS.out k).2 (.inr ⟨by omega, by have h1 := HK1017.out.size; omega⟩), HGK.out,
      ou.mono (hWk HK516.out), ou.safe.mono fun k h => (HSS.out k).2 (.inr ⟨by have h1 := (((HK1011.out.trans HK1112.out).trans (HK1213.out.trans HK1314.out)).trans HK1416.out).size; omega, by omega⟩), gu,
      (HSS.out _).2 (.inl (by rw [e2, e3]; exact HZQ10.out)), (HSS.out _).2 (.inr ⟨by have h1 := ((HK1011.out.trans HK1112.out).trans (HK1213.out.trans HK1314.out)).size; have h2 := HZQ14.out; omega, by have h1 := k17.size; have h2 := HZQ14.out; omega⟩), ((HK5.out.trans HK516.out).trans k17)⟩)
  have HX17 := Lib.hid (HX7.out.no k716)
  have HOX17 := Lib.hid ((HOX.out.mono (hWk (Kp.refl No w5))).no k716)
  have HZX17 := Lib.hid (show SafeG (fun k => s1 ≤ k ∧ k < s2) (.slice Ax lx.length cx) lx by rw [e1, e2]; exact HZX.out)
  have HZQ8s := Lib.hid (show s1 ≤ q8 ∧ q8 < s2 by rw [e1, e2]; exact HZQ8.out)
  have HOD17 := Lib.hid ((HOD.out.mono (hWk HK59.out)).no k1017)
  have HZD17 := Lib.hid (show SafeR (fun k => s3 ≤ k ∧ k < s4) (.slice Ad dl1.length cd) dl1 by rw [e3, e4]; exact HZD.out)
  have hk517 : Kp No w5 w17 := HK516.out.trans k17
  obtain ⟨ZA, hZA⟩ : ∃ Z : Nat → Prop, Z = fun k => W.heap.size ≤ k ∧ k < s1 := ⟨_, rfl⟩
  have HZA := Lib.hid (show ∀ k, ZA k ↔ (W.heap.size ≤ k ∧ k < s1) from fun k => by rw [hZA])
  have HSPZ := Lib.hid (show StZ w17 30 6 4 ZA 17592186043904 0 (l5.length + 1) (.slice (some ⟨g4, 0, none⟩) (l5.length + 1) cap4) by
    have hz : ∀ {t : TypeId} {sz m : Nat} {v : Value} {xs : List Value}, w5.ownsRow W.heap.size t sz v m xs → ∀ g, v.ownBlock = some g → ZA g := fun h g e => (HZA.out g).2 (by rw [e1]; exact h.lt g e)
    refine StZ.no (w := w5) ⟨_, own_mono HSP5.out (Nat.zero_le _), hz HSP5.out, fun j _ hj => ?_⟩ hk517
    by_cases hj2 : j < l5.length
    · have hm := List.getElem_mem hj2
      refine ⟨l5[j].2, l5[j].1.stamp.length, ?_, ?_, IntZ.of (HST5.out _ hm) (hz (HST5.out _ hm))⟩
      · rw [List.getElem?_append_left (by rw [pL_len]; omega), pL_get l5 j hj2 4 (by decide)]; rfl
      · obtain ⟨p, hp, e⟩ : ∃ p ∈ l, p.1 = l5[j].1 := by
          have h1 : l5[j].1 ∈ gsL l := by rw [← HG5.out]; exact List.mem_map_of_mem hm
          obtain ⟨p, hp, e⟩ := List.mem_map.1 h1
          exact ⟨p, hp, e⟩
        rw [← e]; exact HST.out p hp
    · obtain rfl : j = l5.length := by omega
      refine ⟨.slice none 0 0, 0, ?_, Nat.zero_le _, IntZ.of (B := 0) (L := []) (nil_own _ _ _ _) fun g e => by simp [Value.ownBlock] at e⟩
      rw [List.getElem?_append_right (by rw [pL_len]; omega), pL_len, show l5.length * 6 + 4 - 6 * l5.length = 4 by omega]; rfl)
  have HR1Z := Lib.hid (show IntZ w17 ZA r.grant.stamp.length (.slice A6 r.grant.stamp.length c6) from (IntZ.of HI1.out fun g e => (HZA.out g).2 (by rw [e1]; exact HI1.out.lt g e)).no hk517)
  have HR2Z := Lib.hid (show IntZ w17 ZA r.stamp.length (.slice B6 r.stamp.length d6) from (IntZ.of HI2.out fun g e => (HZA.out g).2 (by rw [e1]; exact HI2.out.lt g e)).no hk517)
  have HRC17 := Lib.hid (show Bk w17 q6 32 (rC r (.slice A6 r.grant.stamp.length c6) (.slice B6 r.stamp.length d6)) by rw [← HCRC.out]; exact HRC5.out.no hk517)
  have hlx := apply_small (b := bk n k t l) (r := r) (m := lx) (by rw [← HBE.out.1]; exact HGX.out)
  have hly := apply_small (b := bk n k t l) (r := r) (m := ly) (by rw [← HBE.out.1]; exact HGY.out)
  have hlw := apply_small (b := bk n k t l) (r := r) (m := lw) (by rw [← HBE.out.1]; exact HGW.out)
  have HLX := Lib.hid hlx; have HLY := Lib.hid hly; have HLW := Lib.hid hlw
  have HNB := Lib.hid (show l5.length + 1 ≤ 1954687338212 by have := HL5.out; have := HL.out; omega)
  clear papp pdump penc psm psr prap prdp gu ou k17 e1 e2 e3 e4 e9 o1 o2 o3 o4 o9 hS kd17 k1017 k716 hWk hk517 hZA hlx hly hlw HB5 HR5 HSP5 HST5 HI1 HI2 HIN5 HRC5 HII HIC HAIN HX7 HOX HZX HZQ8 HK57 HY9 HOY HGY HZY HZQ10 HK79 HK59 HOD HZD HK910 HK510 HOK HGK HZK HK1011 HK511 HK1112 HK512 HK1213 HK513 HK1314 HK514 HW16B HOW HGW HZW HZQ14 HK1416 HK516 HB16 HK1017 HCIN HCRC HIB HIR HUB HUR HV HG HR HSH HST HP63 HL HS HCB HCR HBE HB1 HR1 HK1 HK2 HK5 HL5 HG5 HQ5 HQ6 HNE5 HNE5' HCAP
  generalize hm : l5.length + 1 = m at HSPZ HNB ⊢
  clear hm
  go_wp2
  go_loopw [87] (fun i wr => ∃ j : Nat, j ≤ m ∧ i = .int .i64 j ∧ StZ wr 30 6 4 ZA 17592186043904 j m (.slice (some ⟨g4, 0, none⟩) m cap4) ∧ IntZ wr ZA r.grant.stamp.length (.slice A6 r.grant.stamp.length c6) ∧ IntZ wr ZA r.stamp.length (.slice B6 r.stamp.length d6) ∧ Bk wr q6 32 (rC r (.slice A6 r.grant.stamp.length c6) (.slice B6 r.stamp.length d6)) ∧ Kp ZA w17 wr) (fun i _ => m - (intOf i).toNat)
  case atStart => exact ⟨0, Nat.zero_le _, rfl, HSPZ.out, HR1Z.out, HR2Z.out, HRC17.out, Kp.refl _ _⟩
  case round =>
    obtain ⟨j, hj, rfl, h1, h2, h3, h4, h5⟩ := hrel
    have H1 := Lib.hid h1; have H2 := Lib.hid h2; have H3 := Lib.hid h3; have H4 := Lib.hid h4; have H5 := Lib.hid h5
    clear h1 h2 h3 h4 h5
    by_cases hlt : j < m
    · have hk0 : (0 : Int) ≤ (j : Int) := by omega
      have hk1 : (j : Int) < (m : Int) := by omega
      obtain ⟨g, cap, cs, u, mm, e, hb, hz, hcells, hu, hmm, hint⟩ := H1.out.at_ hlt (by decide)
      injection e with e _ e2
      injection e with e
      injection e with e _ _
      subst e e2
      obtain ⟨A7, c7, rfl, hmx⟩ := hint.len
      have pw := wipe_any (.slice A7 mm c7) mm 7 ZA wr hint
      have HZ := Lib.hid hz
      have hmB := HNB.out
      have HLT := Lib.hid hlt
      clear hb hz hcells hmm hint hmx hlt
      go_wp2_with fail
      refine pw.mono ?_
      rintro e w20 ⟨rfl, hiz⟩
      have h1 := H1.out.iz hiz (by decide)
      obtain ⟨g, cap, cs, _, _, e, hb, _, hcells, _⟩ := h1.at_ HLT.out (by decide)
      injection e with e _ e2
      injection e with e
      injection e with e _ _
      subst e e2
      obtain ⟨b0, q0⟩ := hcells 0 (by decide); obtain ⟨b1, q1⟩ := hcells 1 (by decide); obtain ⟨b2, q2⟩ := hcells 2 (by decide); obtain ⟨b3, q3⟩ := hcells 3 (by decide); obtain ⟨b4, q4⟩ := hcells 4 (by decide); obtain ⟨b5, q5'⟩ := hcells 5 (by decide)
      rw [Nat.add_zero] at q0
      have f0 := hb.frozen (j * 6); have f1 := hb.frozen (j * 6 + 1); have f2 := hb.frozen (j * 6 + 2); have f3 := hb.frozen (j * 6 + 3); have f4 := hb.frozen (j * 6 + 4); have f5 := hb.frozen (j * 6 + 5)
      have hjm := HLT.out
      have s1' := h1.set_ (j * 6) (.int .i64 77) (j + 1) (by decide) (by omega) (by omega) (fun a b => by omega)
      have s2' := s1'.set_ (j * 6 + 1) (.int .i64 0) (j + 1) (by decide) (by omega) (by omega) (fun a b => by omega)
      have s3' := s2'.set_ (j * 6 + 2) (.string ⟨#[]⟩) (j + 1) (by decide) (by omega) (by omega) (fun a b => by omega)
      have s4' := s3'.set_ (j * 6 + 3) (.int .i64 0) (j + 1) (by decide) (by omega) (by omega) (fun a b => by omega)
      have s5' := s4'.set_ (j * 6 + 4) (.slice none 0 0) (j + 1) (by decide) (by omega) (by omega) (fun a b => by omega)
      have HS6 := Lib.hid (s5'.set_ (j * 6 + 5) (.int .i64 0) (j + 1) (by decide) (by omega) (by omega) (fun a b => by omega))
      have kg := ((((((Kp.refl (One g4) w20).set (.inl (One.self _)) (j * 6) (.int .i64 77)).set (.inl (One.self _)) (j * 6 + 1) (.int .i64 0)).set (.inl (One.self _)) (j * 6 + 2) (.string ⟨#[]⟩)).set (.inl (One.self _)) (j * 6 + 3) (.int .i64 0)).set (.inl (One.self _)) (j * 6 + 4) (.slice none 0 0)).set (.inl (One.self _)) (j * 6 + 5) (.int .i64 0)
      have HI2 := Lib.hid ((H2.out.iz hiz).kp kg fun g' cs' m hb' => by obtain rfl : g' = g4 := m; exact hb.ne_ hb' (by decide) rfl)
      have HI3 := Lib.hid ((H3.out.iz hiz).kp kg fun g' cs' m hb' => by obtain rfl : g' = g4 := m; exact hb.ne_ hb' (by decide) rfl)
      have HI4 := Lib.hid ((hiz.bk H4.out (by decide)).kp kg fun m => (hiz.bk H4.out (by decide)).ne_ hb (by decide) m)
      have HI5 := Lib.hid ((H5.out.then_ hiz.kp fun i hi m => m.1).then_ kg fun i hi e => by have h1 : i = g4 := e; rw [h1]; exact HZ.out)
      clear h1 s1' s2' s3' s4' s5' kg hiz hcells hb pw hjm
      go_wp2
      go_roundw
      case rel => exact ⟨j + 1, HLT.out, by go_num, HS6.out, HI2.out, HI3.out, HI4.out, HI5.out⟩
      case measure => have := HLT.out; simp [intOf]; omega
    · have hk1 : ¬ (j : Int) < (m : Int) := by omega
      have y5 : wr.cell? ⟨q6, 5, none⟩ = some (.slice A6 r.grant.stamp.length c6) := H4.out.cell 5
      have pw := wipe_any (.slice A6 r.grant.stamp.length c6) r.grant.stamp.length 7 ZA wr H2.out
      clear hlt
      go_wp2_with fail
      refine pw.mono ?_
      rintro e w20 ⟨rfl, hiz⟩
      have pw2 := wipe_any (.slice B6 r.stamp.length d6) r.stamp.length 7 ZA w20 (H3.out.iz hiz)
      have y8 : w20.cell? ⟨q6, 8, none⟩ = some (.slice B6 r.stamp.length d6) := (hiz.bk H4.out (by decide)).cell 8
      have K20 := Lib.hid (H5.out.then_ hiz.kp fun i hi m => m.1)
      clear y5 pw hiz
      go_wp2_with fail
      refine pw2.mono ?_
      rintro e w21 ⟨rfl, hiz⟩
      have hoo := HOO.out
      have HKA := Lib.hid (K20.out.then_ hiz.kp fun i hi m => m.1)
      have hzs : ∀ k, ZA k → ¬ S k ∧ W.heap.size ≤ k := fun k h => by
        have h1 := (HZA.out k).1 h
        refine ⟨fun h2 => ?_, h1.1⟩
        have h3 := (HSS.out k).1 h2
        omega
      have HREST1 := Lib.hid (HREST.out.keep HKA.out hzs)
      have hzlt : ∀ k, ZA k → k < s1 := fun k h => ((HZA.out k).1 h).2
      have HX21 := Lib.hid (HX17.out.kp HKA.out fun m => by have h1 := hzlt _ m; have h2 := HZQ8s.out; omega)
      have HOX21 := Lib.hid (HOX17.out.keep HZX17.out HKA.out fun k m h => by have h1 := hzlt k m; have h2 : s1 ≤ k ∧ k < s2 := h; omega)
      have HOD21 := Lib.hid (HOD17.out.keep HZD17.out HKA.out fun k m h => by have h1 := hzlt k m; have h2 : s3 ≤ k ∧ k < s4 := h; omega)
      have HSZ21 := Lib.hid (show s9 ≤ w21.heap.size from Nat.le_trans HS9.out HKA.out.size)
      clear hiz y8 pw2 hoo hzs hzlt K20 H1 H2 H3 H4 H5 HKA HREST HX17 HOX17 HOD17 HSPZ HR1Z HR2Z HRC17 HZA HNB
      go_upto_region 23 with (fail)
      go_cut [115] (fun s wx => s = .bool false ∧ Kp No w21 wx)
      case first =>
        by_cases h0 : er = 0
        · subst h0
          have y0 := HX21.out.cell 0; have y1 := HX21.out.cell 1; have y2 := HX21.out.cell 2; have y3 := HX21.out.cell 3
          have z0 := HREST1.out.wb.cell 0; have z1 := HREST1.out.wb.cell 1; have z2 := HREST1.out.wb.cell 2; have z3 := HREST1.out.wb.cell 3
          simp only [List.getElem?_cons_zero, List.getElem?_cons_succ] at y0 y1 y2 y3 z0 z1 z2 z3
          have ps := rsameB_any b'.next b'.boots b'.longest b'.next b'.boots b'.longest (.slice Ax lx.length cx) (.slice Aw lw.length cw) lx lw w21 HOX21.out.arg HREST1.out.wo.arg (small_sh HLX.out) (small_sh HLW.out)
          rw [decide_eq_true (by rw [bk_of HGX.out, bk_of HREST1.out.wg])] at ps
          go_wp2_with fail
          refine ps.mono ?_
          rintro e w22 ⟨rfl, k22⟩
          clear ps y0 y1 y2 y3 z0 z1 z2 z3
          go_wp2
          go_meet
          exact ⟨rfl, k22⟩
        · have d0 : (er == 0) = false := by rw [beq_eq_false_iff_ne]; exact h0
          clear h0
          go_wp2
          go_meet
          exact ⟨rfl, Kp.refl _ _⟩
      case rest =>
        obtain ⟨rfl, k22⟩ := hcut
        have HREST := Lib.hid (HREST1.out.no k22); have HX := Lib.hid (HX21.out.no k22); have HOX := Lib.hid (HOX21.out.no k22); have HOD := Lib.hid (HOD21.out.no k22)
        have HSZ := Lib.hid (Nat.le_trans HSZ21.out k22.size)
        clear k22 HREST1 HX21 HOX21 HOD21 HSZ21
        obtain ⟨ZB, hZB⟩ : ∃ Z : Nat → Prop, Z = fun k => W.heap.size ≤ k ∧ (s1 ≤ k ∧ k < s2 ∨ s9 ≤ k) := ⟨_, rfl⟩
        have HZB := Lib.hid (show ∀ k, ZB k ↔ (W.heap.size ≤ k ∧ (s1 ≤ k ∧ k < s2 ∨ s9 ≤ k)) from fun k => by rw [hZB])
        have hxz : StZ wc 30 6 4 ZB 4 0 lx.length (.slice Ax lx.length cx) := by
          have hoo := HOO.out
          have hz : ∀ k, s1 ≤ k ∧ k < s2 → ZB k := fun k h => (HZB.out k).2 ⟨by omega, .inl h⟩
          exact StZ.of_own HOX.out (fun g e => hz g (HZX17.out.1 g e)) fun p hp => ⟨(HLX.out.2 p hp).1, fun g e => hz g (HZX17.out.2 p hp g e)⟩
        have HXZ := Lib.hid hxz
        have HLX6 := Lib.hid HLX.out.1
        clear hZB hxz HOX HLX HGX HZX17
        generalize lx.length = nx at HXZ HX HLX6 ⊢
        have y3 : wc.cell? ⟨q8, 3, none⟩ = some (.slice Ax nx cx) := HX.out.cell 3
        go_wp2
        clear y3
        go_loopw [119] (fun i wr => ∃ j : Nat, j ≤ nx ∧ i = .int .i64 j ∧ StZ wr 30 6 4 ZB 4 j nx (.slice Ax nx cx) ∧ Bk wr q8 25 [.int .i64 b'.next, .int .i64 b'.boots, .int .i64 b'.longest, .slice Ax nx cx] ∧ Kp ZB wc wr) (fun i _ => nx - (intOf i).toNat)
        case atStart => exact ⟨0, Nat.zero_le _, rfl, HXZ.out, HX.out, Kp.refl _ _⟩
        case round =>
          obtain ⟨j, hj, rfl, h1, h2, h3⟩ := hrel
          have H1 := Lib.hid h1; have H2 := Lib.hid h2; have H3 := Lib.hid h3
          clear h1 h2 h3
          by_cases hlt : j < nx
          · have hk0 : (0 : Int) ≤ (j : Int) := by omega
            have hk1 : (j : Int) < (nx : Int) := by omega
            obtain ⟨g, cap, cs, u, mm, e, hb, hz, hcells, hu, hmm, hint⟩ := H1.out.at_ hlt (by decide)
            injection e with e _ e2
            subst e e2
            obtain ⟨A7, c7, rfl, hmx⟩ := hint.len
            have pw := wipe_any (.slice A7 mm c7) mm (-5) ZB wr hint
            have HZ := Lib.hid hz
            have HLT := Lib.hid hlt
            have y3 : wr.cell? ⟨q8, 3, none⟩ = some (.slice (some ⟨g, 0, none⟩) nx cx) := H2.out.cell 3
            clear hb hz hcells hmm hint hmx hlt
            go_wp2_with fail
            refine pw.mono ?_
            rintro e w23 ⟨rfl, hiz⟩
            have h1 := H1.out.iz hiz (by decide)
            have h2 := hiz.bk H2.out (by decide)
            have h3 := H3.out.then_ hiz.kp fun i hi m => m.1
            obtain ⟨g', cap, cs, _, _, e, hb, _, hcells, _⟩ := h1.at_ HLT.out (by decide)
            injection e with e _ e2
            injection e with e
            injection e with e _ _
            subst e e2
            obtain ⟨b0, q0⟩ := hcells 0 (by decide)
            rw [Nat.add_zero] at q0
            have f0 := hb.frozen (j * 6)
            have hjn := HLT.out
            have s1' := h1.set_ (j * 6) (.int .i64 (-6)) j (by decide) (by omega) (Nat.le_refl _) (fun a b => by omega)
            have kg := (Kp.refl (One g) w23).set (.inl (One.self _)) (j * 6) (.int .i64 (-6))
            have h2' := h2.kp kg fun m => h2.ne_ hb (by decide) m
            have h3' := h3.then_ kg fun i hi e => by have h1 : i = g := e; rw [h1]; exact HZ.out
            have y3' : w23.cell? ⟨q8, 3, none⟩ = some (.slice (some ⟨g, 0, none⟩) nx cx) := h2.cell 3
            have HS1 := Lib.hid s1'; have HB2 := Lib.hid h2'; have HK3 := Lib.hid h3'
            clear h1 h2 h3 hb hcells pw hiz s1' kg h2' h3' y3 hu hjn
            go_upto_region 30 with (fail)
            generalize w23.setCell ⟨g, j * 6, none⟩ (.int .i64 (-6)) = w24 at HS1 HB2 HK3 ⊢
            clear y3' q0 f0
            obtain ⟨g', cap, cs, u, mm, e, hb, _, hcells, hu, hmm, hint⟩ := HS1.out.at_ HLT.out (by decide)
            injection e with e _ e2
            injection e with e
            injection e with e _ _
            subst e e2
            obtain ⟨A8, c8, rfl, hmx⟩ := hint.len
            have HBG := Lib.hid hb; have HINT := Lib.hid hint; have HMM := Lib.hid hmm
            have hne : g ≠ q8 := fun e => hb.ne_ HB2.out (by decide) e
            have HU := Lib.hid hu
            have HNE := Lib.hid hne
            have hzn : ∀ W2, Kp No w24 W2 → ∀ k, W2.heap.size ≤ k → ZB k := fun W2 kk k h => (HZB.out k).2 (by
              have h1 := HK3.out.size; have h2 := kk.size; have h3 := HSZ.out; have h4 := HOO.out
              exact ⟨by omega, .inr (by omega)⟩)
            have sk : ∀ W2, Kp (fun k => ∃ cs, Bk w24 k 3 cs) w24 W2 → W2.cell? ⟨q8, 3, none⟩ = some (.slice (some ⟨g, 0, none⟩) nx cx) ∧ W2.cell? ⟨g, j * 6 + 4, none⟩ = some (.slice A8 mm c8) := fun W2 kk =>
              ⟨(HB2.out.kp kk fun ⟨cs', hb'⟩ => HB2.out.ne_ hb' (by decide) rfl).cell 3, by
                have hb2 := HBG.out.kp kk fun ⟨cs', hb'⟩ => HBG.out.ne_ hb' (by decide) rfl
                have hu := HU.out
                rw [HBG.out.cell] at hu
                rw [hb2.cell]; exact hu⟩
            have hF := sk _ (Kp.refl _ w24).drew
            clear hb hcells hu hmm hint hmx hne
            refine rg_begin (fun W2 => W2.cell? ⟨q8, 3, none⟩ = some (.slice (some ⟨g, 0, none⟩) nx cx) ∧ W2.cell? ⟨g, j * 6 + 4, none⟩ = some (.slice A8 mm c8)) 13 (by kernel_rfl) ?_
            refine rg_take (i := 0) (v := ?vp0) (by simp only [List.getElem?_toArray, List.getElem?_cons_zero]; rfl) (by kernel_rfl) (by exact fun _ _ _ h => h) (by rfl) ?rp0 hF ?sp0
            case rp0 => (intro W hW; clear hW; go_simp; try with_reducible rfl)
            try simp only [Act.put, List.setIfInBounds_toArray, List.set_cons_zero, List.set_cons_succ]
            refine rg_take (i := 1) (v := ?vp1) (by simp only [List.getElem?_toArray, List.getElem?_cons_succ, List.getElem?_cons_zero]; rfl) (by kernel_rfl) (by exact fun _ _ _ h => h) (by rfl) ?rp1 hF ?sp1
            case rp1 => (intro W hW; obtain ⟨f1, f2⟩ := hW; go_simp; try with_reducible rfl)
            try simp only [Act.put, List.setIfInBounds_toArray, List.set_cons_zero, List.set_cons_succ]
            refine rg_take (i := 2) (v := ?vp2) (by simp only [List.getElem?_toArray, List.getElem?_cons_succ, List.getElem?_cons_zero]; rfl) (by kernel_rfl) (by exact fun _ _ _ h => h) (by rfl) ?rp2 hF ?sp2
            case rp2 => (intro W hW; clear hW; go_simp; try with_reducible rfl)
            try simp only [Act.put, List.setIfInBounds_toArray, List.set_cons_zero, List.set_cons_succ]
            refine rg_take (i := 3) (v := ?vp3) (by simp only [List.getElem?_toArray, List.getElem?_cons_succ, List.getElem?_cons_zero]; rfl) (by kernel_rfl) (by exact fun _ _ _ h => h) (by rfl) ?rp3 hF ?sp3
            case rp3 => (intro W hW; clear hW; go_simp; try with_reducible rfl)
            try simp only [Act.put, List.setIfInBounds_toArray, List.set_cons_zero, List.set_cons_succ]
            refine rg_take (i := 4) (v := ?vp4) (by simp only [List.getElem?_toArray, List.getElem?_cons_succ, List.getElem?_cons_zero]; rfl) (by kernel_rfl) (by exact fun _ _ _ h => h) (by rfl) ?rp4 hF ?sp4
            case rp4 => (intro W hW; obtain ⟨f1, f2⟩ := hW; go_simp; try with_reducible rfl)
            try simp only [Act.put, List.setIfInBounds_toArray, List.set_cons_zero, List.set_cons_succ]
            refine rg_take (i := 5) (v := ?vp5) (by simp only [List.getElem?_toArray, List.getElem?_cons_succ, List.getElem?_cons_zero]; rfl) (by kernel_rfl) (by exact fun _ _ _ h => h) (by rfl) ?rp5 hF ?sp5
            case rp5 => (intro W hW; clear hW; go_simp; try with_reducible rfl)
            try simp only [Act.put, List.setIfInBounds_toArray, List.set_cons_zero, List.set_cons_succ]
            refine rg_take (i := 6) (v := ?vp6) (by simp only [List.getElem?_toArray, List.getElem?_cons_succ, List.getElem?_cons_zero]; rfl) (by kernel_rfl) (by exact fun _ _ _ h => h) (by rfl) ?rp6 hF ?sp6
            case rp6 => (intro W hW; clear hW; go_simp; try with_reducible rfl)
            try simp only [Act.put, List.setIfInBounds_toArray, List.set_cons_zero, List.set_cons_succ]
            refine rg_take (i := 7) (v := ?vp7) (by simp only [List.getElem?_toArray, List.getElem?_cons_succ, List.getElem?_cons_zero]; rfl) (by kernel_rfl) (by exact fun _ _ _ h => h) (by rfl) ?rp7 hF ?sp7
            case rp7 => (intro W hW; clear hW; go_simp; try with_reducible rfl)
            try simp only [Act.put, List.setIfInBounds_toArray, List.set_cons_zero, List.set_cons_succ]
            refine rg_take (i := 8) (v := ?vp8) (by simp only [List.getElem?_toArray, List.getElem?_cons_succ, List.getElem?_cons_zero]; rfl) (by kernel_rfl) (by exact fun _ _ _ h => h) (by rfl) ?rp8 hF ?sp8
            case rp8 => (intro W hW; obtain ⟨f1, f2⟩ := hW; go_simp; try with_reducible rfl)
            try simp only [Act.put, List.setIfInBounds_toArray, List.set_cons_zero, List.set_cons_succ]
            refine rg_one (i := 9) (oi := ?op9) ?ap9 ?bp9 ?cp9 ?dp9
            case ap9 => (simp only [List.getElem?_toArray, List.getElem?_cons_succ, List.getElem?_cons_zero]; rfl)
            case bp9 => kernel_rfl
            case cp9 => rfl
            intro K hK
            go_simp
            refine rg_use hK (sk _ ((Kp.refl No w24).drew.alloc (.cells #[.int .i64 (-7), .int .i64 (-7), .int .i64 (-7), .int .i64 (-7), .int .i64 (-7)] 3)).of_no) (fun hF => ?_)
            clear hK K
            try simp only [Act.put, List.setIfInBounds_toArray, List.set_cons_zero, List.set_cons_succ]
            refine rg_one (i := 10) (oi := ?op10) ?ap10 ?bp10 ?cp10 ?dp10
            case ap10 => (simp only [List.getElem?_toArray, List.getElem?_cons_succ, List.getElem?_cons_zero]; rfl)
            case bp10 => kernel_rfl
            case cp10 => rfl
            intro K hK
            (refine wp_appI _ _ _ rfl ZB (hzn _ ((Kp.refl No w24).drew.alloc (.cells #[.int .i64 (-7), .int .i64 (-7), .int .i64 (-7), .int .i64 (-7), .int .i64 (-7)] 3))) mm (.slice A8 mm c8) rfl (HINT.out.no ((Kp.refl No w24).drew.alloc (.cells #[.int .i64 (-7), .int .i64 (-7), .int .i64 (-7), .int .i64 (-7), .int .i64 (-7)] 3))) w24.heap.size 5 5 rfl [-7, -7, -7, -7, -7] (Bk.new' rfl rfl) rfl (by decide) (by have := HMM.out; omega) ?_; intro v25 w25 hv' hiz'; obtain ⟨A9, c9, rfl⟩ := hv'.slice)
            refine rg_use hK (sk _ (((Kp.refl No w24).drew.alloc (.cells #[.int .i64 (-7), .int .i64 (-7), .int .i64 (-7), .int .i64 (-7), .int .i64 (-7)] 3)).of_no.then_ hiz'.kp fun i hi m => by obtain ⟨_, cs', hb'⟩ := m; exact ⟨cs', by have h1 := ((Kp.refl No w24).drew.alloc (.cells #[.int .i64 (-7), .int .i64 (-7), .int .i64 (-7), .int .i64 (-7), .int .i64 (-7)] 3)).block i hi (fun m => m); show w24.heap[i]? = _; rw [← h1]; exact hb'⟩)) (fun hF => ?_)
            clear hK K
            try simp only [Act.put, List.setIfInBounds_toArray, List.set_cons_zero, List.set_cons_succ]
            refine rg_one (i := 11) (oi := ?op11) ?ap11 ?bp11 ?cp11 ?dp11
            case ap11 => (simp only [List.getElem?_toArray, List.getElem?_cons_succ, List.getElem?_cons_zero]; rfl)
            case bp11 => kernel_rfl
            case cp11 => rfl
            intro K hK
            go_simp
            refine rg_use hK hF (fun hF => ?_)
            clear hK K
            try simp only [Act.put, List.setIfInBounds_toArray, List.set_cons_zero, List.set_cons_succ]
            refine rg_take (i := 12) (v := ?vp12) (by simp only [List.getElem?_toArray, List.getElem?_cons_succ, List.getElem?_cons_zero]; rfl) (by kernel_rfl) (by exact fun _ _ _ h => h) (by rfl) ?rp12 hF ?sp12
            case rp12 => (intro W hW; clear hW; go_simp; try with_reducible rfl)
            try simp only [Act.put, List.setIfInBounds_toArray, List.set_cons_zero, List.set_cons_succ]
            refine rg_one (i := 13) (oi := ?op13) ?ap13 ?bp13 ?cp13 ?dp13
            case ap13 => (simp only [List.getElem?_toArray, List.getElem?_cons_succ, List.getElem?_cons_zero]; rfl)
            case bp13 => kernel_rfl
            case cp13 => rfl
            intro K hK
            (have q4 := (hiz'.bk (HBG.out.no ((Kp.refl No w24).drew.alloc (.cells #[.int .i64 (-7), .int .i64 (-7), .int .i64 (-7), .int .i64 (-7), .int .i64 (-7)] 3))) (by decide)); have q4c : w25.cell? ⟨g, j * 6 + 4, none⟩ = some (.slice A8 mm c8) := hF.2; have q4f := q4.frozen (j * 6 + 4); go_simp)
            refine hK _ _ (fun h => absurd rfl h) ?_
            clear hK K
            try simp only [Act.put, List.setIfInBounds_toArray, List.set_cons_zero, List.set_cons_succ]
            refine rg_done (by kernel_rfl) ?_
            have HIV := Lib.hid hv'; have HIZ := Lib.hid hiz'
            have hzz := HIZ.out.kp
            have K25 : Kp ZB w24 w25 := ((Kp.refl No w24).drew.alloc (.cells #[.int .i64 (-7), .int .i64 (-7), .int .i64 (-7), .int .i64 (-7), .int .i64 (-7)] 3)).of_no.then_ HIZ.out.kp fun i hi m => m.1
            have s25 := ((HS1.out.no ((Kp.refl No w24).drew.alloc (.cells #[.int .i64 (-7), .int .i64 (-7), .int .i64 (-7), .int .i64 (-7), .int .i64 (-7)] 3))).iz HIZ.out (by decide))
            have hjn := HLT.out
            have hb25 := HIZ.out.bk (HBG.out.no ((Kp.refl No w24).drew.alloc (.cells #[.int .i64 (-7), .int .i64 (-7), .int .i64 (-7), .int .i64 (-7), .int .i64 (-7)] 3))) (by decide)
            have hq25 := HIZ.out.bk (HB2.out.no ((Kp.refl No w24).drew.alloc (.cells #[.int .i64 (-7), .int .i64 (-7), .int .i64 (-7), .int .i64 (-7), .int .i64 (-7)] 3))) (by decide)
            have kg := (Kp.refl (One g) w25).set (.inl (One.self _)) (j * 6 + 4) (.slice A9 (mm + 5) c9)
            have HS9' := Lib.hid (s25.set_ (j * 6 + 4) (.slice A9 (mm + 5) c9) (j + 1) (by decide) (by omega) (by omega) (fun a b => by omega))
            have HB9' := Lib.hid (hq25.kp kg fun m => HNE.out m.symm)
            have HK9' := Lib.hid ((HK3.out.then_ K25 fun i hi m => m).then_ kg fun i hi e => by have h1 : i = g := e; rw [h1]; exact HZ.out)
            have hnb := HLX6.out
            clear hzz K25 s25 hjn hb25 hq25 kg hF hzn sk hv' hiz'
            go_wp2
            go_roundw
            case rel => exact ⟨j + 1, HLT.out, by go_num, HS9'.out, HB9'.out, HK9'.out⟩
            case measure => have := HLT.out; simp [intOf]; omega
          · have hk1 : ¬ (j : Int) < (nx : Int) := by omega
            clear hlt
            have hoo := HOO.out
            have hzb : ∀ k, ZB k → ¬ S k ∧ W.heap.size ≤ k := fun k h => by
              have h1 := (HZB.out k).1 h
              refine ⟨fun h2 => ?_, h1.1⟩
              have h3 := (HSS.out k).1 h2
              omega
            have HRESTB := Lib.hid (HREST.out.keep H3.out hzb)
            have HODB := Lib.hid (HOD.out.keep HZD17.out H3.out fun k m h => by have h1 := (HZB.out k).1 m; have h2 : s3 ≤ k ∧ k < s4 := h; omega)
            have HSZB := Lib.hid (Nat.le_trans HSZ.out H3.out.size)
            obtain ⟨xrow, hxr, hxzz, _⟩ := H1.out
            have HXR := Lib.hid hxr; have HXZZ := Lib.hid hxzz
            obtain ⟨ZC, hZC⟩ : ∃ Z : Nat → Prop, Z = fun k => W.heap.size ≤ k ∧ (s3 ≤ k ∧ k < s4 ∨ s9 ≤ k) := ⟨_, rfl⟩
            have HZC := Lib.hid (show ∀ k, ZC k ↔ (W.heap.size ≤ k ∧ (s3 ≤ k ∧ k < s4 ∨ s9 ≤ k)) from fun k => by rw [hZC])
            have HDZ := Lib.hid (show StZ wr 32 12 5 ZC 4 0 dl1.length (.slice Ad dl1.length cd) by
              have hz : ∀ k, s3 ≤ k ∧ k < s4 → ZC k := fun k h => (HZC.out k).2 ⟨by omega, .inl h⟩
              exact StZ.of_rs HODB.out (fun g e => hz g (HZD17.out.1 g e)) fun p hp => ⟨dump_st4 (b := bk n k t l) (by rw [← HGD.out]; exact List.mem_map_of_mem hp), fun g e => hz g ((HZD17.out.2 p hp).1 g e)⟩)
            have HND := Lib.hid (show dl1.length ≤ 8 by have := dump_len8 (bk n k t l); rw [← HGD.out, List.length_map] at this; exact this)
            have HBX := Lib.hid H2.out
            clear hoo hzb hxr hxzz hZC H1 H2 H3 HREST HOD HZD17 HXZ HX HSZ HODB
            generalize dl1.length = nd at HDZ HND ⊢
            generalize hwb : wr = wb at *
            clear hwb
            go_wp2
            go_loopw [150] (fun i wr => ∃ j : Nat, j ≤ nd ∧ i = .int .i64 j ∧ StZ wr 32 12 5 ZC 4 j nd (.slice Ad nd cd) ∧ Bk wr q8 25 [.int .i64 b'.next, .int .i64 b'.boots, .int .i64 b'.longest, .slice Ax nx cx] ∧ wr.ownsRow 0 30 6 (.slice Ax nx cx) nx xrow ∧ Kp ZC wb wr) (fun i _ => nd - (intOf i).toNat)
            case atStart => exact ⟨0, Nat.zero_le _, rfl, HDZ.out, HBX.out, HXR.out, Kp.refl _ _⟩
            case round =>
              obtain ⟨j, hj, rfl, h1, h2, h4, h3⟩ := hrel
              have H1 := Lib.hid h1; have H2 := Lib.hid h2; have H3 := Lib.hid h3; have H4 := Lib.hid h4
              clear h1 h2 h3 h4
              by_cases hlt : j < nd
              · have hk0 : (0 : Int) ≤ (j : Int) := by omega
                have hk1 : (j : Int) < (nd : Int) := by omega
                obtain ⟨g, cap, cs, u, mm, e, hb, hz, hcells, hu, hmm, hint⟩ := H1.out.at_ hlt (by decide)
                injection e with e _ e2
                subst e e2
                obtain ⟨A7, c7, rfl, hmx⟩ := hint.len
                have pw := wipe_any (.slice A7 mm c7) mm (-8) ZC wr hint
                have HZ := Lib.hid hz
                have HLT := Lib.hid hlt
                clear hb hz hcells hmm hint hmx hlt
                go_wp2_with fail
                refine pw.mono ?_
                rintro e w23 ⟨rfl, hiz⟩
                have h1 := H1.out.iz hiz (by decide)
                have h2 := hiz.bk H2.out (by decide)
                have h3 := H3.out.then_ hiz.kp fun i hi m => m.1
                have h4 := own_iz H4.out hiz (by decide)
                obtain ⟨g', cap, cs, u, mm, e, hb, _, hcells, hu5, hmm, hint⟩ := h1.at_ HLT.out (by decide)
                injection e with e _ e2
                injection e with e
                injection e with e _ _
                subst e e2
                obtain ⟨A8, c8, rfl, hmx⟩ := hint.len
                have HS1 := Lib.hid h1; have HB2 := Lib.hid h2; have HK3 := Lib.hid h3; have HX4 := Lib.hid h4
                have HBG := Lib.hid hb; have HINT := Lib.hid hint; have HMM := Lib.hid hmm
                obtain ⟨b9, q9⟩ := hcells 9 (by decide)
                have hal : Kp No w23 (w23.alloc (.cells #[.int .i64 (-7), .int .i64 (-7), .int .i64 (-7), .int .i64 (-7), .int .i64 (-7)] 3)) := (Kp.refl No w23).alloc _
                have HAL := Lib.hid hal
                have hzn : ∀ k, (w23.alloc (.cells #[.int .i64 (-7), .int .i64 (-7), .int .i64 (-7), .int .i64 (-7), .int .i64 (-7)] 3)).heap.size ≤ k → ZC k := fun k h => (HZC.out k).2 (by
                  have h1 := HK3.out.size; have h2 := hal.size; have h3 := HSZB.out; have h4 := HOO.out
                  exact ⟨by omega, .inr (by omega)⟩)
                have HZN := Lib.hid hzn
                have HQ9 := Lib.hid q9
                clear h1 h2 h3 h4 hb hcells pw hiz hu hint hmm hmx hal hzn q9
                go_upto_region 37 with (at_builtin; go_must (refine wpList_appI _ rfl _ _ rfl ZC HZN.out mm (.slice A8 mm c8) rfl (HINT.out.no HAL.out) w23.heap.size 5 5 rfl [-7, -7, -7, -7, -7] (Bk.new' rfl rfl) rfl (by decide) (by have := HMM.out; omega) ?_); intro v25 w25 hv' hiz'; obtain ⟨A9, c9, rfl⟩ := hv'.slice; have hb25 := hiz'.bk (HBG.out.no HAL.out) (by decide); have hu25 : w25.cell? ⟨g, j * 12 + 5, none⟩ = some (.slice A8 mm c8) := (hqcsh HBG.out hb25 (j * 12 + 5)).trans hu5; have f5 := hb25.frozen (j * 12 + 5))
                have hjn := HLT.out
                have hbs := hb25.set_ (j * 12 + 5) (.slice A9 (mm + 5) c9)
                have q9 : (w25.setCell ⟨g, j * 12 + 5, none⟩ (.slice A9 (mm + 5) c9)).cell? ⟨g, j * 12 + 9, none⟩ = some b9 := by
                  rw [hbs.cell, List.getElem?_set_ne (by omega), ← hb25.cell, hqcsh HBG.out hb25]; exact HQ9.out
                have s25 := (HS1.out.no HAL.out).iz hiz' (by decide)
                have s26 := s25.set_ (j * 12 + 5) (.slice A9 (mm + 5) c9) (j + 1) (by decide) (by omega) (by omega) (fun a b => by omega)
                have x25 := own_iz (own_kp HX4.out HAL.out fun _ _ q => q) hiz' (by decide)
                have kg := (Kp.refl (One g) w25).set (.inl (One.self _)) (j * 12 + 5) (.slice A9 (mm + 5) c9)
                have q25 := hiz'.bk (HB2.out.no HAL.out) (by decide)
                have q26 := q25.kp kg fun m => q25.ne_ hb25 (by decide) m
                have x26 := own_kp x25 kg fun j' e m => own_ne x25 hb25 (by decide) (by rw [e, show j' = g from m])
                have K26 := (((HK3.out.trans HAL.out.of_no).then_ hiz'.kp fun i hi m => m.1).then_ kg fun i hi e => by have h1 : i = g := e; rw [h1]; exact HZ.out)
                clear hv' hiz' hu25 f5 s25 x25 kg q25 hb25 hu5
                generalize w25.setCell ⟨g, j * 12 + 5, none⟩ (.slice A9 (mm + 5) c9) = w26 at *
                have f9 := hbs.frozen (j * 12 + 9)
                have kg := (Kp.refl (One g) w26).set (.inl (One.self _)) (j * 12 + 9) (.int .i64 (-9))
                have HS9' := Lib.hid (s26.set_ (j * 12 + 9) (.int .i64 (-9)) (j + 1) (by decide) (by omega) (by omega) (fun a b => by omega))
                have HB9' := Lib.hid (q26.kp kg fun m => q26.ne_ hbs (by decide) m)
                have HX9' := Lib.hid (own_kp x26 kg fun j' e m => own_ne x26 hbs (by decide) (by rw [e, show j' = g from m]))
                have HK9' := Lib.hid (K26.then_ kg fun i hi e => by have h1 : i = g := e; rw [h1]; exact HZ.out)
                have hnb := HND.out
                clear hjn hbs s26 q26 x26 K26 kg
                go_wp2
                go_roundw
                case rel => exact ⟨j + 1, HLT.out, by go_num, HS9'.out, HB9'.out, HX9'.out, HK9'.out⟩
                case measure => have := HLT.out; simp [intOf]; omega
              · have hk1 : ¬ (j : Int) < (nd : Int) := by omega
                clear hlt
                have hoo := HOO.out
                have hzc : ∀ k, ZC k → ¬ S k ∧ W.heap.size ≤ k := fun k h => by
                  have h1 := (HZC.out k).1 h
                  refine ⟨fun h2 => ?_, h1.1⟩
                  have h3 := (HSS.out k).1 h2
                  omega
                have HZBS := Lib.hid (show ∀ k, ZB k → ¬ S k ∧ W.heap.size ≤ k from fun k h => by
                  have h1 := (HZB.out k).1 h
                  refine ⟨fun h2 => ?_, h1.1⟩
                  have h3 := (HSS.out k).1 h2
                  omega)
                have HZCS := Lib.hid hzc
                have HRC := Lib.hid (HRESTB.out.keep H3.out hzc)
                have HSC := Lib.hid (Nat.le_trans HSZB.out H3.out.size)
                have HQS := Lib.hid (show ¬ S q8 ∧ W.heap.size ≤ q8 by
                  have h1 := HZQ8s.out
                  refine ⟨fun h2 => ?_, by omega⟩
                  have h3 := (HSS.out q8).1 h2
                  omega)
                have HZBN := Lib.hid (show ∀ k, s9 ≤ k → ZB k ∧ ZC k from fun k h => ⟨(HZB.out k).2 ⟨by omega, .inr h⟩, (HZC.out k).2 ⟨by omega, .inr h⟩⟩)
                obtain ⟨drow, hdr, hdz, _⟩ := H1.out
                have HDR := Lib.hid hdr; have HDZZ := Lib.hid hdz; have HBX2 := Lib.hid H2.out; have HXR2 := Lib.hid H4.out
                clear hoo hzc hdr hdz H1 H2 H3 H4 HRESTB HSZB HXR HBX HDZ
                generalize hwb2 : wr = wd at *
                clear hwb2
                go_wp2
                go_loopw [20, 12] (fun i d wr => ∃ (a : Nat) (A' : Option Addr) (c' : Nat) (xs ds : List Value), a ≤ 9 ∧ i = .int .i64 a ∧ Bk wr q8 25 [.int .i64 b'.next, .int .i64 b'.boots, .int .i64 b'.longest, .slice A' (nx + a) c'] ∧ wr.ownsRow 0 30 6 (.slice A' (nx + a) c') (nx + a) xs ∧ (∀ g, (Value.slice A' (nx + a) c').ownBlock = some g → ZB g) ∧ wr.ownsRow 0 32 12 d (nd + a) ds ∧ (∀ g, d.ownBlock = some g → ZC g) ∧ Rest W S q10 q14 b' (dumpB (bk n k t l)) Ay ly cy Aw lw cw (.slice Ak kl.length ck) kl (.slice Au ul.length cu) ul wr ∧ s9 ≤ wr.heap.size) (fun i _ _ => 9 - (intOf i).toNat)
                case atStart => exact ⟨0, Ax, cx, xrow, drow, Nat.zero_le _, rfl, HBX2.out, HXR2.out, HXZZ.out, HDR.out, HDZZ.out, HRC.out, HSC.out⟩
                case round =>
                  obtain ⟨a, A', c', xs, ds, ha, rfl, h1, h2, h3, h4, h5, h6, h7⟩ := hrel
                  have H1 := Lib.hid h1; have H2 := Lib.hid h2; have H3 := Lib.hid h3; have H4 := Lib.hid h4; have H5 := Lib.hid h5; have H6 := Lib.hid h6; have H7 := Lib.hid h7
                  obtain ⟨Ad', cd', rfl, _⟩ := own_len h4
                  clear h1 h2 h3 h4 h5 h6 h7
                  by_cases hlt : a < 9
                  · have hk1 : (a : Int) < 9 := by omega
                    have HLT := Lib.hid hlt
                    have hnx := HLX6.out; have hnd := HND.out
                    clear hlt
                    have y3 : wr.cell? ⟨q8, 3, none⟩ = some (.slice A' (nx + a) c') := H1.out.cell 3
                    have hal : Kp No wr (wr.alloc (.cells #[.int .i64 0, .int .i64 0, .string ⟨#[]⟩, .int .i64 0, .slice none 0 0, .int .i64 0] 30)) := (Kp.refl No wr).alloc _
                    have HAL := Lib.hid hal
                    generalize hna : nx + a = na at *
                    go_upto_region 43 with (at_builtin; go_must (refine wpList_app1 _ rfl _ _ 23 rfl 0 30 _ 6 72 Try.underlying23 Try.infoGr rfl (by omega) _ na xs rfl (H2.out.alloc _) _ _ _ rfl (Bk.new' rfl rfl : Bk _ _ _ [.int .i64 0, .int .i64 0, .string ⟨#[]⟩, .int .i64 0, .slice none 0 0, .int .i64 0]) rfl (by simp [Value.oneCell']) (by omega) (by omega) (Nat.zero_le _) ?_); intro g5 cap5 w5' hown5 hk5 hat5; have hq5' := (H1.out.no HAL.out).kp hk5 (own_ne H2.out H1.out (by decide)); have y3' : w5'.cell? ⟨q8, 3, none⟩ = some (.slice A' na c') := hq5'.cell 3; have f3' := hq5'.frozen 3)
                    have kq := (Kp.refl (One q8) w5').set (.inl (One.self q8)) 3 (.slice (some ⟨g5, 0, none⟩) (na + 1) cap5)
                    have HB6 := Lib.hid (hq5'.set_ 3 (.slice (some ⟨g5, 0, none⟩) (na + 1) cap5))
                    have HX6 := Lib.hid (own_kp hown5 kq fun j e m => own_ne hown5 hq5' (by decide) (by rw [e, show j = q8 from m]))
                    have hzg : ZB g5 := by
                      rcases hat5 with e | e
                      · exact H3.out g5 e
                      · have h1 := H7.out; have h2 := hal.size
                        exact (HZBN.out g5 (by omega)).1
                    have HXZ6 := Lib.hid (show ∀ g, (Value.slice (some ⟨g5, 0, none⟩) (na + 1) cap5).ownBlock = some g → ZB g from fun g e => by
                      have : g5 = g := by simpa [Value.ownBlock] using e
                      rw [← this]; exact hzg)
                    have hd5 := own_kp (own_kp H4.out HAL.out fun _ _ q => q) hk5 (own_apart H4.out H2.out (by decide))
                    have HD6 := Lib.hid (own_kp hd5 kq fun j e m => own_ne hd5 hq5' (by decide) (by rw [e, show j = q8 from m]))
                    have HR6 := Lib.hid (((H6.out.no HAL.out).keep hk5 fun k m => HZBS.out k (H3.out k m)).keep kq fun k m => by rw [show k = q8 from m]; exact HQS.out)
                    have HS6 := Lib.hid (show s9 ≤ (w5'.setCell ⟨q8, 3, none⟩ (.slice (some ⟨g5, 0, none⟩) (na + 1) cap5)).heap.size from Nat.le_trans H7.out (Nat.le_trans hal.size (Nat.le_trans hk5.size kq.size)))
                    clear kq hzg hd5 hq5' y3' f3' hown5 hk5 hat5 hal y3 H1 H2 H3 H4 H6 H7 HAL
                    generalize w5'.setCell ⟨q8, 3, none⟩ (.slice (some ⟨g5, 0, none⟩) (na + 1) cap5) = w6' at *
                    have hal : Kp No w6' (w6'.alloc (.cells #[.int .i64 0, .int .i64 0, .int .i64 0, .string ⟨#[]⟩, .int .i64 0, .slice none 0 0, .int .i64 0, .int .i64 0, .slice none 0 0, .int .i64 0, .int .i64 0, .int .i64 0] 32)) := (Kp.refl No w6').alloc _
                    have HAL := Lib.hid hal
                    go_upto_region 41 with (at_builtin; go_must (refine wpList_app1 _ rfl _ _ 43 rfl 0 32 _ 12 136 Try.underlying43 Try.infoRc rfl (by omega) _ (nd + a) ds rfl (HD6.out.alloc _) _ _ _ rfl (Bk.new' rfl rfl : Bk _ _ _ [.int .i64 0, .int .i64 0, .int .i64 0, .string ⟨#[]⟩, .int .i64 0, .slice none 0 0, .int .i64 0, .int .i64 0, .slice none 0 0, .int .i64 0, .int .i64 0, .int .i64 0]) rfl (by simp [Value.oneCell']) (by omega) (by omega) (Nat.zero_le _) ?_); intro g7 cap7 w7' hown7 hk7 hat7)
                    have HB7 := Lib.hid ((HB6.out.no HAL.out).kp hk7 (own_ne HD6.out HB6.out (by decide)))
                    have HX7' := Lib.hid (own_kp (own_kp HX6.out HAL.out fun _ _ q => q) hk7 (own_apart HX6.out HD6.out (by decide)))
                    have hzg : ZC g7 := by
                      rcases hat7 with e | e
                      · exact H5.out g7 e
                      · have h1 := HS6.out; have h2 := hal.size
                        exact (HZBN.out g7 (by omega)).2
                    have HDZ7 := Lib.hid (show ∀ g, (Value.slice (some ⟨g7, 0, none⟩) (nd + a + 1) cap7).ownBlock = some g → ZC g from fun g e => by
                      have : g7 = g := by simpa [Value.ownBlock] using e
                      rw [← this]; exact hzg)
                    have HD7 := Lib.hid hown7
                    have HR7 := Lib.hid ((HR6.out.no HAL.out).keep hk7 fun k m => HZCS.out k (H5.out k m))
                    have HS7 := Lib.hid (show s9 ≤ w7'.heap.size from Nat.le_trans HS6.out (Nat.le_trans hal.size hk7.size))
                    have HNA := Lib.hid hna
                    clear hzg hown7 hk7 hat7 hal HAL hna hnx hnd
                    go_wp2
                    go_roundw
                    case rel =>
                      have e := HNA.out
                      have e1 : nx + (a + 1) = na + 1 := by rw [← Nat.add_assoc, e]
                      have e2 : nd + (a + 1) = nd + a + 1 := rfl
                      refine ⟨a + 1, some ⟨g5, 0, none⟩, cap5, ?xs, ?ds, HLT.out, ?_, ?_, ?_, ?_, ?_, ?_, ?_, ?_⟩
                      rotate_left 2
                      · go_num
                      · rw [e1]; exact HB7.out
                      · rw [e1]; exact HX7'.out
                      · rw [e1]; exact HXZ6.out
                      · rw [e2]; exact HD7.out
                      · exact HDZ7.out
                      · exact HR7.out
                      · exact HS7.out
                    case measure => have := HLT.out; simp [intOf]; omega
                  · have hk1 : ¬ (a : Int) < 9 := by omega
                    clear hlt
                    have HRF := Lib.hid H6.out
                    clear H1 H2 H3 H4 H5 H6 H7 HBX2 HXR2 HXZZ HDR HDZZ HRC HSC HZBS HZCS HZBN HQS HND HLX6
                    have y0 := HRF.out.yb.cell 0; have y1 := HRF.out.yb.cell 1; have y2 := HRF.out.yb.cell 2; have y3 := HRF.out.yb.cell 3
                    have z0 := HRF.out.wb.cell 0; have z1 := HRF.out.wb.cell 1; have z2 := HRF.out.wb.cell 2; have z3 := HRF.out.wb.cell 3
                    simp only [List.getElem?_cons_zero, List.getElem?_cons_succ] at y0 y1 y2 y3 z0 z1 z2 z3
                    have ps := rsameB_any b'.next b'.boots b'.longest b'.next b'.boots b'.longest (.slice Ay ly.length cy) (.slice Aw lw.length cw) ly lw wr HRF.out.yo.arg HRF.out.wo.arg (small_sh HLY.out) (small_sh HLW.out)
                    rw [decide_eq_true (by rw [bk_of HRF.out.yg, bk_of HRF.out.wg])] at ps
                    have hll : ul.length = kl.length := by have := congrArg List.length (HRF.out.ue.trans HRF.out.ke.symm); simpa using this
                    have HLL := Lib.hid hll.symm
                    rw [hll]
                    clear hll
                    go_wp2_with fail
                    refine ps.mono ?_
                    rintro e we ⟨rfl, kwe⟩
                    have HE := Lib.hid (HRF.out.no kwe)
                    clear ps kwe y0 y1 y2 y3 z0 z1 z2 z3 HRF
                    have hl8 : kl.length ≤ 8 := by have := dump_len8 (bk n k t l); rw [← HE.out.ke, List.length_map] at this; exact this
                    have HSH3 := Lib.hid (show ∀ p ∈ kl, ShG maxLen p.1.grant ∧ p.1.stamp.length ≤ maxLen from fun p hp => dump_sh (by rw [← HE.out.ke]; exact List.mem_map_of_mem hp))
                    have HSH4 := Lib.hid (show ∀ p ∈ ul, ShG maxLen p.1.grant ∧ p.1.stamp.length ≤ maxLen from fun p hp => dump_sh (by rw [← HE.out.ue]; exact List.mem_map_of_mem hp))
                    go_wp2
                    go_loopw [205] (fun i wr => ∃ j : Nat, j ≤ kl.length ∧ i = .int .i64 j ∧ Kp No we wr) (fun i _ => kl.length - (intOf i).toNat)
                    case atStart => exact ⟨0, Nat.zero_le _, rfl, Kp.refl _ _⟩
                    case round =>
                      obtain ⟨j, hj, rfl, hk⟩ := hrel
                      have HK := Lib.hid hk
                      clear hk
                      by_cases hlt : j < kl.length
                      · have hk0 : (0 : Int) ≤ (j : Int) := by omega
                        have hk1 : (j : Int) < (kl.length : Int) := by omega
                        have hlt4 : j < ul.length := by rw [← HLL.out]; exact hlt
                        have ho3 := HE.out.ko.no HK.out; have ho4 := HE.out.uo.no HK.out
                        obtain ⟨g1, d1, e1, _, hc1⟩ := ho3.cells hlt
                        obtain ⟨g2, d2, e2, _, hc2⟩ := ho4.cells hlt4
                        injection e1 with e1 _ e1'
                        injection e2 with e2 _ e2'
                        subst e1 e2 e1' e2'
                        have heq : kl[j].1 = ul[j].1 := by
                          have h1 : (kl.map (·.1))[j]? = (ul.map (·.1))[j]? := by rw [HE.out.ke, HE.out.ue]
                          rw [List.getElem?_map, List.getElem?_map, List.getElem?_eq_getElem hlt, List.getElem?_eq_getElem hlt4] at h1
                          simpa using h1
                        obtain ⟨a1, a2⟩ := rcd_rec_of ho3 hlt
                        obtain ⟨b1, b2⟩ := rcd_rec_of ho4 hlt4
                        obtain ⟨s1', s2'⟩ := HSH3.out _ (List.getElem_mem hlt)
                        obtain ⟨s3', s4'⟩ := HSH4.out _ (List.getElem_mem hlt4)
                        obtain ⟨C1, hC1⟩ : ∃ C, C = rP kl[j] := ⟨_, rfl⟩
                        obtain ⟨C2, hC2⟩ : ∃ C, C = rP ul[j] := ⟨_, rfl⟩
                        have HC1 := Lib.hid (show ∀ W2, Kp No wr W2 → W2.rangeAt g1 (j * 12) C1 from fun W2 kk => range_kp (fun i u h => by rw [hC1] at h; exact hc1 i u h) kk fun q => q)
                        have HC2 := Lib.hid (show ∀ W2, Kp No wr W2 → W2.rangeAt g2 (j * 12) C2 from fun W2 kk => range_kp (fun i u h => by rw [hC2] at h; exact hc2 i u h) kk fun q => q)
                        have HI1 := Lib.hid (show (Try.prog.info? 32).map (·.size) = some C1.length by rw [hC1]; kernel_rfl)
                        have HI2 := Lib.hid (show (Try.prog.info? 32).map (·.size) = some C2.length by rw [hC2]; kernel_rfl)
                        have HUR := Lib.hid Try.underlying32
                        have ps : ∀ W2, Kp No wr W2 → Calls Try.prog 27 #[.agg C1.toArray, .agg C2.toArray] W2 fun e w' => e = .returned (.bool true) ∧ Kp No wr w' := fun W2 kk => by
                          rw [hC1, hC2]
                          refine (rsameRec_any kl[j].1 ul[j].1 kl[j].2.1 kl[j].2.2 ul[j].2.1 ul[j].2.2 W2 (a1.no kk) (a2.no kk) (b1.no kk) (b2.no kk) s1'.2 s2' s3'.2 s4').mono fun e w' ⟨h1, h2⟩ => ⟨?_, kk.trans h2⟩
                          rw [h1, decide_eq_true heq]
                        have HLT := Lib.hid hlt
                        clear hlt hlt4 ho3 ho4 hc1 hc2 heq a1 a2 b1 b2 s1' s2' s3' s4' hC1 hC2
                        go_upto_region 49 with (fail)
                        have hF := (Kp.refl No wr).drew
                        refine rg_begin (fun W2 => Kp No wr W2) 10 (by kernel_rfl) ?_
                        refine rg_take (i := 0) (v := ?vq0) (by simp only [List.getElem?_toArray, List.getElem?_cons_zero]; rfl) (by kernel_rfl) (by exact fun _ _ _ h => h) (by rfl) ?rq0 hF ?sq0
                        case rq0 => (intro W hW; clear hW; go_simp; try with_reducible rfl)
                        try simp only [Act.put, List.setIfInBounds_toArray, List.set_cons_zero, List.set_cons_succ]
                        refine rg_take (i := 1) (v := ?vq1) (by simp only [List.getElem?_toArray, List.getElem?_cons_succ, List.getElem?_cons_zero]; rfl) (by kernel_rfl) (by exact fun _ _ _ h => h) (by rfl) ?rq1 hF ?sq1
                        case rq1 => (intro W hW; clear hW; go_simp; try with_reducible rfl)
                        try simp only [Act.put, List.setIfInBounds_toArray, List.set_cons_zero, List.set_cons_succ]
                        refine rg_take (i := 2) (v := ?vq2) (by simp only [List.getElem?_toArray, List.getElem?_cons_succ, List.getElem?_cons_zero]; rfl) (by kernel_rfl) (by exact fun _ _ _ h => h) (by rfl) ?rq2 hF ?sq2
                        case rq2 => (intro W hW; clear hW; go_simp; try with_reducible rfl)
                        try simp only [Act.put, List.setIfInBounds_toArray, List.set_cons_zero, List.set_cons_succ]
                        refine rg_take (i := 3) (v := ?vq3) (by simp only [List.getElem?_toArray, List.getElem?_cons_succ, List.getElem?_cons_zero]; rfl) (by kernel_rfl) (by exact fun _ _ _ h => h) (by rfl) ?rq3 hF ?sq3
                        case rq3 => (intro W9 hW; refine exec_load_mid W9 32 (.tmp 210) ?_ g1 (j * 12) ?_ C1 _ (HC1.out W9 hW) HUR.out ?_ HI1.out; exact rfl; go_simp; exact rfl)
                        try simp only [Act.put, List.setIfInBounds_toArray, List.set_cons_zero, List.set_cons_succ]
                        refine rg_take (i := 4) (v := ?vq4) (by simp only [List.getElem?_toArray, List.getElem?_cons_succ, List.getElem?_cons_zero]; rfl) (by kernel_rfl) (by exact fun _ _ _ h => h) (by rfl) ?rq4 hF ?sq4
                        case rq4 => (intro W hW; clear hW; go_simp; try with_reducible rfl)
                        try simp only [Act.put, List.setIfInBounds_toArray, List.set_cons_zero, List.set_cons_succ]
                        refine rg_take (i := 5) (v := ?vq5) (by simp only [List.getElem?_toArray, List.getElem?_cons_succ, List.getElem?_cons_zero]; rfl) (by kernel_rfl) (by exact fun _ _ _ h => h) (by rfl) ?rq5 hF ?sq5
                        case rq5 => (intro W hW; clear hW; go_simp; try with_reducible rfl)
                        try simp only [Act.put, List.setIfInBounds_toArray, List.set_cons_zero, List.set_cons_succ]
                        refine rg_take (i := 6) (v := ?vq6) (by simp only [List.getElem?_toArray, List.getElem?_cons_succ, List.getElem?_cons_zero]; rfl) (by kernel_rfl) (by exact fun _ _ _ h => h) (by rfl) ?rq6 hF ?sq6
                        case rq6 => (intro W hW; clear hW; go_simp; try with_reducible rfl)
                        try simp only [Act.put, List.setIfInBounds_toArray, List.set_cons_zero, List.set_cons_succ]
                        refine rg_take (i := 7) (v := ?vq7) (by simp only [List.getElem?_toArray, List.getElem?_cons_succ, List.getElem?_cons_zero]; rfl) (by kernel_rfl) (by exact fun _ _ _ h => h) (by rfl) ?rq7 hF ?sq7
                        case rq7 => (intro W9 hW; refine exec_load_mid W9 32 (.tmp 214) ?_ g2 (j * 12) ?_ C2 _ (HC2.out W9 hW) HUR.out ?_ HI2.out; exact rfl; go_simp; exact rfl)
                        try simp only [Act.put, List.setIfInBounds_toArray, List.set_cons_zero, List.set_cons_succ]
                        refine rg_one (i := 8) (oi := ?oq8) ?aq8 ?bq8 ?cq8 ?dq8
                        case aq8 => (simp only [List.getElem?_toArray, List.getElem?_cons_succ, List.getElem?_cons_zero]; rfl)
                        case bq8 => kernel_rfl
                        case cq8 => rfl
                        intro K hK
                        (go_simp; refine (ps _ (Kp.refl No wr).drew).mono ?_; rintro e w6 ⟨rfl, k6⟩)
                        refine rg_use hK (k6) (fun hF => ?_)
                        clear hK K
                        try simp only [Act.put, List.setIfInBounds_toArray, List.set_cons_zero, List.set_cons_succ]
                        refine rg_take (i := 9) (v := ?vq9) (by simp only [List.getElem?_toArray, List.getElem?_cons_succ, List.getElem?_cons_zero]; rfl) (by kernel_rfl) (by exact fun _ _ _ h => h) (by rfl) ?rq9 hF ?sq9
                        case rq9 => (intro W hW; clear hW; go_simp; try with_reducible rfl)
                        try simp only [Act.put, List.setIfInBounds_toArray, List.set_cons_zero, List.set_cons_succ]
                        refine rg_done (by kernel_rfl) ?_
                        have HK6 := Lib.hid (HK.out.trans k6)
                        clear hF ps k6
                        go_wp2
                        go_roundw
                        case rel => exact ⟨j + 1, HLT.out, by go_num, HK6.out⟩
                        case measure => have := HLT.out; simp [intOf]; omega
                      · have hk1 : ¬ (j : Int) < (kl.length : Int) := by omega
                        have HKF := Lib.hid (HE.out.kp.trans HK.out)
                        clear hlt
                        go_wp2
                        go_ret
                        exact ⟨rfl, HKF.out.below (Nat.le_refl _) fun _ _ m => m⟩
/-! ### The row's step -/
set_option maxRecDepth 100000 in
theorem lifted (os : Os) (started : os.Started) (H : Type) (enc : TypeId × Value → H) :
    ReturnsInHanded {} Try.checked os 10 .any (Rows.bookOwnSpec.pre6 enc Try.prog Try.f10 Rows.bookOwnRow.domain false) (Rows.bookOwnSpec.post enc Try.prog Try.f10 false true false false) := by
  refine returnsInHanded_of_change_sized (C := Try.checked) own started (by kernel_rfl) Try.func10
    (ChangeSpec.witness6 (enc := enc) (C := Try.checked) false ⟨#[], #[.agg #[.int .i64 0, .int .i64 0, .int .i64 0, .slice none 0 0], .agg #[.int .i64 0, .int .i64 0, .int .i64 0, .string ⟨#[]⟩, .int .i64 0, .slice none 0 0, .int .i64 0, .int .i64 0, .slice none 0 0, .int .i64 0, .int .i64 0, .int .i64 0]], []⟩ 8 (by kernel_rfl) (by kernel_rfl) (by kernel_rfl) (by kernel_rfl)) ?_
  intro W base args ds gs before hval0 hW hcnd hsz0 _
  have hval : ∀ (j : Nat) t v, Try.f10.params[j]? = some t → args[j]? = some v → Value.okWide Try.prog W .any base t v := hval0
  have hW' := hW
  obtain ⟨p, q, hA0, hV, rfl, hfz, hnd⟩ := hW
  have hA : DataW.TrodAll enc Try.prog W 0 (fun _ => true) true Try.f10.params.toList args.toList ds p := hA0
  rw [Try.params10] at hA hval
  obtain ⟨v0, vs0, d0, ds0, p0, q0, hargs, rfl, rfl, h0, r0⟩ := trodAll_cons hA
  obtain ⟨v1, vs1, d1, ds1, p1, q1, rfl, rfl, rfl, h1, r1⟩ := trodAll_cons r0
  obtain ⟨rfl, rfl, rfl⟩ := trodAll_nil r1
  obtain rfl : args = #[v0, v1] := by cases args; simp_all
  obtain ⟨rfl, rfl⟩ := trodVars_none hV
  have hsz : ∀ (j : Nat) (t : TypeId) (d : DataW H), ([25, 32] : List TypeId)[j]? = some t → [d0, d1][j]? = some d → ∀ n ∈ d.weights Try.prog t, n ≤ reachBytes := by
    intro j t d ht hd n hn
    have hsz1 : (DataW.weightsEach Try.prog ([25, 32] : List TypeId) [d0, d1]).all (· ≤ reachBytes) = true := hsz0
    have := List.all_eq_true.1 hsz1 n (DataW.weights_mem_each ht hd n hn)
    simpa using this
  have k0 := h0
  have lt0 : ∀ x ∈ p0, x.block < W.heap.size := by obtain ⟨m, hm⟩ := k0; exact DataW.trod_lt m _ _ _ hm
  obtain ⟨n0, k0b, t0, s0v, l0, rfl, a0, b0l, b0p, _, _, _⟩ := open_book (hval 0 25 v0 rfl rfl) h0 (hsz 0 25 _ rfl rfl)
  have k1 := h1
  have lt1 : ∀ x ∈ p1, x.block < W.heap.size := by obtain ⟨m, hm⟩ := k1; exact DataW.trod_lt m _ _ _ hm
  obtain ⟨r1r, g1v, r1v, rfl, ag1, ar1, s1⟩ := open_rec (hval 1 32 v1 rfl rfl) h1 (hsz 1 32 _ rfl rfl)
  refine (walk n0 k0b t0 s0v l0 r1r g1v r1v W a0 b0l b0p ag1 ar1 s1).mono fun e W' ⟨he, bel⟩ => ?_
  subst he
  exact ⟨_, rfl, _, _, _, [], _, [], hW', trodAll_mk1 (shut_bool Try.underlying4 _), (trodAll_cons_mk (Below.trod laidOut (by kernel_rfl) (of_decide_eq_true (by kernel_rfl)) k0 bel lt0) (trodAll_cons_mk (Below.trod laidOut (by kernel_rfl) (of_decide_eq_true (by kernel_rfl)) k1 bel lt1) trodAll_mk0)), rfl, bel.frame _, fun h => by cases h⟩

theorem over : Rows.bookOwnRow.holds Try.pinned (OpenSpec.ofChange Rows.bookOwnSpec) :=
  OpenClaim.holds_of_wide 10 Try.f10 rfl rfl rfl rfl rfl rfl rfl ⟨rfl, rfl, rfl, rfl, rfl⟩ rfl rfl rfl rfl rfl (by kernel_rfl) Try.func10 (by kernel_rfl)
    (of_decide_eq_true (by kernel_rfl)) (by unfold Func.isWrapper; first | (rw [if_pos (by decide +kernel)]; kernel_rfl) | (rw [if_neg (by decide +kernel)]; exact ⟨rfl, rfl⟩))
    (fun os started H enc _ => lifted os started H enc)

theorem proved : Rows.BookOwnSaid := over
#print axioms proved
end Go.Proofs.Ytifdceofglocdaa.bookOwn
