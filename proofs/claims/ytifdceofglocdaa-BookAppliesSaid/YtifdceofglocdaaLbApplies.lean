/- BookApplies: Valid, Apply and Same answer what the document says, for every book and record. No condition. -/
import Derived.Test.YtifdceofglocdaaB21
import Derived.Test.YtifdceofglocdaaB31
import Derived.Deep.CutBlock
import Derived.Deep.MidRow
import Derived.ProofKit
import Derived.OpenShut
import Derived.ShutString
import Derived.ChangeOld
import Derived.SizedLaws
import Derived.Below
namespace Go.Proofs.Ytifdceofglocdaa.bookApplies
open Go.ChangeShapes Go.WideShapes Go.ChangeAt Go.RowKit
open Go.ChangeMaps (open_string shut_string)

theorem own : ownKnob Try.prog.godebug = none := by kernel_rfl
theorem laidOut : laidOutB Try.prog = true := by kernel_rfl
set_option maxRecDepth 100000 in
set_option maxHeartbeats 16000000 in
theorem walk (n k t : Int) (sv : Value) (l : List GP) (r : Rcd) (gv rv : Value) (W : World) (hv : ArgG W sv l) (hl : l.length ≤ 1954687338211) (hp : ∀ p ∈ l, ShGin p.1) (hg : ArgInts W gv r.grant.stamp) (hr : ArgInts W rv r.stamp) (hs : ShRin r) :
    Calls Try.prog 4 #[.agg #[.int .i64 n, .int .i64 k, .int .i64 t, sv], .agg (rC r gv rv).toArray] W fun e w' => e = .returned (.bool true) ∧ Below W.heap.size W w' := by
  obtain ⟨A0, c0, rfl, _⟩ := hv.len
  obtain ⟨Ag, cg, rfl, _⟩ := ints_of _ _ _ hg
  obtain ⟨Ar, cr, rfl, _⟩ := ints_of _ _ _ hr
  have HSH := Lib.hid (ShGin.shL hl hp)
  have HST := Lib.hid (show ∀ p ∈ l, p.1.stamp.length ≤ 17592186043904 from fun p q => (hp p q).2)
  have HP63 := Lib.hid (show ∀ p ∈ l, p.1.path.length < 9223372036854775807 from fun p q => by have := (hp p q).1; omega)
  have HL := Lib.hid hl; have HS := Lib.hid hs
  obtain ⟨CB, hCB⟩ : ∃ CB : List Value, CB = [.int .i64 n, .int .i64 k, .int .i64 t, .slice A0 l.length c0] := ⟨_, rfl⟩
  obtain ⟨CR, hCR⟩ : ∃ CR : List Value, CR = rC r (.slice Ag r.grant.stamp.length cg) (.slice Ar r.stamp.length cr) := ⟨_, rfl⟩
  have hbl : CB.length = 4 := by rw [hCB]; rfl
  have hcl : CR.length = 12 := by rw [hCR]; rfl
  have HIB := Lib.hid (show (Try.prog.info? 25).map (·.size) = some CB.length by rw [hbl]; kernel_rfl)
  have HUB := Lib.hid Try.underlying25
  have HIR := Lib.hid (show (Try.prog.info? 32).map (·.size) = some CR.length by rw [hcl]; kernel_rfl)
  have HUR := Lib.hid Try.underlying32
  obtain ⟨w1, hw1⟩ : ∃ w1, w1 = (W.alloc (.cells CB.toArray 25)).alloc (.cells CR.toArray 32) := ⟨_, rfl⟩
  have HB1 := Lib.hid (show Bk w1 W.heap.size 25 CB by rw [hw1]; exact (Bk.new' rfl rfl).alloc _)
  have HR1 := Lib.hid (show Bk w1 (W.heap.size + 1) 32 CR by rw [hw1]; exact Bk.new' (by simp) rfl)
  have HK1 := Lib.hid (show Kp No W w1 by rw [hw1]; exact ((Kp.refl No W).alloc _).alloc _)
  have HW := Lib.hid hw1
  have HCB := Lib.hid hCB; have HCR := Lib.hid hCR
  have pa := awake_any w1
  have HV := Lib.hid hv; have HG := Lib.hid hg; have HR := Lib.hid hr
  obtain ⟨b', hb'⟩ : ∃ b', b' = (applyB (bk n k t l) r).1 := ⟨_, rfl⟩
  obtain ⟨er, her⟩ : ∃ er, er = (applyB (bk n k t l) r).2 := ⟨_, rfl⟩
  have HBE := Lib.hid (And.intro hb' her)
  clear hw1 hbl hcl hv hg hr hl hp hs hb' her
  rw [← hCB, ← hCR]
  clear hCB hCR
  go_enter Try.func4, Try.ntmps4
  go_upto_region 1 with (fail)
  rw [← HW.out]
  clear HW
  go_wp2_with fail
  refine pa.mono ?_
  rintro e w2 ⟨rfl, k2⟩
  have HK2 := Lib.hid (HK1.out.trans k2)
  have HBB := Lib.hid (show ∀ W2, Kp No w2 W2 → Bk W2 W.heap.size 25 CB from fun W2 kk => (HB1.out.no k2).no kk)
  have HRR := Lib.hid (show ∀ W2, Kp No w2 W2 → Bk W2 (W.heap.size + 1) 32 CR from fun W2 kk => (HR1.out.no k2).no kk)
  clear pa k2
  have pb : ∀ W2, Kp No w2 W2 → Calls Try.prog 13 #[.agg CB.toArray] W2 fun e w' => ∃ v, e = .returned v ∧ OwnBk w' w2.heap.size n k t (gsL l) v ∧ Kp No W2 w' := fun W2 kk => by
    rw [HCB.out]
    exact (ownB_any n k t (.slice A0 l.length c0) l W2 (HV.out.no (HK2.out.trans kk)) HL.out HST.out).mono fun e w' ⟨sv, l2, h1, h2, h3, h4⟩ => ⟨_, h1, OwnBk.of h2 (h3.mono kk.size), h4⟩
  have pr : ∀ W2, Kp No w2 W2 → Calls Try.prog 14 #[.agg CR.toArray] W2 fun e w' => ∃ v, e = .returned v ∧ OwnRv w' w2.heap.size r v ∧ Kp No W2 w' := fun W2 kk => by
    rw [HCR.out]
    exact (ownRec_any r (.slice Ag r.grant.stamp.length cg) (.slice Ar r.stamp.length cr) W2 (HG.out.no (HK2.out.trans kk)) (HR.out.no (HK2.out.trans kk)) HS.out.1.2 HS.out.2).mono fun e w' ⟨gv, rv, h1, h2, h3, h4⟩ => ⟨_, h1, OwnRv.of (own_mono h2 kk.size) (own_mono h3 kk.size), h4⟩
  have pap : ∀ W2, Kp No w2 W2 → ∀ v1 v2, OwnBk W2 w2.heap.size n k t (gsL l) v1 → OwnRv W2 w2.heap.size r v2 → Calls Try.prog 12 #[v1, v2] W2 fun e w' => ∃ v, e = .returned v ∧ OwnAp w' w2.heap.size b' er v ∧ Kp No W2 w' := by
    rintro W2 kk v1 v2 ⟨A1, l1, c1, rfl, g1, o1⟩ ⟨A2, c2, A3, c3, rfl, o2, o3⟩
    refine (apply_any n k t (.slice A1 l1.length c1) l1 r (.slice A2 r.grant.stamp.length c2) (.slice A3 r.stamp.length c3) W2 o1.arg (shL_gs HSH.out g1) (own_argI o2) (own_argI o3) HS.out.1.sh (by have := HS.out.2; unfold maxLen; omega)).mono ?_
    rintro e w' ⟨s8, l8, h1, h2, h3, h4⟩
    obtain ⟨A8, c8, rfl⟩ := h3.slice
    rw [bk_gs g1, ← HBE.out.1] at h1 h2
    rw [← HBE.out.2] at h1
    exact ⟨_, h1, ⟨A8, l8, c8, rfl, h2, h3.mono kk.size⟩, h4⟩
  go_upto_region 3 with (fail)
  refine rg_all [0, 1, 2, 3, 4, 5, 6, 7, 8, 9, 10] (by rfl) ?fr ?hfr (fun j x w => match j with | 0 => (x 0 = .agg CB.toArray) | 1 => (OwnBk w w2.heap.size n k t (gsL l) (x 1)) | 2 => (x 2 = .agg CR.toArray) | 3 => (OwnRv w w2.heap.size r (x 3)) | 4 => (OwnAp w w2.heap.size b' er (x 4)) | 5 => (OwnAp w w2.heap.size b' er (x 5)) | 6 => (OwnBk w w2.heap.size b'.next b'.boots b'.longest b'.grants (x 6)) | 7 => (x 7 = .int .i64 er) | 8 => (NewBk w w2.heap.size 25 4 (x 8)) | 9 => (BokAt w w2.heap.size b' (x 8)) | 10 => (x 10 = .int .i64 er) | _ => True) (fun w => Kp No w2 w) (fun i w w' => if i = 9 then StB w2.heap.size 25 4 w w' else Kp No w w') (by kernel_rfl) (by kernel_rfl) ?hF ?mono ?step ?hend
  case hfr =>
    intro x
    simp only [puts, dstOf, List.getElem?_toArray, List.getElem?_cons_succ, List.getElem?_cons_zero, Option.bind_some, Act.put, List.setIfInBounds_toArray, List.set_cons_zero, List.set_cons_succ]
    exact rfl
  case hF =>
    exact (Kp.refl No w2).drew
  case mono =>
    intro i j x v w w' hij hca hr hp
    match j, hij, hca, hp with
    | 0, hij, hca, hp =>
      replace hp : x 0 = .agg CB.toArray := hp
      (have e : upd x i v 0 = x 0 := upd_ne x v hij; exact e.trans hp)
    | 1, hij, hca, hp =>
      replace hp : OwnBk w w2.heap.size n k t (gsL l) (x 1) := hp
      (show OwnBk w' w2.heap.size n k t (gsL l) (upd x i v 1); rw [upd_ne x v hij]; by_cases h9 : i = 9; (subst h9; have hr2 : StB w2.heap.size 25 4 w w' := hr; obtain ⟨g, cs, cs', h1, h2, _, _, h5⟩ := hr2; exact hp.far h5 h2 (by decide) (by decide)); (have hr2 : Kp No w w' := (by simpa [h9] using hr); exact hp.no hr2))
    | 2, hij, hca, hp =>
      replace hp : x 2 = .agg CR.toArray := hp
      (have e : upd x i v 2 = x 2 := upd_ne x v hij; exact e.trans hp)
    | 3, hij, hca, hp =>
      replace hp : OwnRv w w2.heap.size r (x 3) := hp
      (show OwnRv w' w2.heap.size r (upd x i v 3); rw [upd_ne x v hij]; by_cases h9 : i = 9; (subst h9; have hr2 : StB w2.heap.size 25 4 w w' := hr; obtain ⟨g, cs, cs', h1, h2, _, _, h5⟩ := hr2; exact hp.far h5 h2 (by decide)); (have hr2 : Kp No w w' := (by simpa [h9] using hr); exact hp.no hr2))
    | 4, hij, hca, hp =>
      replace hp : OwnAp w w2.heap.size b' er (x 4) := hp
      (show OwnAp w' w2.heap.size b' er (upd x i v 4); rw [upd_ne x v hij]; by_cases h9 : i = 9; (subst h9; have hr2 : StB w2.heap.size 25 4 w w' := hr; obtain ⟨g, cs, cs', h1, h2, _, _, h5⟩ := hr2; exact hp.far h5 h2 (by decide) (by decide)); (have hr2 : Kp No w w' := (by simpa [h9] using hr); exact hp.no hr2))
    | 5, hij, hca, hp =>
      replace hp : OwnAp w w2.heap.size b' er (x 5) := hp
      (show OwnAp w' w2.heap.size b' er (upd x i v 5); rw [upd_ne x v hij]; by_cases h9 : i = 9; (subst h9; have hr2 : StB w2.heap.size 25 4 w w' := hr; obtain ⟨g, cs, cs', h1, h2, _, _, h5⟩ := hr2; exact hp.far h5 h2 (by decide) (by decide)); (have hr2 : Kp No w w' := (by simpa [h9] using hr); exact hp.no hr2))
    | 6, hij, hca, hp =>
      replace hp : OwnBk w w2.heap.size b'.next b'.boots b'.longest b'.grants (x 6) := hp
      (show OwnBk w' w2.heap.size b'.next b'.boots b'.longest b'.grants (upd x i v 6); rw [upd_ne x v hij]; by_cases h9 : i = 9; (subst h9; have hr2 : StB w2.heap.size 25 4 w w' := hr; obtain ⟨g, cs, cs', h1, h2, _, _, h5⟩ := hr2; exact hp.far h5 h2 (by decide) (by decide)); (have hr2 : Kp No w w' := (by simpa [h9] using hr); exact hp.no hr2))
    | 7, hij, hca, hp =>
      replace hp : x 7 = .int .i64 er := hp
      (have e : upd x i v 7 = x 7 := upd_ne x v hij; exact e.trans hp)
    | 8, hij, hca, hp =>
      replace hp : NewBk w w2.heap.size 25 4 (x 8) := hp
      (show NewBk w' w2.heap.size 25 4 (upd x i v 8); rw [upd_ne x v hij]; by_cases h9 : i = 9; (subst h9; have hr2 : StB w2.heap.size 25 4 w w' := hr; exact hp.st hr2); (have hr2 : Kp No w w' := (by simpa [h9] using hr); exact hp.no hr2))
    | 9, hij, hca, hp =>
      replace hp : BokAt w w2.heap.size b' (x 8) := hp
      have h8 : i ≠ 8 := fun e => by subst e; revert hca; decide +kernel
      show BokAt w' w2.heap.size b' (upd x i v 8)
      rw [upd_ne x v h8]
      have hr2 : Kp No w w' := by simpa [show i ≠ 9 from hij] using hr
      exact hp.no hr2
    | 10, hij, hca, hp =>
      replace hp : x 10 = .int .i64 er := hp
      (have e : upd x i v 10 = x 10 := upd_ne x v hij; exact e.trans hp)
    | _ + 11, _, _, _ => trivial
  case step =>
    intro i oi hi x w K hf hd hK
    have hil := (Array.getElem?_eq_some_iff.1 hi).1
    match i, hil, hi, hd, hK with
    | 0, _, hi, hd, hK =>
      simp only [List.getElem?_toArray, List.getElem?_cons_zero, Option.some.injEq] at hi
      subst hi
      refine ro_do rfl (by rfl) ?_
      (refine wp_load_mid 25 _ rfl W.heap.size 0 ?_ CB _ (bk_range (HBB.out _ hf)) HUB.out rfl HIB.out ?_; exact rfl)
      refine hK _ (.agg CB.toArray) _ ?_ ?_ ?_ ?_
      · simp [upd, Act.put]
      · exact upd_same x 0 _
      · exact hf
      · exact Kp.refl No _
    | 1, _, hi, hd, hK =>
      have d0 : x 0 = .agg CB.toArray := hd 0 (by kernel_rfl)
      simp only [List.getElem?_toArray, List.getElem?_cons_succ, List.getElem?_cons_zero, Option.some.injEq] at hi
      subst hi
      simp only [d0]
      refine ro_do rfl (by rfl) ?_
      (go_simp; refine (pb _ hf).mono ?_; rintro e w2 ⟨v2, rfl, hv2, k2⟩)
      refine hK _ (v2) _ ?_ ?_ ?_ ?_
      · simp [upd, d0]
      · (show OwnBk _ _ _ _ _ _ (upd x 1 v2 1); rw [upd_same]; exact hv2)
      · exact hf.trans k2
      · exact k2
    | 2, _, hi, hd, hK =>
      simp only [List.getElem?_toArray, List.getElem?_cons_succ, List.getElem?_cons_zero, Option.some.injEq] at hi
      subst hi
      refine ro_do rfl (by rfl) ?_
      (refine wp_load_mid 32 _ rfl (W.heap.size + 1) 0 ?_ CR _ (bk_range (HRR.out _ hf)) HUR.out rfl HIR.out ?_; exact rfl)
      refine hK _ (.agg CR.toArray) _ ?_ ?_ ?_ ?_
      · simp [upd, Act.put]
      · exact upd_same x 2 _
      · exact hf
      · exact Kp.refl No _
    | 3, _, hi, hd, hK =>
      have d1 : OwnBk w w2.heap.size n k t (gsL l) (x 1) := hd 1 (by kernel_rfl)
      have d2 : x 2 = .agg CR.toArray := hd 2 (by kernel_rfl)
      simp only [List.getElem?_toArray, List.getElem?_cons_succ, List.getElem?_cons_zero, Option.some.injEq] at hi
      subst hi
      simp only [d2]
      refine ro_do rfl (by rfl) ?_
      (go_simp; refine (pr _ hf).mono ?_; rintro e w2 ⟨v2, rfl, hv2, k2⟩)
      refine hK _ (v2) _ ?_ ?_ ?_ ?_
      · simp [upd, d2]
      · (show OwnRv _ _ _ (upd x 3 v2 3); rw [upd_same]; exact hv2)
      · exact hf.trans k2
      · exact k2
    | 4, _, hi, hd, hK =>
      have d1 : OwnBk w w2.heap.size n k t (gsL l) (x 1) := hd 1 (by kernel_rfl)
      have d3 : OwnRv w w2.heap.size r (x 3) := hd 3 (by kernel_rfl)
      simp only [List.getElem?_toArray, List.getElem?_cons_succ, List.getElem?_cons_zero, Option.some.injEq] at hi
      subst hi
      refine ro_do rfl (by rfl) ?_
      (go_simp; refine (pap _ hf _ _ d1 d3).mono ?_; rintro e w2 ⟨v2, rfl, hv2, k2⟩)
      refine hK _ (v2) _ ?_ ?_ ?_ ?_
      · simp [upd]
      · (show OwnAp _ _ _ _ (upd x 4 v2 4); rw [upd_same]; exact hv2)
      · exact hf.trans k2
      · exact k2
    | 5, _, hi, hd, hK =>
      have d4 : OwnAp w w2.heap.size b' er (x 4) := hd 4 (by kernel_rfl)
      simp only [List.getElem?_toArray, List.getElem?_cons_succ, List.getElem?_cons_zero, Option.some.injEq] at hi
      subst hi
      refine ro_do rfl (by rfl) ?_
      go_simp
      refine hK _ (x 4) _ ?_ ?_ ?_ ?_
      · simp [upd]
      · (show OwnAp _ _ _ _ (upd x 5 (x 4) 5); rw [upd_same]; exact d4)
      · exact hf
      · exact Kp.refl No _
    | 6, _, hi, hd, hK =>
      have d5 : OwnAp w w2.heap.size b' er (x 5) := hd 5 (by kernel_rfl)
      obtain ⟨A5, l5, c5, e5, g5, o5⟩ := d5
      simp only [List.getElem?_toArray, List.getElem?_cons_succ, List.getElem?_cons_zero, Option.some.injEq] at hi
      subst hi
      refine ro_do rfl (by rfl) ?_
      (simp only [e5]; go_simp)
      refine hK _ (.agg #[.int .i64 b'.next, .int .i64 b'.boots, .int .i64 b'.longest, .slice A5 l5.length c5]) _ ?_ ?_ ?_ ?_
      · simp [upd, e5]
      · (show OwnBk _ _ _ _ _ _ (upd x 6 _ 6); rw [upd_same]; exact ⟨_, _, _, rfl, g5, o5⟩)
      · exact hf
      · exact Kp.refl No _
    | 7, _, hi, hd, hK =>
      have d5 : OwnAp w w2.heap.size b' er (x 5) := hd 5 (by kernel_rfl)
      obtain ⟨A5, l5, c5, e5, g5, o5⟩ := d5
      simp only [List.getElem?_toArray, List.getElem?_cons_succ, List.getElem?_cons_zero, Option.some.injEq] at hi
      subst hi
      refine ro_do rfl (by rfl) ?_
      (simp only [e5]; go_simp)
      refine hK _ (.int .i64 er) _ ?_ ?_ ?_ ?_
      · simp [upd, e5]
      · exact upd_same x 7 _
      · exact hf
      · exact Kp.refl No _
    | 8, _, hi, hd, hK =>
      simp only [List.getElem?_toArray, List.getElem?_cons_succ, List.getElem?_cons_zero, Option.some.injEq] at hi
      subst hi
      refine ro_do rfl (by rfl) ?_
      go_simp
      refine hK _ (.pointer (some ⟨w.heap.size, 0, none⟩)) _ ?_ ?_ ?_ ?_
      · simp [upd]
      · (show NewBk _ _ _ _ (upd x 8 _ 8); rw [upd_same]; exact ⟨_, _, rfl, hf.size, Bk.new' rfl rfl, rfl⟩)
      · exact hf.alloc _
      · exact (Kp.refl No w).alloc _
    | 9, _, hi, hd, hK =>
      have d0 : x 0 = .agg CB.toArray := hd 0 (by kernel_rfl)
      have d1 : OwnBk w w2.heap.size n k t (gsL l) (x 1) := hd 1 (by kernel_rfl)
      have d2 : x 2 = .agg CR.toArray := hd 2 (by kernel_rfl)
      have d3 : OwnRv w w2.heap.size r (x 3) := hd 3 (by kernel_rfl)
      have d4 : OwnAp w w2.heap.size b' er (x 4) := hd 4 (by kernel_rfl)
      have d5 : OwnAp w w2.heap.size b' er (x 5) := hd 5 (by kernel_rfl)
      have d6 : OwnBk w w2.heap.size b'.next b'.boots b'.longest b'.grants (x 6) := hd 6 (by kernel_rfl)
      have d8 : NewBk w w2.heap.size 25 4 (x 8) := hd 8 (by kernel_rfl)
      obtain ⟨g8, cs8, e8, b8, h8, n8⟩ := d8
      obtain ⟨c0, c1, c2, c3, rfl⟩ := list4 n8
      obtain ⟨A6, l6, c6, e6, g6, o6⟩ := d6
      have y0 := h8.cell 0; have y1 := h8.cell 1; have y2 := h8.cell 2; have y3 := h8.cell 3
      simp only [List.getElem?_cons_zero, List.getElem?_cons_succ] at y0 y1 y2 y3
      have f0 := h8.frozen 0; have f1 := h8.frozen 1; have f2 := h8.frozen 2; have f3 := h8.frozen 3
      have B9 := ((((h8.set_ 0 (.int .i64 b'.next)).set_ 1 (.int .i64 b'.boots)).set_ 2 (.int .i64 b'.longest)).set_ 3 (.slice A6 l6.length c6))
      have K9 := (((((Kp.refl (One g8) w).set (.inl (One.self g8)) 0 (.int .i64 b'.next)).set (.inl (One.self g8)) 1 (.int .i64 b'.boots)).set (.inl (One.self g8)) 2 (.int .i64 b'.longest)).set (.inl (One.self g8)) 3 (.slice A6 l6.length c6))
      simp only [List.getElem?_toArray, List.getElem?_cons_succ, List.getElem?_cons_zero, Option.some.injEq] at hi
      subst hi
      refine ro_do rfl (by rfl) ?_
      (simp only [e8, e6]; go_simp)
      refine hK _ (undef) _ ?_ ?_ ?_ ?_
      · simp [upd, e8, e6, d0, d2]
      · exact ⟨g8, A6, l6, c6, (upd_ne x _ (by decide)).trans e8, b8, B9, g6, o6.far K9 h8 (by decide) (by decide)⟩
      · exact hf.then_ K9 fun j hj e => by have h1 : j = g8 := e; omega
      · exact (show StB _ _ _ _ _ from ⟨g8, _, _, b8, h8, B9, rfl, K9⟩)
    | 10, _, hi, hd, hK =>
      have d0 : x 0 = .agg CB.toArray := hd 0 (by kernel_rfl)
      have d1 : OwnBk w w2.heap.size n k t (gsL l) (x 1) := hd 1 (by kernel_rfl)
      have d2 : x 2 = .agg CR.toArray := hd 2 (by kernel_rfl)
      have d3 : OwnRv w w2.heap.size r (x 3) := hd 3 (by kernel_rfl)
      have d4 : OwnAp w w2.heap.size b' er (x 4) := hd 4 (by kernel_rfl)
      have d5 : OwnAp w w2.heap.size b' er (x 5) := hd 5 (by kernel_rfl)
      have d6 : OwnBk w w2.heap.size b'.next b'.boots b'.longest b'.grants (x 6) := hd 6 (by kernel_rfl)
      have d7 : x 7 = .int .i64 er := hd 7 (by kernel_rfl)
      have d8 : NewBk w w2.heap.size 25 4 (x 8) := hd 8 (by kernel_rfl)
      have d9 : BokAt w w2.heap.size b' (x 8) := hd 9 (by kernel_rfl)
      simp only [List.getElem?_toArray, List.getElem?_cons_succ, List.getElem?_cons_zero, Option.some.injEq] at hi
      subst hi
      refine ro_do rfl (by rfl) ?_
      (simp only [d7]; go_simp)
      refine hK _ (.int .i64 er) _ ?_ ?_ ?_ ?_
      · simp [upd, d7, d0, d2]
      · exact upd_same x 10 _
      · exact hf
      · exact Kp.refl No _
    | k + 11, hil, _, _, _ => exact absurd hil (by simp)
  intro x w hf hp
  have p0 : x 0 = .agg CB.toArray := hp 0 (by decide)
  have p1 : OwnBk w w2.heap.size n k t (gsL l) (x 1) := hp 1 (by decide)
  have p2 : x 2 = .agg CR.toArray := hp 2 (by decide)
  have p3 : OwnRv w w2.heap.size r (x 3) := hp 3 (by decide)
  have p4 : OwnAp w w2.heap.size b' er (x 4) := hp 4 (by decide)
  have p5 : OwnAp w w2.heap.size b' er (x 5) := hp 5 (by decide)
  have p6 : OwnBk w w2.heap.size b'.next b'.boots b'.longest b'.grants (x 6) := hp 6 (by decide)
  have p7 : x 7 = .int .i64 er := hp 7 (by decide)
  have p8 : NewBk w w2.heap.size 25 4 (x 8) := hp 8 (by decide)
  have p9 : BokAt w w2.heap.size b' (x 8) := hp 9 (by decide)
  have p10 : x 10 = .int .i64 er := hp 10 (by decide)
  clear hp
  obtain ⟨q8, A8, l8, c8, e8, b8, h8, g8, o8⟩ := p9
  simp only [e8, p10]
  have HK3 := Lib.hid hf
  have HC3 := Lib.hid h8; have HO3 := Lib.hid o8; have HG8 := Lib.hid g8; have HQ8 := Lib.hid b8
  have HB3 := Lib.hid (HBB.out _ hf); have HR3 := Lib.hid (HRR.out _ hf)
  clear p0 p1 p2 p3 p4 p5 p6 p7 p8 p10 e8 b8 h8 g8 o8 hf pb pr pap HBB HRR
  have par := rapply_any n k t (.slice A0 l.length c0) l r (.slice Ag r.grant.stamp.length cg) (.slice Ar r.stamp.length cr) w (HV.out.no (HK2.out.trans HK3.out)) HSH.out HP63.out (HG.out.no (HK2.out.trans HK3.out)) (HR.out.no (HK2.out.trans HK3.out)) HS.out.1.sh (by have := HS.out.2; unfold maxLen; omega) (by have := HS.out.1.1; omega)
  rw [← HCB.out, ← HCR.out] at par
  go_wp2_with (first | (with_reducible refine wpList_load_mid rfl _ _ rfl W.heap.size 0 rfl CB _ (bk_range HB3.out) HUB.out rfl HIB.out ?_) | (with_reducible refine wpList_load_mid rfl _ _ rfl (W.heap.size + 1) 0 rfl CR _ (bk_range HR3.out) HUR.out rfl HIR.out ?_) | fail)
  refine par.mono ?_
  rintro e w4 ⟨s9, l9, rfl, g9, o9, k9⟩
  obtain ⟨A9, c9, rfl⟩ := o9.slice
  rw [← HBE.out.1, ← HBE.out.2]
  rw [← HBE.out.1] at g9
  obtain ⟨q9, hq9⟩ : ∃ q9, q9 = w4.heap.size := ⟨_, rfl⟩
  obtain ⟨w5, hw5⟩ : ∃ w5, w5 = w4.alloc (.cells #[.int .i64 b'.next, .int .i64 b'.boots, .int .i64 b'.longest, .slice A9 l9.length c9] 25) := ⟨_, rfl⟩
  have kal : Kp No w4 w5 := by rw [hw5]; exact (Kp.refl No w4).alloc _
  obtain ⟨CW, hCW⟩ : ∃ C : List Value, C = [.int .i64 b'.next, .int .i64 b'.boots, .int .i64 b'.longest, .slice A9 l9.length c9] := ⟨_, rfl⟩
  obtain ⟨CC, hCC⟩ : ∃ C : List Value, C = [.int .i64 b'.next, .int .i64 b'.boots, .int .i64 b'.longest, .slice A8 l8.length c8] := ⟨_, rfl⟩
  have HK45 := Lib.hid (show Kp No w w5 from k9.trans kal)
  have HW5 := Lib.hid (show Bk w5 q9 25 CW by rw [hw5, hq9, hCW]; exact Bk.new' rfl rfl)
  have HC5 := Lib.hid (show Bk w5 q8 25 CC by rw [hCC]; exact HC3.out.no HK45.out)
  have HB5 := Lib.hid (HB3.out.no HK45.out)
  have HO8 := Lib.hid (HO3.out.no HK45.out); have HO9 := Lib.hid (o9.no kal); have HG9 := Lib.hid g9
  have HIW := Lib.hid (show (Try.prog.info? 25).map (·.size) = some CW.length by rw [hCW]; kernel_rfl)
  have HIC := Lib.hid (show (Try.prog.info? 25).map (·.size) = some CC.length by rw [hCC]; kernel_rfl)
  have HK5 := Lib.hid ((HK2.out.trans HK3.out).trans HK45.out)
  have HWW := Lib.hid hw5; have HQ9 := Lib.hid hq9
  clear par g9 o9 k9 kal hw5 hq9
  go_upto_region 5 with (fail)
  rw [← HWW.out, ← HQ9.out]
  clear HWW HQ9
  have hm8 := apply_small (b := bk n k t l) (r := r) (m := l8) (by rw [← HBE.out.1]; exact HG8.out)
  have hm9 := apply_small (b := bk n k t l) (r := r) (m := l9) (by rw [← HBE.out.1]; exact HG9.out)
  have HS8 := Lib.hid (small_sh hm8); have HS9 := Lib.hid (small_sh hm9)
  have HLS := Lib.hid (show l8.length ≤ 1954687338211 ∧ ∀ p ∈ l8, p.1.stamp.length ≤ 17592186043904 from ⟨by omega, fun p hp => by have := (hm8.2 p hp).1; omega⟩)
  clear hm8 hm9
  have ps1 : ∀ W2, Kp No w5 W2 → Calls Try.prog 16 #[.agg CC.toArray, .agg CW.toArray] W2 fun e w' => e = .returned (.bool true) ∧ Kp No w5 w' := fun W2 kk => by
    rw [hCC, hCW]
    refine (rsameB_any b'.next b'.boots b'.longest b'.next b'.boots b'.longest (.slice A8 l8.length c8) (.slice A9 l9.length c9) l8 l9 W2 (HO8.out.no kk).arg (HO9.out.no kk).arg HS8.out HS9.out).mono fun e w' ⟨h1, h2⟩ => ⟨?_, kk.trans h2⟩
    rw [h1, decide_eq_true]
    rw [bk_of HG8.out, bk_of HG9.out]
  have po : ∀ W2, Kp No w5 W2 → Calls Try.prog 13 #[.agg CB.toArray] W2 fun e w' => ∃ v, e = .returned v ∧ OwnBk w' w5.heap.size n k t (gsL l) v ∧ Kp No w5 w' := fun W2 kk => by
    rw [HCB.out]
    exact (ownB_any n k t (.slice A0 l.length c0) l W2 (HV.out.no (HK5.out.trans kk)) HL.out HST.out).mono fun e w' ⟨sv, l2, h1, h2, h3, h4⟩ => ⟨_, h1, OwnBk.of h2 (h3.mono kk.size), kk.trans h4⟩
  have pc : ∀ W2, Kp No w5 W2 → Calls Try.prog 13 #[.agg CC.toArray] W2 fun e w' => ∃ v, e = .returned v ∧ OwnBk w' w5.heap.size b'.next b'.boots b'.longest b'.grants v ∧ Kp No w5 w' ∧ Kp No W2 w' := fun W2 kk => by
    rw [hCC]
    exact (ownB_any b'.next b'.boots b'.longest (.slice A8 l8.length c8) l8 W2 (HO8.out.no kk).arg HLS.out.1 HLS.out.2).mono fun e w' ⟨sv, l2, h1, h2, h3, h4⟩ => ⟨_, h1, OwnBk.of (h2.trans HG8.out) (h3.mono kk.size), kk.trans h4, h4⟩
  have pv1 : ∀ W2 v, Kp No w5 W2 → OwnBk W2 w5.heap.size n k t (gsL l) v → Calls Try.prog 17 #[v] W2 fun e w' => e = .returned (.bool (decide (validB (bk n k t l)))) ∧ Kp No w5 w' := by
    rintro W2 v kk ⟨A1, l1, c1, rfl, g1, o1⟩
    exact (bvalid_any n k t (.slice A1 l1.length c1) l1 W2 o1.arg (shL_gs HSH.out g1)).mono fun e w' ⟨h1, h2⟩ => ⟨by rw [h1, bk_gs g1], kk.trans h2⟩
  have pv2 : ∀ W2, Kp No w5 W2 → Calls Try.prog 18 #[.agg CB.toArray] W2 fun e w' => e = .returned (.bool (decide (validB (bk n k t l)))) ∧ Kp No w5 w' := fun W2 kk => by
    rw [HCB.out]
    exact (rbvalid_any n k t (.slice A0 l.length c0) l W2 (HV.out.no (HK5.out.trans kk)) HSH.out HP63.out).mono fun e w' ⟨h1, h2⟩ => ⟨h1, kk.trans h2⟩
  have ps2 : ∀ W2 W1 v u, Kp No w5 W2 → OwnBk W1 w5.heap.size n k t (gsL l) v → Kp No W1 W2 → OwnBk W2 w5.heap.size b'.next b'.boots b'.longest b'.grants u → Calls Try.prog 19 #[v, u] W2 fun e w' => e = .returned (.bool (decide (bk n k t l = b'))) ∧ Kp No w5 w' := by
    rintro W2 W1 v u kk ⟨A1, l1, c1, rfl, g1, o1⟩ k1 ⟨A2, l2, c2, rfl, g2, o2⟩
    refine (sameB_any n k t b'.next b'.boots b'.longest (.slice A1 l1.length c1) (.slice A2 l2.length c2) l1 l2 W2 (o1.no k1).arg o2.arg (shL_gs HSH.out g1) (shL_gs HS8.out (g2.trans HG8.out.symm))).mono fun e w' ⟨h1, h2⟩ => ⟨?_, kk.trans h2⟩
    rw [h1, bk_gs g1, bk_of g2]
  have ps3 : ∀ W2, Kp No w5 W2 → Calls Try.prog 16 #[.agg CB.toArray, .agg CC.toArray] W2 fun e w' => e = .returned (.bool (decide (bk n k t l = b'))) ∧ Kp No w5 w' := fun W2 kk => by
    rw [hCC, HCB.out]
    refine (rsameB_any n k t b'.next b'.boots b'.longest (.slice A0 l.length c0) (.slice A8 l8.length c8) l l8 W2 (HV.out.no (HK5.out.trans kk)) (HO8.out.no kk).arg HSH.out HS8.out).mono fun e w' ⟨h1, h2⟩ => ⟨?_, kk.trans h2⟩
    rw [h1, bk_of HG8.out]
  clear hCC hCW
  generalize decide (validB (bk n k t l)) = dv at pv1 pv2
  generalize decide (bk n k t l = b') = ds at ps2 ps3
  have hF := (Kp.refl No w5).drew
  refine rg_begin (fun W2 => Kp No w5 W2) 28 (by kernel_rfl) ?_
  refine rg_take (i := 0) (v := ?vp0) (by simp only [List.getElem?_toArray, List.getElem?_cons_zero]; rfl) (by kernel_rfl) (by exact fun _ _ _ h => h) (by rfl) ?rp0 hF ?sp0
  case rp0 => (intro W9 hW; refine exec_load_mid W9 25 (.tmp 5) ?_ q8 0 ?_ CC _ (bk_range (HC5.out.no hW)) HUB.out ?_ HIC.out; exact rfl; exact rfl; exact rfl)
  try simp only [Act.put, List.setIfInBounds_toArray, List.set_cons_zero, List.set_cons_succ]
  refine rg_take (i := 1) (v := ?vp1) (by simp only [List.getElem?_toArray, List.getElem?_cons_succ, List.getElem?_cons_zero]; rfl) (by kernel_rfl) (by exact fun _ _ _ h => h) (by rfl) ?rp1 hF ?sp1
  case rp1 => (intro W9 hW; refine exec_load_mid W9 25 (.tmp 7) ?_ q9 0 ?_ CW _ (bk_range (HW5.out.no hW)) HUB.out ?_ HIW.out; exact rfl; exact rfl; exact rfl)
  try simp only [Act.put, List.setIfInBounds_toArray, List.set_cons_zero, List.set_cons_succ]
  refine rg_one (i := 2) (oi := ?op2) ?ap2 ?bp2 ?cp2 ?dp2
  case ap2 => (simp only [List.getElem?_toArray, List.getElem?_cons_succ, List.getElem?_cons_zero]; rfl)
  case bp2 => kernel_rfl
  case cp2 => rfl
  intro K hK
  (go_simp; refine (ps1 _ (Kp.refl No w5).drew).mono ?_; rintro e w6 ⟨rfl, k6⟩)
  refine rg_use hK (k6) (fun hF => ?_)
  clear hK K
  try simp only [Act.put, List.setIfInBounds_toArray, List.set_cons_zero, List.set_cons_succ]
  refine rg_take (i := 3) (v := ?vp3) (by simp only [List.getElem?_toArray, List.getElem?_cons_succ, List.getElem?_cons_zero]; rfl) (by kernel_rfl) (by exact fun _ _ _ h => h) (by rfl) ?rp3 hF ?sp3
  case rp3 => (intro W hW; clear hW; go_simp; try with_reducible rfl)
  try simp only [Act.put, List.setIfInBounds_toArray, List.set_cons_zero, List.set_cons_succ]
  refine rg_take (i := 4) (v := ?vp4) (by simp only [List.getElem?_toArray, List.getElem?_cons_succ, List.getElem?_cons_zero]; rfl) (by kernel_rfl) (by exact fun _ _ _ h => h) (by rfl) ?rp4 hF ?sp4
  case rp4 => (intro W hW; clear hW; go_simp; try with_reducible rfl)
  try simp only [Act.put, List.setIfInBounds_toArray, List.set_cons_zero, List.set_cons_succ]
  refine rg_take (i := 5) (v := ?vp5) (by simp only [List.getElem?_toArray, List.getElem?_cons_succ, List.getElem?_cons_zero]; rfl) (by kernel_rfl) (by exact fun _ _ _ h => h) (by rfl) ?rp5 hF ?sp5
  case rp5 => (intro W hW; clear hW; go_simp; try with_reducible rfl)
  try simp only [Act.put, List.setIfInBounds_toArray, List.set_cons_zero, List.set_cons_succ]
  refine rg_take (i := 6) (v := ?vp6) (by simp only [List.getElem?_toArray, List.getElem?_cons_succ, List.getElem?_cons_zero]; rfl) (by kernel_rfl) (by exact fun _ _ _ h => h) (by rfl) ?rp6 hF ?sp6
  case rp6 => (intro W hW; clear hW; go_simp; try with_reducible rfl)
  try simp only [Act.put, List.setIfInBounds_toArray, List.set_cons_zero, List.set_cons_succ]
  refine rg_take (i := 7) (v := ?vp7) (by simp only [List.getElem?_toArray, List.getElem?_cons_succ, List.getElem?_cons_zero]; rfl) (by kernel_rfl) (by exact fun _ _ _ h => h) (by rfl) ?rp7 hF ?sp7
  case rp7 => (intro W hW; clear hW; go_simp; try with_reducible rfl)
  try simp only [Act.put, List.setIfInBounds_toArray, List.set_cons_zero, List.set_cons_succ]
  refine rg_take (i := 8) (v := ?vp8) (by simp only [List.getElem?_toArray, List.getElem?_cons_succ, List.getElem?_cons_zero]; rfl) (by kernel_rfl) (by exact fun _ _ _ h => h) (by rfl) ?rp8 hF ?sp8
  case rp8 => (intro W hW; clear hW; go_simp; try with_reducible rfl)
  try simp only [Act.put, List.setIfInBounds_toArray, List.set_cons_zero, List.set_cons_succ]
  refine rg_take (i := 9) (v := ?vp9) (by simp only [List.getElem?_toArray, List.getElem?_cons_succ, List.getElem?_cons_zero]; rfl) (by kernel_rfl) (by exact fun _ _ _ h => h) (by rfl) ?rp9 hF ?sp9
  case rp9 => (intro W9 hW; refine exec_load_mid W9 25 (.tmp 2) ?_ W.heap.size 0 ?_ CB _ (bk_range (HB5.out.no hW)) HUB.out ?_ HIB.out; exact rfl; exact rfl; exact rfl)
  try simp only [Act.put, List.setIfInBounds_toArray, List.set_cons_zero, List.set_cons_succ]
  refine rg_take (i := 12) (v := ?vp12) (by simp only [List.getElem?_toArray, List.getElem?_cons_succ, List.getElem?_cons_zero]; rfl) (by kernel_rfl) (by exact fun _ _ _ h => h) (by rfl) ?rp12 hF ?sp12
  case rp12 => (intro W9 hW; refine exec_load_mid W9 25 (.tmp 2) ?_ W.heap.size 0 ?_ CB _ (bk_range (HB5.out.no hW)) HUB.out ?_ HIB.out; exact rfl; exact rfl; exact rfl)
  try simp only [Act.put, List.setIfInBounds_toArray, List.set_cons_zero, List.set_cons_succ]
  refine rg_one (i := 10) (oi := ?op10) ?ap10 ?bp10 ?cp10 ?dp10
  case ap10 => (simp only [List.getElem?_toArray, List.getElem?_cons_succ, List.getElem?_cons_zero]; rfl)
  case bp10 => kernel_rfl
  case cp10 => rfl
  intro K hK
  (go_simp; refine (po _ k6).mono ?_; rintro e w7 ⟨v7, rfl, o7, k7⟩)
  refine rg_use hK (k7) (fun hF => ?_)
  clear hK K
  try simp only [Act.put, List.setIfInBounds_toArray, List.set_cons_zero, List.set_cons_succ]
  refine rg_one (i := 11) (oi := ?op11) ?ap11 ?bp11 ?cp11 ?dp11
  case ap11 => (simp only [List.getElem?_toArray, List.getElem?_cons_succ, List.getElem?_cons_zero]; rfl)
  case bp11 => kernel_rfl
  case cp11 => rfl
  intro K hK
  (go_simp; refine (pv1 _ _ k7 o7).mono ?_; rintro e w8 ⟨rfl, k8⟩)
  refine rg_use hK (k8) (fun hF => ?_)
  clear hK K
  try simp only [Act.put, List.setIfInBounds_toArray, List.set_cons_zero, List.set_cons_succ]
  refine rg_one (i := 13) (oi := ?op13) ?ap13 ?bp13 ?cp13 ?dp13
  case ap13 => (simp only [List.getElem?_toArray, List.getElem?_cons_succ, List.getElem?_cons_zero]; rfl)
  case bp13 => kernel_rfl
  case cp13 => rfl
  intro K hK
  (go_simp; refine (pv2 _ k8).mono ?_; rintro e w9 ⟨rfl, k9⟩)
  refine rg_use hK (k9) (fun hF => ?_)
  clear hK K
  try simp only [Act.put, List.setIfInBounds_toArray, List.set_cons_zero, List.set_cons_succ]
  refine rg_take (i := 14) (v := ?vp14) (by simp only [List.getElem?_toArray, List.getElem?_cons_succ, List.getElem?_cons_zero]; rfl) (by kernel_rfl) (by exact fun _ _ _ h => h) (by rfl) ?rp14 hF ?sp14
  case rp14 => (intro W hW; clear hW; go_simp; try with_reducible rfl)
  try simp only [Act.put, List.setIfInBounds_toArray, List.set_cons_zero, List.set_cons_succ]
  refine rg_take (i := 15) (v := ?vp15) (by simp only [List.getElem?_toArray, List.getElem?_cons_succ, List.getElem?_cons_zero]; rfl) (by kernel_rfl) (by exact fun _ _ _ h => h) (by rfl) ?rp15 hF ?sp15
  case rp15 => (intro W hW; clear hW; go_simp; try with_reducible rfl)
  try simp only [Act.put, List.setIfInBounds_toArray, List.set_cons_zero, List.set_cons_succ]
  refine rg_take (i := 16) (v := ?vp16) (by simp only [List.getElem?_toArray, List.getElem?_cons_succ, List.getElem?_cons_zero]; rfl) (by kernel_rfl) (by exact fun _ _ _ h => h) (by rfl) ?rp16 hF ?sp16
  case rp16 => (intro W hW; clear hW; go_simp; try with_reducible rfl)
  try simp only [Act.put, List.setIfInBounds_toArray, List.set_cons_zero, List.set_cons_succ]
  refine rg_take (i := 17) (v := ?vp17) (by simp only [List.getElem?_toArray, List.getElem?_cons_succ, List.getElem?_cons_zero]; rfl) (by kernel_rfl) (by exact fun _ _ _ h => h) (by rfl) ?rp17 hF ?sp17
  case rp17 => (intro W9 hW; refine exec_load_mid W9 25 (.tmp 2) ?_ W.heap.size 0 ?_ CB _ (bk_range (HB5.out.no hW)) HUB.out ?_ HIB.out; exact rfl; exact rfl; exact rfl)
  try simp only [Act.put, List.setIfInBounds_toArray, List.set_cons_zero, List.set_cons_succ]
  refine rg_take (i := 19) (v := ?vp19) (by simp only [List.getElem?_toArray, List.getElem?_cons_succ, List.getElem?_cons_zero]; rfl) (by kernel_rfl) (by exact fun _ _ _ h => h) (by rfl) ?rp19 hF ?sp19
  case rp19 => (intro W9 hW; refine exec_load_mid W9 25 (.tmp 5) ?_ q8 0 ?_ CC _ (bk_range (HC5.out.no hW)) HUB.out ?_ HIC.out; exact rfl; exact rfl; exact rfl)
  try simp only [Act.put, List.setIfInBounds_toArray, List.set_cons_zero, List.set_cons_succ]
  refine rg_take (i := 22) (v := ?vp22) (by simp only [List.getElem?_toArray, List.getElem?_cons_succ, List.getElem?_cons_zero]; rfl) (by kernel_rfl) (by exact fun _ _ _ h => h) (by rfl) ?rp22 hF ?sp22
  case rp22 => (intro W9 hW; refine exec_load_mid W9 25 (.tmp 2) ?_ W.heap.size 0 ?_ CB _ (bk_range (HB5.out.no hW)) HUB.out ?_ HIB.out; exact rfl; exact rfl; exact rfl)
  try simp only [Act.put, List.setIfInBounds_toArray, List.set_cons_zero, List.set_cons_succ]
  refine rg_take (i := 23) (v := ?vp23) (by simp only [List.getElem?_toArray, List.getElem?_cons_succ, List.getElem?_cons_zero]; rfl) (by kernel_rfl) (by exact fun _ _ _ h => h) (by rfl) ?rp23 hF ?sp23
  case rp23 => (intro W9 hW; refine exec_load_mid W9 25 (.tmp 5) ?_ q8 0 ?_ CC _ (bk_range (HC5.out.no hW)) HUB.out ?_ HIC.out; exact rfl; exact rfl; exact rfl)
  try simp only [Act.put, List.setIfInBounds_toArray, List.set_cons_zero, List.set_cons_succ]
  refine rg_one (i := 18) (oi := ?op18) ?ap18 ?bp18 ?cp18 ?dp18
  case ap18 => (simp only [List.getElem?_toArray, List.getElem?_cons_succ, List.getElem?_cons_zero]; rfl)
  case bp18 => kernel_rfl
  case cp18 => rfl
  intro K hK
  (go_simp; refine (po _ k9).mono ?_; rintro e w10 ⟨v10, rfl, o10, k10⟩)
  refine rg_use hK (k10) (fun hF => ?_)
  clear hK K
  try simp only [Act.put, List.setIfInBounds_toArray, List.set_cons_zero, List.set_cons_succ]
  refine rg_one (i := 20) (oi := ?op20) ?ap20 ?bp20 ?cp20 ?dp20
  case ap20 => (simp only [List.getElem?_toArray, List.getElem?_cons_succ, List.getElem?_cons_zero]; rfl)
  case bp20 => kernel_rfl
  case cp20 => rfl
  intro K hK
  (go_simp; refine (pc _ k10).mono ?_; rintro e w11 ⟨v11, rfl, o11, k11, k11x⟩)
  refine rg_use hK (k11) (fun hF => ?_)
  clear hK K
  try simp only [Act.put, List.setIfInBounds_toArray, List.set_cons_zero, List.set_cons_succ]
  refine rg_one (i := 21) (oi := ?op21) ?ap21 ?bp21 ?cp21 ?dp21
  case ap21 => (simp only [List.getElem?_toArray, List.getElem?_cons_succ, List.getElem?_cons_zero]; rfl)
  case bp21 => kernel_rfl
  case cp21 => rfl
  intro K hK
  (go_simp; refine (ps2 _ _ _ _ k11 o10 k11x o11).mono ?_; rintro e w12 ⟨rfl, k12⟩)
  refine rg_use hK (k12) (fun hF => ?_)
  clear hK K
  try simp only [Act.put, List.setIfInBounds_toArray, List.set_cons_zero, List.set_cons_succ]
  refine rg_one (i := 24) (oi := ?op24) ?ap24 ?bp24 ?cp24 ?dp24
  case ap24 => (simp only [List.getElem?_toArray, List.getElem?_cons_succ, List.getElem?_cons_zero]; rfl)
  case bp24 => kernel_rfl
  case cp24 => rfl
  intro K hK
  (go_simp; refine (ps3 _ k12).mono ?_; rintro e w13 ⟨rfl, k13⟩)
  refine rg_use hK (k13) (fun hF => ?_)
  clear hK K
  try simp only [Act.put, List.setIfInBounds_toArray, List.set_cons_zero, List.set_cons_succ]
  refine rg_take (i := 25) (v := ?vp25) (by simp only [List.getElem?_toArray, List.getElem?_cons_succ, List.getElem?_cons_zero]; rfl) (by kernel_rfl) (by exact fun _ _ _ h => h) (by rfl) ?rp25 hF ?sp25
  case rp25 => (intro W hW; clear hW; go_simp; try with_reducible rfl)
  try simp only [Act.put, List.setIfInBounds_toArray, List.set_cons_zero, List.set_cons_succ]
  refine rg_take (i := 26) (v := ?vp26) (by simp only [List.getElem?_toArray, List.getElem?_cons_succ, List.getElem?_cons_zero]; rfl) (by kernel_rfl) (by exact fun _ _ _ h => h) (by rfl) ?rp26 hF ?sp26
  case rp26 => (intro W hW; clear hW; go_simp; try with_reducible rfl)
  try simp only [Act.put, List.setIfInBounds_toArray, List.set_cons_zero, List.set_cons_succ]
  refine rg_take (i := 27) (v := ?vp27) (by simp only [List.getElem?_toArray, List.getElem?_cons_succ, List.getElem?_cons_zero]; rfl) (by kernel_rfl) (by exact fun _ _ _ h => h) (by rfl) ?rp27 hF ?sp27
  case rp27 => (intro W hW; clear hW; go_simp; try with_reducible rfl)
  try simp only [Act.put, List.setIfInBounds_toArray, List.set_cons_zero, List.set_cons_succ]
  refine rg_done (by kernel_rfl) ?_
  have HKF := Lib.hid (HK5.out.trans k13)
  clear ps1 po pc pv1 pv2 ps2 ps3 k6 k7 k8 k9 k10 k11 k12 k13 o7 o10 o11 hF
  go_wp2
  go_ret
  exact ⟨rfl, HKF.out.below (Nat.le_refl _) fun _ _ m => m⟩
/-! ### The row's step -/
set_option maxRecDepth 100000 in
theorem lifted (os : Os) (started : os.Started) (H : Type) (enc : TypeId × Value → H) :
    ReturnsInHanded {} Try.checked os 4 .any (Rows.bookAppliesSpec.pre6 enc Try.prog Try.f4 Rows.bookAppliesRow.domain false) (Rows.bookAppliesSpec.post enc Try.prog Try.f4 false true false false) := by
  refine returnsInHanded_of_change_sized (C := Try.checked) own started (by kernel_rfl) Try.func4
    (ChangeSpec.witness6 (enc := enc) (C := Try.checked) false ⟨#[], #[.agg #[.int .i64 0, .int .i64 0, .int .i64 0, .slice none 0 0], .agg #[.int .i64 0, .int .i64 0, .int .i64 0, .string ⟨#[]⟩, .int .i64 0, .slice none 0 0, .int .i64 0, .int .i64 0, .slice none 0 0, .int .i64 0, .int .i64 0, .int .i64 0]], []⟩ 8 (by kernel_rfl) (by kernel_rfl) (by kernel_rfl) (by kernel_rfl)) ?_
  intro W base args ds gs before hval0 hW hcnd hsz0 _
  have hval : ∀ (j : Nat) t v, Try.f4.params[j]? = some t → args[j]? = some v → Value.okWide Try.prog W .any base t v := hval0
  have hW' := hW
  obtain ⟨p, q, hA0, hV, rfl, hfz, hnd⟩ := hW
  have hA : DataW.TrodAll enc Try.prog W 0 (fun _ => true) true Try.f4.params.toList args.toList ds p := hA0
  rw [Try.params4] at hA hval
  obtain ⟨v0, vs0, d0, ds0, p0, q0, hargs, rfl, rfl, h0, r0⟩ := trodAll_cons hA
  obtain ⟨v1, vs1, d1, ds1, p1, q1, rfl, rfl, rfl, h1, r1⟩ := trodAll_cons r0
  obtain ⟨rfl, rfl, rfl⟩ := trodAll_nil r1
  obtain rfl : args = #[v0, v1] := by cases args; simp_all
  obtain ⟨rfl, rfl⟩ := trodVars_none hV
  have hsz : ∀ (j : Nat) (t : TypeId) (d : DataW H), ([25, 32] : List TypeId)[j]? = some t → [d0, d1][j]? = some d → ∀ n ∈ d.weights Try.prog t, n ≤ reachBytes := by
    intro j t d ht hd n hn
    have hsz1 : (DataW.weightsEach Try.prog ([25, 32] : List TypeId) [d0, d1]).all (· ≤ reachBytes) = true := hsz0
    have := List.all_eq_true.1 hsz1 n (DataW.weights_mem_each ht hd n hn)
    simpa using this
  have k0 := h0
  have lt0 : ∀ x ∈ p0, x.block < W.heap.size := by obtain ⟨m, hm⟩ := k0; exact DataW.trod_lt m _ _ _ hm
  obtain ⟨n0, k0b, t0, s0v, l0, rfl, a0, b0l, b0p, _, _, _⟩ := open_book (hval 0 25 v0 rfl rfl) h0 (hsz 0 25 _ rfl rfl)
  have k1 := h1
  have lt1 : ∀ x ∈ p1, x.block < W.heap.size := by obtain ⟨m, hm⟩ := k1; exact DataW.trod_lt m _ _ _ hm
  obtain ⟨r1r, g1v, r1v, rfl, ag1, ar1, s1⟩ := open_rec (hval 1 32 v1 rfl rfl) h1 (hsz 1 32 _ rfl rfl)
  refine (walk n0 k0b t0 s0v l0 r1r g1v r1v W a0 b0l b0p ag1 ar1 s1).mono fun e W' ⟨he, bel⟩ => ?_
  subst he
  exact ⟨_, rfl, _, _, _, [], _, [], hW', trodAll_mk1 (shut_bool Try.underlying4 _), (trodAll_cons_mk (Below.trod laidOut (by kernel_rfl) (of_decide_eq_true (by kernel_rfl)) k0 bel lt0) (trodAll_cons_mk (Below.trod laidOut (by kernel_rfl) (of_decide_eq_true (by kernel_rfl)) k1 bel lt1) trodAll_mk0)), rfl, bel.frame _, fun h => by cases h⟩

theorem over : Rows.bookAppliesRow.holds Try.pinned (OpenSpec.ofChange Rows.bookAppliesSpec) :=
  OpenClaim.holds_of_wide 4 Try.f4 rfl rfl rfl rfl rfl rfl rfl ⟨rfl, rfl, rfl, rfl, rfl⟩ rfl rfl rfl rfl rfl (by kernel_rfl) Try.func4 (by kernel_rfl)
    (of_decide_eq_true (by kernel_rfl)) (by unfold Func.isWrapper; first | (rw [if_pos (by decide +kernel)]; kernel_rfl) | (rw [if_neg (by decide +kernel)]; exact ⟨rfl, rfl⟩))
    (fun os started H enc _ => lifted os started H enc)

theorem proved : Rows.BookAppliesSaid := over
#print axioms proved
end Go.Proofs.Ytifdceofglocdaa.bookApplies
