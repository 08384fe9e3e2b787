/- A record with nothing but what its kind uses: the document's used by contract. No condition beyond what each theorem states. -/
import Derived.Test.YtifdceofglocdaaB22
import Derived.Deep.CutBlock
import Derived.Deep.Cut
import Derived.Deep.CutRange
import Derived.Deep.DeepCutAuto
import Derived.Deep.MidRow
namespace Go.Proofs.Ytifdceofglocdaa
open Go Go.RowKit Go.PlainAid

/-- the record with nothing but what its kind uses -/
def usedR (r : Rcd) : Rcd :=
  if r.kind = 1 then { kind := r.kind, next := r.next, boots := r.boots }
  else if r.kind = 2 then { kind := r.kind, longest := r.longest }
  else if r.kind = 3 ∨ r.kind = 4 then { kind := r.kind, grant := r.grant }
  else if r.kind = 5 then { kind := r.kind, id := r.id, stamp := r.stamp }
  else if r.kind = 6 then { kind := r.kind, id := r.id }
  else { kind := r.kind }
theorem usedR_1 {r : Rcd} (h : r.kind = 1) : usedR r = { kind := r.kind, next := r.next, boots := r.boots } := by unfold usedR; rw [if_pos h]
theorem usedR_2 {r : Rcd} (h : r.kind = 2) : usedR r = { kind := r.kind, longest := r.longest } := by unfold usedR; rw [if_neg (by omega), if_pos h]
theorem usedR_3 {r : Rcd} (h : r.kind = 3 ∨ r.kind = 4) : usedR r = { kind := r.kind, grant := r.grant } := by unfold usedR; rw [if_neg (by omega), if_neg (by omega), if_pos h]
theorem usedR_5 {r : Rcd} (h : r.kind = 5) : usedR r = { kind := r.kind, id := r.id, stamp := r.stamp } := by unfold usedR; rw [if_neg (by omega), if_neg (by omega), if_neg (by omega), if_pos h]
theorem usedR_6 {r : Rcd} (h : r.kind = 6) : usedR r = { kind := r.kind, id := r.id } := by unfold usedR; rw [if_neg (by omega), if_neg (by omega), if_neg (by omega), if_neg (by omega), if_pos h]
theorem usedR_0 {r : Rcd} (h : ¬ (r.kind = 1 ∨ r.kind = 2 ∨ r.kind = 3 ∨ r.kind = 4 ∨ r.kind = 5 ∨ r.kind = 6)) : usedR r = { kind := r.kind } := by unfold usedR; rw [if_neg (by omega), if_neg (by omega), if_neg (by omega), if_neg (by omega), if_neg (by omega)]
set_option maxRecDepth 100000 in
set_option maxHeartbeats 8000000 in
theorem used_any (r : Rcd) (gv rv : Value) (W : World) (hg : ArgInts W gv r.grant.stamp) (hr : ArgInts W rv r.stamp) :
    Calls Try.prog 83 #[.agg (rC r gv rv).toArray] W fun e w' => ∃ gv' rv', e = .returned (.agg (rC (usedR r) gv' rv').toArray) ∧ ArgInts W gv' (usedR r).grant.stamp ∧ ArgInts W rv' (usedR r).stamp ∧ Kp No W w' := by
  obtain ⟨Q, hQ⟩ : ∃ Q : Ending → World → Prop, Q = fun e w' => ∃ gv' rv', e = .returned (.agg (rC (usedR r) gv' rv').toArray) ∧ ArgInts W gv' (usedR r).grant.stamp ∧ ArgInts W rv' (usedR r).stamp ∧ Kp No W w' := ⟨_, rfl⟩
  rw [← hQ]
  have HQ := Lib.hid hQ; clear hQ
  obtain ⟨u, hu⟩ : ∃ u, u = usedR r := ⟨_, rfl⟩
  rw [← hu] at HQ
  have HU := Lib.hid hu; clear hu
  obtain ⟨kind, ⟨gid, hol, path, mode, st, term⟩, id, stamp, next, boots, longest⟩ := r
  obtain ⟨A, c, rfl, _⟩ := ints_of _ _ _ hg
  obtain ⟨A2, c2, rfl, _⟩ := ints_of _ _ _ hr
  have HG := Lib.hid (show ArgInts W (.slice A st.length c) st from hg)
  have HR := Lib.hid (show ArgInts W (.slice A2 stamp.length c2) stamp from hr)
  clear hg hr
  have U1 := Lib.hid (usedR_1 (r := ⟨kind, ⟨gid, hol, path, mode, st, term⟩, id, stamp, next, boots, longest⟩)); have U2 := Lib.hid (usedR_2 (r := ⟨kind, ⟨gid, hol, path, mode, st, term⟩, id, stamp, next, boots, longest⟩)); have U3 := Lib.hid (usedR_3 (r := ⟨kind, ⟨gid, hol, path, mode, st, term⟩, id, stamp, next, boots, longest⟩)); have U5 := Lib.hid (usedR_5 (r := ⟨kind, ⟨gid, hol, path, mode, st, term⟩, id, stamp, next, boots, longest⟩)); have U6 := Lib.hid (usedR_6 (r := ⟨kind, ⟨gid, hol, path, mode, st, term⟩, id, stamp, next, boots, longest⟩)); have U0 := Lib.hid (usedR_0 (r := ⟨kind, ⟨gid, hol, path, mode, st, term⟩, id, stamp, next, boots, longest⟩))
  obtain ⟨x2, hx2⟩ : ∃ x2, x2 = W.heap.size + 1 + 1 := ⟨_, rfl⟩
  obtain ⟨w3, hw3⟩ : ∃ w3, w3 = ((W.alloc (.cells #[.int .i64 kind, .int .i64 gid, .int .i64 hol, .string ⟨path.toArray⟩, .int .i64 mode, .slice A st.length c, .int .i64 term, .int .i64 id, .slice A2 stamp.length c2, .int .i64 next, .int .i64 boots, .int .i64 longest] 32)).alloc (.cells #[.int .i64 0, .int .i64 0, .int .i64 0, .string ⟨#[]⟩, .int .i64 0, .slice none 0 0, .int .i64 0, .int .i64 0, .slice none 0 0, .int .i64 0, .int .i64 0, .int .i64 0] 32)).alloc (.cells #[.int .i64 kind, .int .i64 0, .int .i64 0, .string ⟨#[]⟩, .int .i64 0, .slice none 0 0, .int .i64 0, .int .i64 0, .slice none 0 0, .int .i64 0, .int .i64 0, .int .i64 0] 32) := ⟨_, rfl⟩
  have HB0 := Lib.hid (show Bk w3 W.heap.size 32 [.int .i64 kind, .int .i64 gid, .int .i64 hol, .string ⟨path.toArray⟩, .int .i64 mode, .slice A st.length c, .int .i64 term, .int .i64 id, .slice A2 stamp.length c2, .int .i64 next, .int .i64 boots, .int .i64 longest] by rw [hw3]; exact ((Bk.new' rfl rfl).alloc _).alloc _)
  have HB1 := Lib.hid (show Bk w3 (W.heap.size + 1) 32 [.int .i64 0, .int .i64 0, .int .i64 0, .string ⟨#[]⟩, .int .i64 0, .slice none 0 0, .int .i64 0, .int .i64 0, .slice none 0 0, .int .i64 0, .int .i64 0, .int .i64 0] by rw [hw3]; exact (Bk.new' (by simp) rfl).alloc _)
  have HB2 := Lib.hid (show Bk w3 x2 32 [.int .i64 kind, .int .i64 0, .int .i64 0, .string ⟨#[]⟩, .int .i64 0, .slice none 0 0, .int .i64 0, .int .i64 0, .slice none 0 0, .int .i64 0, .int .i64 0, .int .i64 0] by rw [hw3, hx2]; exact Bk.new' (by simp) rfl)
  have HK3 := Lib.hid (show Kp No W w3 by rw [hw3]; exact (((Kp.refl No W).alloc _).alloc _).alloc _)
  have HW := Lib.hid hw3; have HX2 := Lib.hid hx2
  clear hw3
  simp only [rC]
  go_enter Try.func83, Try.ntmps83
  go_upto_region 2 with (fail)
  rw [← HW.out, ← hx2]
  clear HW hx2
  have z0 : w3.cell? ⟨W.heap.size, 0, none⟩ = some (.int .i64 kind) := HB0.out.cell 0
  go_upto_block 0 with (fail)
  go_cut [3] (fun s wx => s = .pointer (some ⟨x2, 0, none⟩) ∧ ∃ gv' rv', Bk wx x2 32 (rC u gv' rv') ∧ ArgInts W gv' u.grant.stamp ∧ ArgInts W rv' u.stamp ∧ Kp (One x2) w3 wx)
  case first =>
    clear z0
    have kk := Lib.hid (Kp.refl (One x2) w3)
    by_cases e1 : kind = 1
    case pos =>
      subst e1
      have z0 : w3.cell? ⟨W.heap.size, 0, none⟩ = some (.int .i64 1) := HB0.out.cell 0
      have a9 : w3.cell? ⟨W.heap.size, 9, none⟩ = some (.int .i64 next) := HB0.out.cell 9
      have b9 : w3.cell? ⟨x2, 9, none⟩ = some (.int .i64 0) := HB2.out.cell 9
      have f9 := HB2.out.frozen 9
      have a10 : w3.cell? ⟨W.heap.size, 10, none⟩ = some (.int .i64 boots) := HB0.out.cell 10
      have b10 : w3.cell? ⟨x2, 10, none⟩ = some (.int .i64 0) := HB2.out.cell 10
      have f10 := HB2.out.frozen 10
      have hne : W.heap.size ≠ x2 := by have := HX2.out; omega
      have HBF := Lib.hid (((HB2.out).set_ 9 (.int .i64 next)).set_ 10 (.int .i64 boots))
      have HKF := Lib.hid (((Kp.refl (One x2) w3).set (.inl (One.self _)) 9 (.int .i64 next)).set (.inl (One.self _)) 10 (.int .i64 boots))
      go_wp2
      go_meet
      refine ⟨rfl, .slice none 0 0, .slice none 0 0, ?_⟩
      rw [HU.out, U1.out (by simp)]
      exact ⟨HBF.out, ArgInts.nil _ _ _, ArgInts.nil _ _ _, HKF.out⟩
    by_cases e2 : kind = 2
    case pos =>
      subst e2
      clear e1
      have z0 : w3.cell? ⟨W.heap.size, 0, none⟩ = some (.int .i64 2) := HB0.out.cell 0
      have a11 : w3.cell? ⟨W.heap.size, 11, none⟩ = some (.int .i64 longest) := HB0.out.cell 11
      have b11 : w3.cell? ⟨x2, 11, none⟩ = some (.int .i64 0) := HB2.out.cell 11
      have f11 := HB2.out.frozen 11
      have hne : W.heap.size ≠ x2 := by have := HX2.out; omega
      have HBF := Lib.hid ((HB2.out).set_ 11 (.int .i64 longest))
      have HKF := Lib.hid ((Kp.refl (One x2) w3).set (.inl (One.self _)) 11 (.int .i64 longest))
      go_wp2
      go_meet
      refine ⟨rfl, .slice none 0 0, .slice none 0 0, ?_⟩
      rw [HU.out, U2.out (by simp)]
      exact ⟨HBF.out, ArgInts.nil _ _ _, ArgInts.nil _ _ _, HKF.out⟩
    by_cases e3 : kind = 3
    case pos =>
      subst e3
      clear e1 e2
      have z0 : w3.cell? ⟨W.heap.size, 0, none⟩ = some (.int .i64 3) := HB0.out.cell 0
      have a1 : w3.cell? ⟨W.heap.size, 1, none⟩ = some (.int .i64 gid) := HB0.out.cell 1
      have b1 : w3.cell? ⟨x2, 1, none⟩ = some (.int .i64 0) := HB2.out.cell 1
      have f1 := HB2.out.frozen 1
      have a2 : w3.cell? ⟨W.heap.size, 2, none⟩ = some (.int .i64 hol) := HB0.out.cell 2
      have b2 : w3.cell? ⟨x2, 2, none⟩ = some (.int .i64 0) := HB2.out.cell 2
      have f2 := HB2.out.frozen 2
      have a3 : w3.cell? ⟨W.heap.size, 3, none⟩ = some (.string ⟨path.toArray⟩) := HB0.out.cell 3
      have b3 : w3.cell? ⟨x2, 3, none⟩ = some (.string ⟨#[]⟩) := HB2.out.cell 3
      have f3 := HB2.out.frozen 3
      have a4 : w3.cell? ⟨W.heap.size, 4, none⟩ = some (.int .i64 mode) := HB0.out.cell 4
      have b4 : w3.cell? ⟨x2, 4, none⟩ = some (.int .i64 0) := HB2.out.cell 4
      have f4 := HB2.out.frozen 4
      have a5 : w3.cell? ⟨W.heap.size, 5, none⟩ = some (.slice A st.length c) := HB0.out.cell 5
      have b5 : w3.cell? ⟨x2, 5, none⟩ = some (.slice none 0 0) := HB2.out.cell 5
      have f5 := HB2.out.frozen 5
      have a6 : w3.cell? ⟨W.heap.size, 6, none⟩ = some (.int .i64 term) := HB0.out.cell 6
      have b6 : w3.cell? ⟨x2, 6, none⟩ = some (.int .i64 0) := HB2.out.cell 6
      have f6 := HB2.out.frozen 6
      have hne : W.heap.size ≠ x2 := by have := HX2.out; omega
      have HBF := Lib.hid (((((((HB2.out).set_ 1 (.int .i64 gid)).set_ 2 (.int .i64 hol)).set_ 3 (.string ⟨path.toArray⟩)).set_ 4 (.int .i64 mode)).set_ 5 (.slice A st.length c)).set_ 6 (.int .i64 term))
      have HKF := Lib.hid (((((((Kp.refl (One x2) w3).set (.inl (One.self _)) 1 (.int .i64 gid)).set (.inl (One.self _)) 2 (.int .i64 hol)).set (.inl (One.self _)) 3 (.string ⟨path.toArray⟩)).set (.inl (One.self _)) 4 (.int .i64 mode)).set (.inl (One.self _)) 5 (.slice A st.length c)).set (.inl (One.self _)) 6 (.int .i64 term))
      go_wp2
      go_meet
      refine ⟨rfl, .slice A st.length c, .slice none 0 0, ?_⟩
      rw [HU.out, U3.out (by simp)]
      exact ⟨HBF.out, HG.out, ArgInts.nil _ _ _, HKF.out⟩
    by_cases e4 : kind = 4
    case pos =>
      subst e4
      clear e1 e2 e3
      have z0 : w3.cell? ⟨W.heap.size, 0, none⟩ = some (.int .i64 4) := HB0.out.cell 0
      have a1 : w3.cell? ⟨W.heap.size, 1, none⟩ = some (.int .i64 gid) := HB0.out.cell 1
      have b1 : w3.cell? ⟨x2, 1, none⟩ = some (.int .i64 0) := HB2.out.cell 1
      have f1 := HB2.out.frozen 1
      have a2 : w3.cell? ⟨W.heap.size, 2, none⟩ = some (.int .i64 hol) := HB0.out.cell 2
      have b2 : w3.cell? ⟨x2, 2, none⟩ = some (.int .i64 0) := HB2.out.cell 2
      have f2 := HB2.out.frozen 2
      have a3 : w3.cell? ⟨W.heap.size, 3, none⟩ = some (.string ⟨path.toArray⟩) := HB0.out.cell 3
      have b3 : w3.cell? ⟨x2, 3, none⟩ = some (.string ⟨#[]⟩) := HB2.out.cell 3
      have f3 := HB2.out.frozen 3
      have a4 : w3.cell? ⟨W.heap.size, 4, none⟩ = some (.int .i64 mode) := HB0.out.cell 4
      have b4 : w3.cell? ⟨x2, 4, none⟩ = some (.int .i64 0) := HB2.out.cell 4
      have f4 := HB2.out.frozen 4
      have a5 : w3.cell? ⟨W.heap.size, 5, none⟩ = some (.slice A st.length c) := HB0.out.cell 5
      have b5 : w3.cell? ⟨x2, 5, none⟩ = some (.slice none 0 0) := HB2.out.cell 5
      have f5 := HB2.out.frozen 5
      have a6 : w3.cell? ⟨W.heap.size, 6, none⟩ = some (.int .i64 term) := HB0.out.cell 6
      have b6 : w3.cell? ⟨x2, 6, none⟩ = some (.int .i64 0) := HB2.out.cell 6
      have f6 := HB2.out.frozen 6
      have hne : W.heap.size ≠ x2 := by have := HX2.out; omega
      have HBF := Lib.hid (((((((HB2.out).set_ 1 (.int .i64 gid)).set_ 2 (.int .i64 hol)).set_ 3 (.string ⟨path.toArray⟩)).set_ 4 (.int .i64 mode)).set_ 5 (.slice A st.length c)).set_ 6 (.int .i64 term))
      have HKF := Lib.hid (((((((Kp.refl (One x2) w3).set (.inl (One.self _)) 1 (.int .i64 gid)).set (.inl (One.self _)) 2 (.int .i64 hol)).set (.inl (One.self _)) 3 (.string ⟨path.toArray⟩)).set (.inl (One.self _)) 4 (.int .i64 mode)).set (.inl (One.self _)) 5 (.slice A st.length c)).set (.inl (One.self _)) 6 (.int .i64 term))
      go_wp2
      go_meet
      refine ⟨rfl, .slice A st.length c, .slice none 0 0, ?_⟩
      rw [HU.out, U3.out (by simp)]
      exact ⟨HBF.out, HG.out, ArgInts.nil _ _ _, HKF.out⟩
    by_cases e5 : kind = 5
    case pos =>
      subst e5
      clear e1 e2 e3 e4
      have z0 : w3.cell? ⟨W.heap.size, 0, none⟩ = some (.int .i64 5) := HB0.out.cell 0
      have a7 : w3.cell? ⟨W.heap.size, 7, none⟩ = some (.int .i64 id) := HB0.out.cell 7
      have b7 : w3.cell? ⟨x2, 7, none⟩ = some (.int .i64 0) := HB2.out.cell 7
      have f7 := HB2.out.frozen 7
      have a8 : w3.cell? ⟨W.heap.size, 8, none⟩ = some (.slice A2 stamp.length c2) := HB0.out.cell 8
      have b8 : w3.cell? ⟨x2, 8, none⟩ = some (.slice none 0 0) := HB2.out.cell 8
      have f8 := HB2.out.frozen 8
      have hne : W.heap.size ≠ x2 := by have := HX2.out; omega
      have HBF := Lib.hid (((HB2.out).set_ 7 (.int .i64 id)).set_ 8 (.slice A2 stamp.length c2))
      have HKF := Lib.hid (((Kp.refl (One x2) w3).set (.inl (One.self _)) 7 (.int .i64 id)).set (.inl (One.self _)) 8 (.slice A2 stamp.length c2))
      go_wp2
      go_meet
      refine ⟨rfl, .slice none 0 0, .slice A2 stamp.length c2, ?_⟩
      rw [HU.out, U5.out (by simp)]
      exact ⟨HBF.out, ArgInts.nil _ _ _, HR.out, HKF.out⟩
    by_cases e6 : kind = 6
    case pos =>
      subst e6
      clear e1 e2 e3 e4 e5
      have z0 : w3.cell? ⟨W.heap.size, 0, none⟩ = some (.int .i64 6) := HB0.out.cell 0
      have a7 : w3.cell? ⟨W.heap.size, 7, none⟩ = some (.int .i64 id) := HB0.out.cell 7
      have b7 : w3.cell? ⟨x2, 7, none⟩ = some (.int .i64 0) := HB2.out.cell 7
      have f7 := HB2.out.frozen 7
      have hne : W.heap.size ≠ x2 := by have := HX2.out; omega
      have HBF := Lib.hid ((HB2.out).set_ 7 (.int .i64 id))
      have HKF := Lib.hid ((Kp.refl (One x2) w3).set (.inl (One.self _)) 7 (.int .i64 id))
      go_wp2
      go_meet
      refine ⟨rfl, .slice none 0 0, .slice none 0 0, ?_⟩
      rw [HU.out, U6.out (by simp)]
      exact ⟨HBF.out, ArgInts.nil _ _ _, ArgInts.nil _ _ _, HKF.out⟩
    have d1 : (kind == 1) = false := by rw [beq_eq_false_iff_ne]; exact e1
    have d2 : (kind == 2) = false := by rw [beq_eq_false_iff_ne]; exact e2
    have d3 : (kind == 3) = false := by rw [beq_eq_false_iff_ne]; exact e3
    have d4 : (kind == 4) = false := by rw [beq_eq_false_iff_ne]; exact e4
    have d5 : (kind == 5) = false := by rw [beq_eq_false_iff_ne]; exact e5
    have d6 : (kind == 6) = false := by rw [beq_eq_false_iff_ne]; exact e6
    have HN := Lib.hid (show ¬ (kind = 1 ∨ kind = 2 ∨ kind = 3 ∨ kind = 4 ∨ kind = 5 ∨ kind = 6) by omega)
    have z0 : w3.cell? ⟨W.heap.size, 0, none⟩ = some (.int .i64 kind) := HB0.out.cell 0
    clear e1 e2 e3 e4 e5 e6
    go_wp2
    go_meet
    refine ⟨rfl, .slice none 0 0, .slice none 0 0, ?_⟩
    rw [HU.out, U0.out HN.out]
    exact ⟨HB2.out, ArgInts.nil _ _ _, ArgInts.nil _ _ _, kk.out⟩
  case rest =>
    obtain ⟨rfl, gv', rv', hb, a1, a2, k4⟩ := hcut
    obtain ⟨B, d, rfl, _⟩ := ints_of _ _ _ a1
    obtain ⟨B2, d2, rfl, _⟩ := ints_of _ _ _ a2
    obtain ⟨C, hC⟩ : ∃ C, C = rC u (.slice B u.grant.stamp.length d) (.slice B2 u.stamp.length d2) := ⟨_, rfl⟩
    rw [← hC] at hb
    have hcl : C.length = 12 := by rw [hC]; rfl
    have h1 : W.heap.size + 1 ≠ x2 := by have := HX2.out; omega
    have HC := Lib.hid hC
    have HB1x := Lib.hid (HB1.out.kp k4 h1)
    have HB := Lib.hid hb; have HA1 := Lib.hid a1; have HA2 := Lib.hid a2
    have HK4 := Lib.hid (HK3.out.then_ k4 fun j hj e => by have h1 : j = x2 := e; have h2 := HX2.out; omega)
    have HI := Lib.hid (show (Try.prog.info? 32).map (·.size) = some C.length by rw [hcl]; kernel_rfl)
    have HU2 := Lib.hid Try.underlying32
    have HCL := Lib.hid hcl
    have HTH := Lib.hid (show wc.there (W.heap.size + 1) 0 (C.toArray).size from HB1x.out.there 0 _ (by rw [Nat.zero_add, List.size_toArray, hcl]; exact Nat.le_refl _))
    have hi2 : Hid ((Try.prog.info? 32).map (·.size) = some (C.toArray).size) := HI
    have h1c : Hid ((C.toArray).all (·.oneCell') = true) := Lib.hid (by have := rec_one (r := u) (gv := .slice B u.grant.stamp.length d) (rv := .slice B2 u.stamp.length d2) rfl rfl; rw [← hC] at this; simpa using this)
    have B9 := Lib.hid (show Bk (wc.setCells (W.heap.size + 1) 0 (C.toArray).toList) (W.heap.size + 1) 32 C from by
      have := Bk.sets C 0 HB1x.out (by rw [Nat.zero_add, hcl]; exact Nat.le_refl _)
      rw [List.take_zero, List.nil_append, Nat.zero_add, hcl, show List.drop 12 ([.int .i64 0, .int .i64 0, .int .i64 0, .string ⟨#[]⟩, .int .i64 0, .slice none 0 0, .int .i64 0, .int .i64 0, .slice none 0 0, .int .i64 0, .int .i64 0, .int .i64 0] : List Value) = [] from rfl, List.append_nil] at this
      exact this)
    have K9 := Lib.hid (show Kp (One (W.heap.size + 1)) wc (wc.setCells (W.heap.size + 1) 0 (C.toArray).toList) from Kp.sets _ 0 (Kp.refl _ _) (.inl rfl))
    clear hC hcl h1 hb a1 a2 k4
    go_wp2_with (first | (with_reducible refine wpList_load_mid rfl _ _ rfl x2 0 rfl C _ (bk_range HB.out) HU2.out (by simp) HI.out ?_) | (with_reducible refine wpList_store_mid rfl _ _ _ rfl (W.heap.size + 1) 0 (C.toArray) rfl rfl HTH.out hi2.out h1c.out ?_) | fail)
    generalize wc.setCells (W.heap.size + 1) 0 (C.toArray).toList = w9 at *
    have b9 := B9.out
    rw [HC.out] at b9
    have x0 := b9.cell 0; have x1 := b9.cell 1; have x2' := b9.cell 2; have x3 := b9.cell 3; have x4 := b9.cell 4; have x5 := b9.cell 5; have x6 := b9.cell 6; have x7 := b9.cell 7; have x8 := b9.cell 8; have x9 := b9.cell 9; have x10 := b9.cell 10; have x11 := b9.cell 11
    simp only [rC, List.getElem?_cons_zero, List.getElem?_cons_succ] at x0 x1 x2' x3 x4 x5 x6 x7 x8 x9 x10 x11
    have HF := Lib.hid (show Q (.returned (.agg (rC u (.slice B u.grant.stamp.length d) (.slice B2 u.stamp.length d2)).toArray)) w9 by
      rw [HQ.out]
      exact ⟨_, _, rfl, HA1.out, HA2.out, HK4.out.then_ K9.out fun j hj e => by have h1 : j = W.heap.size + 1 := e; omega⟩)
    refine bodyPost_ret (v := .agg (rC u (.slice B u.grant.stamp.length d) (.slice B2 u.stamp.length d2)).toArray) (by simp [results, Try.results83, go_sem, rC, x0, x1, x2', x3, x4, x5, x6, x7, x8, x9, x10, x11]) rfl ?_
    exact HF.out
end Go.Proofs.Ytifdceofglocdaa
