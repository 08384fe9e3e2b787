/- BookDumps: the records of a book's dump are at most eight and make the book again, for every book. No condition. -/
import Derived.Test.YtifdceofglocdaaB21
import Derived.Test.YtifdceofglocdaaB23
import Derived.Test.YtifdceofglocdaaB16
import Derived.Deep.CutBlock
import Derived.Deep.MidRow
import Derived.ProofKit
import Derived.OpenShut
import Derived.ShutString
import Derived.ChangeOld
import Derived.SizedLaws
import Derived.Below
namespace Go.Proofs.Ytifdceofglocdaa.bookDumps
open Go.ChangeShapes Go.WideShapes Go.ChangeAt Go.RowKit
open Go.ChangeMaps (open_string shut_string)

theorem own : ownKnob Try.prog.godebug = none := by kernel_rfl
theorem laidOut : laidOutB Try.prog = true := by kernel_rfl
set_option maxRecDepth 100000 in
set_option maxHeartbeats 8000000 in
theorem walk (n k t : Int) (sv : Value) (l : List GP) (W : World) (hv : ArgG W sv l) (hl : l.length ≤ 1954687338211) (hp : ∀ p ∈ l, ShGin p.1) :
    Calls Try.prog 8 #[.agg #[.int .i64 n, .int .i64 k, .int .i64 t, sv]] W fun e w' => e = .returned (.bool true) ∧ Below W.heap.size W w' := by
  obtain ⟨A0, c0, rfl, _⟩ := hv.len
  have HSH := Lib.hid (ShGin.shL hl hp)
  obtain ⟨w0, hw0⟩ : ∃ w0, w0 = W.alloc (.cells #[.int .i64 n, .int .i64 k, .int .i64 t, .slice A0 l.length c0] 25) := ⟨_, rfl⟩
  have HB0 := Lib.hid (show Bk w0 W.heap.size 25 [.int .i64 n, .int .i64 k, .int .i64 t, .slice A0 l.length c0] by rw [hw0]; exact Bk.new' rfl rfl)
  have K0 := Lib.hid (show Kp No W w0 by rw [hw0]; exact (Kp.refl No W).alloc _)
  have HV0 := Lib.hid (hv.no K0.out)
  have HST := Lib.hid (show ∀ p ∈ l, p.1.stamp.length ≤ 17592186043904 from fun p q => (hp p q).2)
  have HL := Lib.hid hl
  have HW := Lib.hid hw0
  have pa := awake_any w0
  clear hw0 hv hl hp
  go_enter Try.func8, Try.ntmps8
  go_upto_region 1 with (fail)
  rw [← HW.out]
  clear HW
  go_wp2_with fail
  refine pa.mono ?_
  rintro e w1 ⟨rfl, k1⟩
  have HB1 := Lib.hid (HB0.out.no k1); have HV1 := Lib.hid (HV0.out.no k1); have K1 := Lib.hid (K0.out.trans k1)
  clear pa k1 HB0 HV0 K0
  have po := ownB_any n k t (.slice A0 l.length c0) l w1 HV1.out HL.out HST.out
  have z0 : w1.cell? ⟨W.heap.size, 0, none⟩ = some (.int .i64 n) := HB1.out.cell 0
  have z1 : w1.cell? ⟨W.heap.size, 1, none⟩ = some (.int .i64 k) := HB1.out.cell 1
  have z2 : w1.cell? ⟨W.heap.size, 2, none⟩ = some (.int .i64 t) := HB1.out.cell 2
  have z3 : w1.cell? ⟨W.heap.size, 3, none⟩ = some (.slice A0 l.length c0) := HB1.out.cell 3
  go_wp2_with fail
  refine po.mono ?_
  rintro e w2 ⟨sv2, l2, rfl, hg2, ho2, k2⟩
  have HSH2 := Lib.hid (shL_gs HSH.out hg2)
  have pd := dump_any n k t sv2 l2 w2 ho2.arg HSH2.out
  rw [bk_gs hg2] at pd
  have HB2 := Lib.hid (HB1.out.no k2); have HV2 := Lib.hid (HV1.out.no k2); have K2 := Lib.hid (K1.out.trans k2)
  clear po ho2 hg2 k2 z0 z1 z2 z3 HSH2 HB1 HV1 K1
  go_wp2_with fail
  refine pd.mono ?_
  rintro e w3 ⟨sv3, rl, rfl, hrl, ho3, k3⟩
  obtain ⟨A3, c3, rfl, _⟩ := own_len ho3.1
  have HB3 := Lib.hid (HB2.out.no k3); have HV3 := Lib.hid (HV2.out.no k3); have K3 := Lib.hid (K2.out.trans k3)
  have HRL := Lib.hid hrl; have HO3 := Lib.hid ho3
  clear pd hrl ho3 k3 HB2 HV2 K2
  have po := ownB_any n k t (.slice A0 l.length c0) l w3 HV3.out HL.out HST.out
  have z0 : w3.cell? ⟨W.heap.size, 0, none⟩ = some (.int .i64 n) := HB3.out.cell 0
  have z1 : w3.cell? ⟨W.heap.size, 1, none⟩ = some (.int .i64 k) := HB3.out.cell 1
  have z2 : w3.cell? ⟨W.heap.size, 2, none⟩ = some (.int .i64 t) := HB3.out.cell 2
  have z3 : w3.cell? ⟨W.heap.size, 3, none⟩ = some (.slice A0 l.length c0) := HB3.out.cell 3
  go_wp2_with fail
  refine po.mono ?_
  rintro e w4 ⟨sv4, l4, rfl, hg4, ho4, k4⟩
  have HSH4 := Lib.hid (shL_gs HSH.out hg4)
  have pv := bvalid_any n k t sv4 l4 w4 ho4.arg HSH4.out
  rw [bk_gs hg4] at pv
  have HB4 := Lib.hid (HB3.out.no k4); have HV4 := Lib.hid (HV3.out.no k4); have K4 := Lib.hid (K3.out.trans k4); have HO4 := Lib.hid (HO3.out.no k4)
  clear po ho4 hg4 k4 z0 z1 z2 z3 HSH4 HB3 HV3 K3 HO3
  go_wp2_with fail
  refine pv.mono ?_
  rintro e w5 ⟨rfl, k5⟩
  have HB5 := Lib.hid (HB4.out.no k5); have HV5 := Lib.hid (HV4.out.no k5); have K5 := Lib.hid (K4.out.trans k5); have HO5 := Lib.hid (HO4.out.no k5)
  have HLR := Lib.hid (show rl.length = (dumpB (bk n k t l)).length by rw [← HRL.out, List.length_map])
  clear pv k5 HB4 HV4 K4 HO4
  by_cases hval : validB (bk n k t l)
  case neg =>
    have hlen : rl.length = 0 := by rw [HLR.out]; unfold dumpB; rw [if_neg hval]; rfl
    rw [decide_eq_false hval]
    clear HRL HO5 HLR
    generalize rl.length = q at *
    subst hlen
    clear hval
    go_wp2
    go_ret
    exact ⟨rfl, K5.out.below (Nat.le_refl _) fun _ _ m => m⟩
  case pos =>
  have HVAL := Lib.hid hval
  rw [decide_eq_true hval]
  obtain ⟨d1, d2, d3⟩ := dump_len hval
  rw [← HLR.out] at d1 d2 d3
  have hb6 : l.length ≤ 6 := by have h1 : (gsL l).length ≤ 6 := hval.2.2.1; rw [gsL_len] at h1; exact h1
  have d3 : rl.length ≤ l.length + 2 := by have h : (bk n k t l).grants.length = l.length := gsL_len l; rw [h] at d3; exact d3
  have q1 : ¬ (rl.length : Int) < 1 := by omega
  have q2 : ¬ (8 : Int) < (rl.length : Int) := by omega
  have q3 : ¬ (l.length : Int) + 2 < (rl.length : Int) := by omega
  have q4 : (l.length : Int) ≤ 6 := by omega
  clear hval
  have z3 : w5.cell? ⟨W.heap.size, 3, none⟩ = some (.slice A0 l.length c0) := HB5.out.cell 3
  go_wp2_with fail
  refine (new_any w5).mono ?_
  rintro e w6 ⟨rfl, k6⟩
  obtain ⟨w7, hw7⟩ : ∃ w7, w7 = w6.alloc (.cells #[.int .i64 1, .int .i64 0, .int .i64 0, .slice none 0 0] 25) := ⟨_, rfl⟩
  obtain ⟨q, hq⟩ : ∃ q, q = w6.heap.size := ⟨_, rfl⟩
  have HQ7 := Lib.hid (show Bk w7 q 25 [.int .i64 1, .int .i64 0, .int .i64 0, .slice none 0 0] by rw [hw7]; exact Bk.new' hq rfl)
  have K7 := Lib.hid (show Kp No w5 w7 by rw [hw7]; exact k6.alloc _)
  have HQN := Lib.hid (show w5.heap.size ≤ q by rw [hq]; exact k6.size)
  have HW7 := Lib.hid hw7
  have HQE := Lib.hid hq
  have HRUN := Lib.hid (dump_run HVAL.out)
  clear k6 hw7 hq q1 q2 q3 q4 z3 d1 d3 hb6
  go_upto_region 9 with (fail)
  rw [← HW7.out, ← HQE.out]
  clear HW7 HQE
  go_wp2
  go_loopw [41] (fun i wr => ∃ (j : Nat) (n' k' t' : Int) (sv' : Value) (l' : List GP), j ≤ rl.length ∧ i = .int .i64 j ∧ Bk wr q 25 [.int .i64 n', .int .i64 k', .int .i64 t', sv'] ∧ OwnG wr W.heap.size sv' l' ∧ runB newB ((dumpB (bk n k t l)).take j) = some (bk n' k' t' l') ∧ validB (bk n' k' t' l') ∧ Kp No w5 wr) (fun i _ => rl.length - (intOf i).toNat)
  case atStart => exact ⟨0, 1, 0, 0, _, [], Nat.zero_le _, rfl, HQ7.out, OwnG.nil _ _, rfl, valid_new, K7.out⟩
  case round =>
    obtain ⟨j, n', k', t', sv', l', hj, rfl, hb, ho, hr, hval', hk⟩ := hrel
    have HB := Lib.hid hb; have HO := Lib.hid ho; have HR := Lib.hid hr; have HVA := Lib.hid hval'; have HK := Lib.hid hk
    obtain ⟨A', c', rfl, _⟩ := own_len ho.1
    clear hb ho hr hval' hk
    by_cases hlt : j < rl.length
    · have hk0 : (0 : Int) ≤ (j : Int) := by omega
      have hk1 : (j : Int) < (rl.length : Int) := by omega
      obtain ⟨g, c, eA, _, hcell⟩ := (HO5.out.no HK.out).cells hlt
      obtain rfl : A3 = some ⟨g, 0, none⟩ := by injection eA
      have hmem : rl[j] ∈ rl := List.getElem_mem hlt
      have hrs := (HO5.out.no HK.out).2 _ hmem
      have hjd : j < (dumpB (bk n k t l)).length := by rw [← HRL.out, List.length_map]; exact hlt
      have hget : (dumpB (bk n k t l))[j] = rl[j].1 := by
        have h : (rl.map (·.1))[j]'(by rw [List.length_map]; exact hlt) = rl[j].1 := List.getElem_map _
        rw [← h]; congr 1; exact HRL.out.symm
      have hst := runB_step hjd HRUN.out HR.out
      have hshr := dump_sh (List.getElem_mem hjd)
      rw [hget] at hst hshr
      obtain ⟨p, hp⟩ : ∃ p, p = rl[j] := ⟨_, rfl⟩
      rw [← hp] at hst hshr hrs hcell
      obtain ⟨r, gv, rv⟩ := p
      have hrs : wr.ownsRow w2.heap.size 3 1 gv r.grant.stamp.length (ints r.grant.stamp) ∧ wr.ownsRow w2.heap.size 3 1 rv r.stamp.length (ints r.stamp) := hrs
      obtain ⟨Ag, cg, rfl, _⟩ := own_len hrs.1
      obtain ⟨Ar, cr, rfl, _⟩ := own_len hrs.2
      have y0 : wr.cell? ⟨g, j * 12, none⟩ = some (.int .i64 r.kind) := hcell 0 _ rfl
      have y1 : wr.cell? ⟨g, j * 12 + 1, none⟩ = some (.int .i64 r.grant.id) := hcell 1 _ rfl
      have y2 : wr.cell? ⟨g, j * 12 + 2, none⟩ = some (.int .i64 r.grant.holder) := hcell 2 _ rfl
      have y3 : wr.cell? ⟨g, j * 12 + 3, none⟩ = some (.string ⟨r.grant.path.toArray⟩) := hcell 3 _ rfl
      have y4 : wr.cell? ⟨g, j * 12 + 4, none⟩ = some (.int .i64 r.grant.mode) := hcell 4 _ rfl
      have y5 : wr.cell? ⟨g, j * 12 + 5, none⟩ = some (.slice Ag r.grant.stamp.length cg) := hcell 5 _ rfl
      have y6 : wr.cell? ⟨g, j * 12 + 6, none⟩ = some (.int .i64 r.grant.term) := hcell 6 _ rfl
      have y7 : wr.cell? ⟨g, j * 12 + 7, none⟩ = some (.int .i64 r.id) := hcell 7 _ rfl
      have y8 : wr.cell? ⟨g, j * 12 + 8, none⟩ = some (.slice Ar r.stamp.length cr) := hcell 8 _ rfl
      have y9 : wr.cell? ⟨g, j * 12 + 9, none⟩ = some (.int .i64 r.next) := hcell 9 _ rfl
      have y10 : wr.cell? ⟨g, j * 12 + 10, none⟩ = some (.int .i64 r.boots) := hcell 10 _ rfl
      have y11 : wr.cell? ⟨g, j * 12 + 11, none⟩ = some (.int .i64 r.longest) := hcell 11 _ rfl
      have kA : Kp No wr (wr.alloc (.cells (rC r (.slice Ag r.grant.stamp.length cg) (.slice Ar r.stamp.length cr)).toArray 32)) := (Kp.refl No wr).alloc _
      have pap := apply_any n' k' t' (.slice A' l'.length c') l' r (.slice Ag r.grant.stamp.length cg) (.slice Ar r.stamp.length cr) _ (HO.out.arg.no kA) (valid_sh HVA.out) ((own_argI hrs.1).no kA) ((own_argI hrs.2).no kA) hshr.1 hshr.2
      have HVN := Lib.hid (apply_ok hst.1).1
      have HRN := Lib.hid hst.2
      unfold ApplyR at pap
      rw [hst.1] at pap
      obtain ⟨b', hb'⟩ : ∃ b', b' = (applyB (bk n' k' t' l') r).1 := ⟨_, rfl⟩
      rw [← hb'] at pap HRN HVN
      have HBA := Lib.hid (HB.out.no kA)
      have HKA := Lib.hid kA
      clear hget hst hshr hrs hcell hmem hjd hp hb' kA eA HR HVA
      unfold rC at pap HBA HKA
      have z0 : (wr.alloc (.cells #[.int .i64 r.kind, .int .i64 r.grant.id, .int .i64 r.grant.holder, .string ⟨r.grant.path.toArray⟩, .int .i64 r.grant.mode, .slice Ag r.grant.stamp.length cg, .int .i64 r.grant.term, .int .i64 r.id, .slice Ar r.stamp.length cr, .int .i64 r.next, .int .i64 r.boots, .int .i64 r.longest] 32)).cell? ⟨q, 0, none⟩ = some (.int .i64 n') := HBA.out.cell 0
      have z1 : (wr.alloc (.cells #[.int .i64 r.kind, .int .i64 r.grant.id, .int .i64 r.grant.holder, .string ⟨r.grant.path.toArray⟩, .int .i64 r.grant.mode, .slice Ag r.grant.stamp.length cg, .int .i64 r.grant.term, .int .i64 r.id, .slice Ar r.stamp.length cr, .int .i64 r.next, .int .i64 r.boots, .int .i64 r.longest] 32)).cell? ⟨q, 1, none⟩ = some (.int .i64 k') := HBA.out.cell 1
      have z2 : (wr.alloc (.cells #[.int .i64 r.kind, .int .i64 r.grant.id, .int .i64 r.grant.holder, .string ⟨r.grant.path.toArray⟩, .int .i64 r.grant.mode, .slice Ag r.grant.stamp.length cg, .int .i64 r.grant.term, .int .i64 r.id, .slice Ar r.stamp.length cr, .int .i64 r.next, .int .i64 r.boots, .int .i64 r.longest] 32)).cell? ⟨q, 2, none⟩ = some (.int .i64 t') := HBA.out.cell 2
      have z3 : (wr.alloc (.cells #[.int .i64 r.kind, .int .i64 r.grant.id, .int .i64 r.grant.holder, .string ⟨r.grant.path.toArray⟩, .int .i64 r.grant.mode, .slice Ag r.grant.stamp.length cg, .int .i64 r.grant.term, .int .i64 r.id, .slice Ar r.stamp.length cr, .int .i64 r.next, .int .i64 r.boots, .int .i64 r.longest] 32)).cell? ⟨q, 3, none⟩ = some (.slice A' l'.length c') := HBA.out.cell 3
      go_wp2_with fail
      refine pap.mono ?_
      rintro e w8 ⟨sv8, l8, rfl, hg8, ho8, k8⟩
      obtain ⟨A8, c8, rfl, _⟩ := own_len ho8.1
      have HK8 := Lib.hid (HKA.out.trans k8)
      have HB8 := Lib.hid (HB.out.no HK8.out)
      have HO8 := Lib.hid (ho8.mono (Nat.le_trans K5.out.size (Nat.le_trans HK.out.size HKA.out.size)))
      have HG8 := Lib.hid hg8
      clear pap y0 y1 y2 y3 y4 y5 y6 y7 y8 y9 y10 y11 z0 z1 z2 z3 ho8 k8 hg8 HBA
      have kB : Kp No w8 (w8.alloc (.cells #[.int .i64 b'.next, .int .i64 b'.boots, .int .i64 b'.longest, .slice A8 l8.length c8] 25)) := (Kp.refl No w8).alloc _
      have HKB := Lib.hid kB
      have HBB := Lib.hid (HB8.out.no kB)
      clear kB HB8
      have z0 : (w8.alloc (.cells #[.int .i64 b'.next, .int .i64 b'.boots, .int .i64 b'.longest, .slice A8 l8.length c8] 25)).cell? ⟨q, 0, none⟩ = some (.int .i64 n') := HBB.out.cell 0
      have z1 : (w8.alloc (.cells #[.int .i64 b'.next, .int .i64 b'.boots, .int .i64 b'.longest, .slice A8 l8.length c8] 25)).cell? ⟨q, 1, none⟩ = some (.int .i64 k') := HBB.out.cell 1
      have z2 : (w8.alloc (.cells #[.int .i64 b'.next, .int .i64 b'.boots, .int .i64 b'.longest, .slice A8 l8.length c8] 25)).cell? ⟨q, 2, none⟩ = some (.int .i64 t') := HBB.out.cell 2
      have z3 : (w8.alloc (.cells #[.int .i64 b'.next, .int .i64 b'.boots, .int .i64 b'.longest, .slice A8 l8.length c8] 25)).cell? ⟨q, 3, none⟩ = some (.slice A' l'.length c') := HBB.out.cell 3
      have v0 := HBB.out.frozen 0; have v1 := HBB.out.frozen 1; have v2 := HBB.out.frozen 2; have v3 := HBB.out.frozen 3
      go_wp2
      have B9 := (((HBB.out.set_ 0 (.int .i64 b'.next)).set_ 1 (.int .i64 b'.boots)).set_ 2 (.int .i64 b'.longest)).set_ 3 (.slice A8 l8.length c8)
      have K9 : Kp (One q) (w8.alloc (.cells #[.int .i64 b'.next, .int .i64 b'.boots, .int .i64 b'.longest, .slice A8 l8.length c8] 25)) _ := ((((Kp.refl (One q) (w8.alloc (.cells #[.int .i64 b'.next, .int .i64 b'.boots, .int .i64 b'.longest, .slice A8 l8.length c8] 25))).set (.inl (One.self _)) 0 (.int .i64 b'.next)).set (.inl (One.self _)) 1 (.int .i64 b'.boots)).set (.inl (One.self _)) 2 (.int .i64 b'.longest)).set (.inl (One.self _)) 3 (.slice A8 l8.length c8)
      generalize hw9 : World.setCell _ ⟨q, 3, none⟩ _ = w9 at B9 K9 ⊢
      have HO9 := Lib.hid (show OwnG w9 W.heap.size (.slice A8 l8.length c8) l8 from (HO8.out.no HKB.out).far K9 HBB.out (by decide) (by decide))
      have HB9 := Lib.hid (show Bk w9 q 25 [.int .i64 b'.next, .int .i64 b'.boots, .int .i64 b'.longest, .slice A8 l8.length c8] from B9)
      have HK9 := Lib.hid (show Kp No w5 w9 from (((HK.out.trans HK8.out).trans HKB.out)).then_ K9 fun i hi m => by have h1 : i = q := m; have := HQN.out; omega)
      have HBK := Lib.hid (bk_of HG8.out)
      clear B9 K9 hw9 z0 z1 z2 z3 v0 v1 v2 v3 HO8 HBB HKB HK8 HO HB HK HKA
      go_roundw
      case rel => exact ⟨j + 1, b'.next, b'.boots, b'.longest, _, l8, by omega, by go_num, HB9.out, HO9.out, by rw [HBK.out]; exact HRN.out, by rw [HBK.out]; exact HVN.out, HK9.out⟩
      case measure => simp [intOf]; omega
    · have hk1 : ¬ (j : Int) < (rl.length : Int) := by omega
      have hjl : j = rl.length := by omega
      have hbe : bk n k t l = bk n' k' t' l' := by
        have h := HR.out
        rw [hjl, HLR.out, List.take_length, HRUN.out] at h
        injection h
      obtain ⟨e1, e2, e3, e4⟩ := bk_eq.1 hbe
      subst e1 e2 e3
      have HGE := Lib.hid e4
      have HBr := Lib.hid (HB5.out.no HK.out); have HVr := Lib.hid (HV5.out.no HK.out)
      clear hlt hjl hbe e4 HR HVA hj
      go_upto_region 17 with (fail)
      have po := fun W2 (kk : Kp No wr W2) => (ownB_any n k t (.slice A0 l.length c0) l W2 (HVr.out.no kk) HL.out HST.out).mono fun e w' ⟨sv, l2, h1, h2, h3, h4⟩ => (⟨sv, l2, h1, h2, h3.arg, kk.trans h4⟩ : ∃ sv l2, e = Ending.returned (.agg #[.int .i64 n, .int .i64 k, .int .i64 t, sv]) ∧ gsL l2 = gsL l ∧ ArgG w' sv l2 ∧ Kp No wr w')
      have ps := fun W2 (kk : Kp No wr W2) sv l2 (ha : ArgG W2 sv l2) (hg : gsL l2 = gsL l) => (sameB_any n k t n k t (.slice A' l'.length c') sv l' l2 W2 (HO.out.arg.no kk) ha (shL_gs HSH.out HGE.out.symm) (shL_gs HSH.out hg)).mono fun e w' ⟨h1, h2⟩ => (⟨by rw [h1, decide_eq_true (bk_eq.2 ⟨rfl, rfl, rfl, by rw [hg]; exact HGE.out.symm⟩)], kk.trans h2⟩ : e = Ending.returned (.bool true) ∧ Kp No wr w')
      have pr := fun W2 (kk : Kp No wr W2) => (rsameB_any n k t n k t (.slice A' l'.length c') (.slice A0 l.length c0) l' l W2 (HO.out.arg.no kk) (HVr.out.no kk) (shL_gs HSH.out HGE.out.symm) HSH.out).mono fun e w' ⟨h1, h2⟩ => (⟨by rw [h1, decide_eq_true (bk_eq.2 ⟨rfl, rfl, rfl, HGE.out.symm⟩)], kk.trans h2⟩ : e = Ending.returned (.bool true) ∧ Kp No wr w')
      have sk : ∀ W2, Kp No wr W2 → W2.cell? ⟨q, 0, none⟩ = some (.int .i64 n) ∧ W2.cell? ⟨q, 1, none⟩ = some (.int .i64 k) ∧ W2.cell? ⟨q, 2, none⟩ = some (.int .i64 t) ∧ W2.cell? ⟨q, 3, none⟩ = some (.slice A' l'.length c') ∧ W2.cell? ⟨W.heap.size, 0, none⟩ = some (.int .i64 n) ∧ W2.cell? ⟨W.heap.size, 1, none⟩ = some (.int .i64 k) ∧ W2.cell? ⟨W.heap.size, 2, none⟩ = some (.int .i64 t) ∧ W2.cell? ⟨W.heap.size, 3, none⟩ = some (.slice A0 l.length c0) := fun W2 kk => ⟨(HB.out.no kk).cell 0, (HB.out.no kk).cell 1, (HB.out.no kk).cell 2, (HB.out.no kk).cell 3, (HBr.out.no kk).cell 0, (HBr.out.no kk).cell 1, (HBr.out.no kk).cell 2, (HBr.out.no kk).cell 3⟩
      have hF := sk _ ((Kp.refl No wr).drew)
      refine rg_begin (fun W2 => W2.cell? ⟨q, 0, none⟩ = some (.int .i64 n) ∧ W2.cell? ⟨q, 1, none⟩ = some (.int .i64 k) ∧ W2.cell? ⟨q, 2, none⟩ = some (.int .i64 t) ∧ W2.cell? ⟨q, 3, none⟩ = some (.slice A' l'.length c') ∧ W2.cell? ⟨W.heap.size, 0, none⟩ = some (.int .i64 n) ∧ W2.cell? ⟨W.heap.size, 1, none⟩ = some (.int .i64 k) ∧ W2.cell? ⟨W.heap.size, 2, none⟩ = some (.int .i64 t) ∧ W2.cell? ⟨W.heap.size, 3, none⟩ = some (.slice A0 l.length c0)) 9 (by kernel_rfl) ?_
      refine rg_take (i := 0) (v := ?vp0) (by simp only [List.getElem?_toArray, List.getElem?_cons_zero]; rfl) (by kernel_rfl) (by exact fun _ _ _ h => h) (by rfl) ?rp0 hF ?sp0
      case rp0 => (intro W hW; obtain ⟨f1, f2, f3, f4, f5, f6, f7, f8⟩ := hW; go_simp; try with_reducible rfl)
      try simp only [Act.put, List.setIfInBounds_toArray, List.set_cons_zero, List.set_cons_succ]
      refine rg_take (i := 1) (v := ?vp1) (by simp only [List.getElem?_toArray, List.getElem?_cons_succ, List.getElem?_cons_zero]; rfl) (by kernel_rfl) (by exact fun _ _ _ h => h) (by rfl) ?rp1 hF ?sp1
      case rp1 => (intro W hW; obtain ⟨f1, f2, f3, f4, f5, f6, f7, f8⟩ := hW; go_simp; try with_reducible rfl)
      try simp only [Act.put, List.setIfInBounds_toArray, List.set_cons_zero, List.set_cons_succ]
      refine rg_one (i := 2) (oi := ?op2) ?ap2 ?bp2 ?cp2 ?dp2
      case ap2 => (simp only [List.getElem?_toArray, List.getElem?_cons_succ, List.getElem?_cons_zero]; rfl)
      case bp2 => kernel_rfl
      case cp2 => rfl
      intro K hK
      (go_simp; refine (po _ (Kp.refl No wr).drew).mono ?_; rintro e w20 ⟨sv20, l20, rfl, hg20, ha20, k20⟩)
      refine rg_use hK (sk _ k20) (fun hF => ?_)
      clear hK K
      try simp only [Act.put, List.setIfInBounds_toArray, List.set_cons_zero, List.set_cons_succ]
      refine rg_one (i := 3) (oi := ?op3) ?ap3 ?bp3 ?cp3 ?dp3
      case ap3 => (simp only [List.getElem?_toArray, List.getElem?_cons_succ, List.getElem?_cons_zero]; rfl)
      case bp3 => kernel_rfl
      case cp3 => rfl
      intro K hK
      (go_simp; refine (ps _ k20 _ _ ha20 hg20).mono ?_; rintro e w21 ⟨rfl, k21⟩)
      refine rg_use hK (sk _ k21) (fun hF => ?_)
      clear hK K
      try simp only [Act.put, List.setIfInBounds_toArray, List.set_cons_zero, List.set_cons_succ]
      refine rg_take (i := 4) (v := ?vp4) (by simp only [List.getElem?_toArray, List.getElem?_cons_succ, List.getElem?_cons_zero]; rfl) (by kernel_rfl) (by exact fun _ _ _ h => h) (by rfl) ?rp4 hF ?sp4
      case rp4 => (intro W hW; clear hW; go_simp; try with_reducible rfl)
      try simp only [Act.put, List.setIfInBounds_toArray, List.set_cons_zero, List.set_cons_succ]
      refine rg_take (i := 5) (v := ?vp5) (by simp only [List.getElem?_toArray, List.getElem?_cons_succ, List.getElem?_cons_zero]; rfl) (by kernel_rfl) (by exact fun _ _ _ h => h) (by rfl) ?rp5 hF ?sp5
      case rp5 => (intro W hW; obtain ⟨f1, f2, f3, f4, f5, f6, f7, f8⟩ := hW; go_simp; try with_reducible rfl)
      try simp only [Act.put, List.setIfInBounds_toArray, List.set_cons_zero, List.set_cons_succ]
      refine rg_take (i := 6) (v := ?vp6) (by simp only [List.getElem?_toArray, List.getElem?_cons_succ, List.getElem?_cons_zero]; rfl) (by kernel_rfl) (by exact fun _ _ _ h => h) (by rfl) ?rp6 hF ?sp6
      case rp6 => (intro W hW; obtain ⟨f1, f2, f3, f4, f5, f6, f7, f8⟩ := hW; go_simp; try with_reducible rfl)
      try simp only [Act.put, List.setIfInBounds_toArray, List.set_cons_zero, List.set_cons_succ]
      refine rg_one (i := 7) (oi := ?op7) ?ap7 ?bp7 ?cp7 ?dp7
      case ap7 => (simp only [List.getElem?_toArray, List.getElem?_cons_succ, List.getElem?_cons_zero]; rfl)
      case bp7 => kernel_rfl
      case cp7 => rfl
      intro K hK
      (go_simp; refine (pr _ k21).mono ?_; rintro e w22 ⟨rfl, k22⟩)
      refine rg_use hK (sk _ k22) (fun hF => ?_)
      clear hK K
      try simp only [Act.put, List.setIfInBounds_toArray, List.set_cons_zero, List.set_cons_succ]
      refine rg_take (i := 8) (v := ?vp8) (by simp only [List.getElem?_toArray, List.getElem?_cons_succ, List.getElem?_cons_zero]; rfl) (by kernel_rfl) (by exact fun _ _ _ h => h) (by rfl) ?rp8 hF ?sp8
      case rp8 => (intro W hW; clear hW; go_simp; try with_reducible rfl)
      try simp only [Act.put, List.setIfInBounds_toArray, List.set_cons_zero, List.set_cons_succ]
      refine rg_one (i := 9) (oi := ?op9) ?ap9 ?bp9 ?cp9 ?dp9
      case ap9 => (simp only [List.getElem?_toArray, List.getElem?_cons_succ, List.getElem?_cons_zero]; rfl)
      case bp9 => kernel_rfl
      case cp9 => rfl
      intro K hK
      go_simp
      refine hK _ _ (fun h => absurd rfl h) ?_
      clear hK K
      try simp only [Act.put, List.setIfInBounds_toArray, List.set_cons_zero, List.set_cons_succ]
      refine rg_done (by kernel_rfl) ?_
      have KF := Lib.hid ((K5.out.trans HK.out).trans k22)
      clear po ps pr sk hF k20 k21 k22 ha20 hg20
      go_wp2
      go_ret
      exact ⟨rfl, KF.out.below (Nat.le_refl _) fun _ _ m => m⟩
/-! ### The row's step -/
set_option maxRecDepth 100000 in
theorem lifted (os : Os) (started : os.Started) (H : Type) (enc : TypeId × Value → H) :
    ReturnsInHanded {} Try.checked os 8 .any (Rows.bookDumpsSpec.pre6 enc Try.prog Try.f8 Rows.bookDumpsRow.domain false) (Rows.bookDumpsSpec.post enc Try.prog Try.f8 false true false false) := by
  refine returnsInHanded_of_change_sized (C := Try.checked) own started (by kernel_rfl) Try.func8
    (ChangeSpec.witness6 (enc := enc) (C := Try.checked) false ⟨#[], #[.agg #[.int .i64 0, .int .i64 0, .int .i64 0, .slice none 0 0]], []⟩ 8 (by kernel_rfl) (by kernel_rfl) (by kernel_rfl) (by kernel_rfl)) ?_
  intro W base args ds gs before hval0 hW hcnd hsz0 _
  have hval : ∀ (j : Nat) t v, Try.f8.params[j]? = some t → args[j]? = some v → Value.okWide Try.prog W .any base t v := hval0
  have hW' := hW
  obtain ⟨p, q, hA0, hV, rfl, hfz, hnd⟩ := hW
  have hA : DataW.TrodAll enc Try.prog W 0 (fun _ => true) true Try.f8.params.toList args.toList ds p := hA0
  rw [Try.params8] at hA hval
  obtain ⟨v0, vs0, d0, ds0, p0, q0, hargs, rfl, rfl, h0, r0⟩ := trodAll_cons hA
  obtain ⟨rfl, rfl, rfl⟩ := trodAll_nil r0
  obtain rfl : args = #[v0] := by cases args; simp_all
  obtain ⟨rfl, rfl⟩ := trodVars_none hV
  have hsz : ∀ (j : Nat) (t : TypeId) (d : DataW H), ([25] : List TypeId)[j]? = some t → [d0][j]? = some d → ∀ n ∈ d.weights Try.prog t, n ≤ reachBytes := by
    intro j t d ht hd n hn
    have hsz1 : (DataW.weightsEach Try.prog ([25] : List TypeId) [d0]).all (· ≤ reachBytes) = true := hsz0
    have := List.all_eq_true.1 hsz1 n (DataW.weights_mem_each ht hd n hn)
    simpa using this
  have k0 := h0
  have lt0 : ∀ x ∈ p0, x.block < W.heap.size := by obtain ⟨m, hm⟩ := k0; exact DataW.trod_lt m _ _ _ hm
  obtain ⟨n0, k0b, t0, s0v, l0, rfl, a0, b0l, b0p, _, _, _⟩ := open_book (hval 0 25 v0 rfl rfl) h0 (hsz 0 25 _ rfl rfl)
  refine (walk n0 k0b t0 s0v l0 W a0 b0l b0p).mono fun e W' ⟨he, bel⟩ => ?_
  subst he
  exact ⟨_, rfl, _, _, _, [], _, [], hW', trodAll_mk1 (shut_bool Try.underlying4 _), (trodAll_cons_mk (Below.trod laidOut (by kernel_rfl) (of_decide_eq_true (by kernel_rfl)) k0 bel lt0) trodAll_mk0), rfl, bel.frame _, fun h => by cases h⟩

theorem over : Rows.bookDumpsRow.holds Try.pinned (OpenSpec.ofChange Rows.bookDumpsSpec) :=
  OpenClaim.holds_of_wide 8 Try.f8 rfl rfl rfl rfl rfl rfl rfl ⟨rfl, rfl, rfl, rfl, rfl⟩ rfl rfl rfl rfl rfl (by kernel_rfl) Try.func8 (by kernel_rfl)
    (of_decide_eq_true (by kernel_rfl)) (by unfold Func.isWrapper; first | (rw [if_pos (by decide +kernel)]; kernel_rfl) | (rw [if_neg (by decide +kernel)]; exact ⟨rfl, rfl⟩))
    (fun os started H enc _ => lifted os started H enc)

theorem proved : Rows.BookDumpsSaid := over
#print axioms proved
end Go.Proofs.Ytifdceofglocdaa.bookDumps
