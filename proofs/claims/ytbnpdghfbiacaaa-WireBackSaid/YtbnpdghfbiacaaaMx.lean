/- The message that is taken up from bytes, by contract (wire). No condition beyond what each theorem states. -/
import Derived.Test.YtbnpdghfbiacaaaMw
namespace Go.Proofs.Ytbnpdghfbiacaaa
open Go Go.RowKit Go.PlainAid

theorem rdNums_le (k : Nat) (s : Rd) : (rdNums k s).1.length = k ∧ (rdNums k s).2.1.length ≤ s.1.length := rdNums_len k s
/-- what a field that is taken up may do to lengths and numbers -/
def Mild (f : Fld) : Prop := ∀ (s : Rd) (m : Msg), (f.inn s m).1.path.length ≤ max 200 m.path.length ∧ (f.inn s m).1.stamp.length ≤ m.stamp.length + 5 ∧ (f.inn s m).2.1.length ≤ s.1.length
theorem inn_mild (m0 : Msg) : ∀ f ∈ fieldsF vpP m0, Mild f := by
  have n1 : Mild fBoot := fun s m => ⟨by simp only [fBoot, fN]; omega, by simp only [fBoot, fN]; omega, rdNum_le s⟩
  have n2 : Mild fSeq := fun s m => ⟨by simp only [fSeq, fN]; omega, by simp only [fSeq, fN]; omega, rdNum_le s⟩
  have n3 : Mild fLow := fun s m => ⟨by simp only [fLow, fN]; omega, by simp only [fLow, fN]; omega, rdNum_le s⟩
  have n4 : Mild fVerb := fun s m => ⟨by simp only [fVerb, fN]; omega, by simp only [fVerb, fN]; omega, rdNum_le s⟩
  have n5 : Mild fCode := fun s m => ⟨by simp only [fCode, fN]; omega, by simp only [fCode, fN]; omega, rdNum_le s⟩
  have n6 : Mild fMode := fun s m => ⟨by simp only [fMode, fN]; omega, by simp only [fMode, fN]; omega, rdNum_le s⟩
  have n7 : Mild fTerm := fun s m => ⟨by simp only [fTerm, fN]; omega, by simp only [fTerm, fN]; omega, rdNum_le s⟩
  have n8 : Mild fGrant := fun s m => ⟨by simp only [fGrant, fN]; omega, by simp only [fGrant, fN]; omega, rdNum_le s⟩
  have n9 : Mild fId := fun s m => ⟨by simp only [fId, fN]; omega, by simp only [fId, fN]; omega, rdNum_le s⟩
  have n10 : Mild fOrigin := fun s m => ⟨by simp only [fOrigin, fN]; omega, by simp only [fOrigin, fN]; omega, rdNum_le s⟩
  have n11 : Mild fNumber := fun s m => ⟨by simp only [fNumber, fN]; omega, by simp only [fNumber, fN]; omega, rdNum_le s⟩
  have n12 : Mild (fPath vpP) := fun s m => ⟨by have := (rdText_le 200 s).2; simp only [fPath]; omega, by simp only [fPath]; omega, (rdText_le 200 s).1⟩
  have n13 : Mild fFresh := fun s m => ⟨by simp only [fFresh]; omega, by simp only [fFresh]; omega, rdNum_le s⟩
  have n14 : Mild fStamp := fun s m => by
    have h1 := rdNums_len (min (rdNum s).1 5) (rdNum s).2
    have h2 := rdNum_le s
    refine ⟨by simp only [fStamp]; omega, ?_, ?_⟩
    · simp only [fStamp, rdCnts, List.length_append, List.length_map, h1.1]; omega
    · simp only [fStamp, rdCnts]; omega
  have n15 : Mild fNone := fun s m => ⟨by simp only [fNone]; omega, by simp only [fNone]; omega, Nat.le_refl _⟩
  unfold fieldsF askedF
  repeat' split
  all_goals
    intro f hf'
    simp only [List.mem_append, List.mem_cons, List.not_mem_nil, or_false, List.append_nil] at hf'
  all_goals first
    | (rcases hf' with (rfl | rfl | rfl | rfl) | rfl | rfl | rfl <;> assumption)
    | (rcases hf' with (rfl | rfl | rfl) | rfl | rfl | rfl <;> assumption)
    | (rcases hf' with (rfl | rfl | rfl | rfl) | rfl <;> assumption)
    | (rcases hf' with rfl | rfl | rfl | rfl <;> assumption)
    | (rcases hf' with rfl | rfl | rfl <;> assumption)
    | (exact hf'.elim)
theorem setMsg {w : World} {k : Nat} {m m0 : Msg} {sv sv0 : Value} (B : Bk w k 29 (mcells m0 sv0)) : Bk ((((((((((((((((w.setCell ⟨k, 0, none⟩ (.int .i64 m.kind)).setCell ⟨k, 1, none⟩ (.int .i64 m.from_)).setCell ⟨k, 2, none⟩ (.int .i64 m.dest)).setCell ⟨k, 3, none⟩ (.int .i64 m.boot)).setCell ⟨k, 4, none⟩ (.int .i64 m.seq)).setCell ⟨k, 5, none⟩ (.int .i64 m.low)).setCell ⟨k, 6, none⟩ (.int .i64 m.verb)).setCell ⟨k, 7, none⟩ (.string ⟨m.path.toArray⟩)).setCell ⟨k, 8, none⟩ (.int .i64 m.mode)).setCell ⟨k, 9, none⟩ (.int .i64 m.term)).setCell ⟨k, 10, none⟩ (.int .i64 m.id)).setCell ⟨k, 11, none⟩ (.bool m.fresh)).setCell ⟨k, 12, none⟩ (.int .i64 m.code)).setCell ⟨k, 13, none⟩ sv).setCell ⟨k, 14, none⟩ (.int .i64 m.origin)).setCell ⟨k, 15, none⟩ (.int .i64 m.number)) k 29 (mcells m sv) := by
  have h := ((((((((((((((((B.set_ 0 (.int .i64 m.kind)).set_ 1 (.int .i64 m.from_)).set_ 2 (.int .i64 m.dest)).set_ 3 (.int .i64 m.boot)).set_ 4 (.int .i64 m.seq)).set_ 5 (.int .i64 m.low)).set_ 6 (.int .i64 m.verb)).set_ 7 (.string ⟨m.path.toArray⟩)).set_ 8 (.int .i64 m.mode)).set_ 9 (.int .i64 m.term)).set_ 10 (.int .i64 m.id)).set_ 11 (.bool m.fresh)).set_ 12 (.int .i64 m.code)).set_ 13 sv).set_ 14 (.int .i64 m.origin)).set_ 15 (.int .i64 m.number))
  exact h
def ReadR (W : World) (l : List UInt8) (e : Ending) (w' : World) : Prop := ∃ sv, e = .returned (.agg (mcells (takeMsg l) sv).toArray) ∧ w'.ownsRow W.heap.size 3 1 sv (takeMsg l).stamp.length (ints (takeMsg l).stamp) ∧ Kp No W w'
set_option maxRecDepth 100000 in
set_option maxHeartbeats 4000000 in
theorem read_any (A : Option Addr) (c : Nat) (l : List UInt8) (W : World) (hv : ArgB W (.slice A l.length c) l) (hl : l.length ≤ 1000) : Calls Try.prog 22 #[.slice A l.length c] W (ReadR W l) := by
  have HV := Lib.hid hv; clear hv
  have pn := newr_any A c l (W.alloc (.cells #[.int .i64 0, .int .i64 0, .int .i64 0, .int .i64 0, .int .i64 0, .int .i64 0, .int .i64 0, .string ⟨#[]⟩, .int .i64 0, .int .i64 0, .int .i64 0, .bool false, .int .i64 0, .slice none 0 0, .int .i64 0, .int .i64 0] 29)) (HV.out.no ((Kp.refl No W).alloc _)) (by omega)
  go_enter Try.func22, Try.ntmps22
  go_wp2_with fail
  refine pn.mono ?_
  rintro e w1 ⟨b, v, rfl, hb1, hb2, hr, k1, ht⟩
  have hR : RdS w1 b (l, 0) := ⟨v, hr, ht⟩
  have bres := ((Bk.new' rfl rfl : Bk (W.alloc (.cells #[.int .i64 0, .int .i64 0, .int .i64 0, .int .i64 0, .int .i64 0, .int .i64 0, .int .i64 0, .string ⟨#[]⟩, .int .i64 0, .int .i64 0, .int .i64 0, .bool false, .int .i64 0, .slice none 0 0, .int .i64 0, .int .i64 0] 29)) W.heap.size 29 (mcells {} (.slice none 0 0)))).no k1
  have hszb : W.heap.size + 1 ≤ b := by simpa using hb1
  have K1 : Kp No W w1 := ((Kp.refl No W).alloc _).trans k1
  have HK := Lib.hid K1; have HB := Lib.hid bres
  clear hr ht k1 K1 bres pn hb1 hb2
  have pa := rd_num b (l, 0) w1 hR (by unfold maxLen; simp; omega)
  have hle0 : (rdNum (l, 0)).2.1.length ≤ l.length := rdNum_le (l, 0)
  have hR0 : True := trivial
  go_wp2_with fail
  refine pa.mono ?_
  rintro e w2 ⟨rfl, hR2, k2⟩
  have K2 := Lib.hid (HK.out.then_ k2 (fun i hi hm => by have e : i = b := hm; omega) : Kp No W w2)
  have HB2 := Lib.hid (HB.out.kp k2 (fun e => by have e : W.heap.size = b := e; omega))
  clear hR k2 pa HK HB
  have pb := rd_num b _ w2 hR2 (by unfold maxLen; omega)
  have hle1 := rdNum_le (rdNum (l, 0)).2
  go_wp2_with fail
  refine pb.mono ?_
  rintro e w3 ⟨rfl, hR3, k3⟩
  have K3 := Lib.hid (K2.out.then_ k3 (fun i hi hm => by have e : i = b := hm; omega) : Kp No W w3)
  have HB3 := Lib.hid (HB2.out.kp k3 (fun e => by have e : W.heap.size = b := e; omega))
  clear hR2 k3 pb K2 HB2
  have pc := rd_num b _ w3 hR3 (by unfold maxLen; omega)
  have hle2 := rdNum_le (rdNum (rdNum (l, 0)).2).2
  go_wp2_with fail
  refine pc.mono ?_
  rintro e w4 ⟨rfl, hR4, k4⟩
  have K4 := Lib.hid (K3.out.then_ k4 (fun i hi hm => by have e : i = b := hm; omega) : Kp No W w4)
  have HB4 := Lib.hid (HB3.out.kp k4 (fun e => by have e : W.heap.size = b := e; omega))
  have HGO := Lib.hid (goF_take vpP l)
  have HR4 := Lib.hid (show RdS w4 b (headR l) from hR4)
  have HL4 := Lib.hid (show (headR l).1.length ≤ 1000 by unfold headR; omega)
  clear hR3 hR4 k4 pc K3 HB3 hle0 hle1 hle2 hR0
  have hbG : b < w4.heap.size := by obtain ⟨cs, h⟩ := HR4.out.rdr; exact h.lt
  have hM0 : Bk (w4.alloc (.cells (mcells (headM l) (.slice none 0 0)).toArray 29)) w4.heap.size 29 (mcells (headM l) (.slice none 0 0)) := Bk.new' rfl rfl
  have hR0 := HR4.out.no ((Kp.refl No w4).alloc (.cells (mcells (headM l) (.slice none 0 0)).toArray 29))
  have hB0 := HB4.out.alloc (.cells (mcells (headM l) (.slice none 0 0)).toArray 29)
  have hK0 := K4.out.alloc (.cells (mcells (headM l) (.slice none 0 0)).toArray 29)
  go_wp2
  generalize hg : w4.heap.size = G at *
  have HM0 := Lib.hid hM0; have HR0 := Lib.hid hR0; have HB0 := Lib.hid hB0; have HK0 := Lib.hid hK0
  clear hM0 hR0 hB0 hK0 hg
  go_loopw [5] (fun t wr => ∃ (i : Nat) (m : Msg) (s : Rd) (sv : Value), i ≤ 7 ∧ t = .int .i64 i ∧ Bk wr G 29 (mcells m sv) ∧ wr.ownsRow W.heap.size 3 1 sv m.stamp.length (ints m.stamp) ∧ RdS wr b s ∧ Bk wr W.heap.size 29 (mcells {} (.slice none 0 0)) ∧ Kp No W wr ∧ goF vpP (8 - i) i m s = takeMsg l ∧ s.1.length ≤ 1000 ∧ m.path.length ≤ 200 ∧ m.stamp.length ≤ 5 * i) (fun t _ => 8 - (intOf t).toNat)
  case atStart => exact ⟨0, headM l, headR l, .slice none 0 0, by omega, rfl, HM0.out, nil_own _ _ _ _, HR0.out, HB0.out, HK0.out, HGO.out, HL4.out, by simp [headM], by simp [headM]⟩
  case round =>
    obtain ⟨i, m, s, sv, hi, rfl, hmb, ho, hr, hres, hk, hgo, hsl, hml, hst⟩ := hrel
    have pf := fields_any G m sv wr ⟨hmb, own_slI ho⟩
    have HMB := Lib.hid hmb; have HO := Lib.hid ho; have HR := Lib.hid hr; have HRES := Lib.hid hres; have HKW := Lib.hid hk; have HG := Lib.hid hgo
    clear hmb ho hr hres hk hgo
    go_wp2_with fail
    refine pf.mono ?_
    rintro e w1 ⟨fv, rfl, hfs, k1⟩
    obtain ⟨A1, c1, rfl⟩ := hfs.form
    have HB1 := Lib.hid (HMB.out.no k1); have HO1 := Lib.hid (own_kp HO.out k1 (fun _ _ m => m)); have HR1 := Lib.hid (HR.out.no k1); have HS1 := Lib.hid (HRES.out.no k1); have HK1 := Lib.hid (HKW.out.trans k1)
    have hle7 := fields_le vpP m
    clear k1 hfs pf HMB HO HR HRES HKW
    by_cases hlt : i < (fieldsF vpP m).length
    · have hi1 : (i : Int) < ((fieldsF vpP m).length : Int) := by omega
      have hi0 : (0 : Int) ≤ (i : Int) := by omega
      have pf2 := fields_any G m sv w1 ⟨HB1.out, own_slI HO1.out⟩
      have HGS := Lib.hid (show goF vpP (7 - i) (i + 1) (((fieldsF vpP m)[i]'hlt).inn s m).1 (((fieldsF vpP m)[i]'hlt).inn s m).2 = takeMsg l by
        rw [← HG.out, show 8 - i = (7 - i) + 1 by omega, goF_step vpP hlt])
      have hmild := inn_mild m _ (List.getElem_mem hlt) s m
      have HMI := Lib.hid hmild
      have HAT := Lib.hid (fun (w : World) (B : Nat) (sv : Value) (h : FsAt w B sv (fieldsF vpP m)) => h.at_ hlt)
      clear hmild HG
      generalize (fieldsF vpP m)[i] = fl at *
      go_wp2_with fail
      refine pf2.mono ?_
      rintro e w2 ⟨fv2, rfl, hfs2, k2⟩
      obtain ⟨g', c', v', rfl, c0, c1', c2, hv'⟩ := HAT.out _ _ _ hfs2
      have HB2 := Lib.hid (HB1.out.no k2); have HO2 := Lib.hid (own_kp HO1.out k2 (fun _ _ m => m)); have HR2 := Lib.hid (HR1.out.no k2); have HS2 := Lib.hid (HS1.out.no k2); have HK2 := Lib.hid (HK1.out.trans k2)
      have we : ∀ (args : Array Value) (w : World), (callFunc v'.rn args).run Try.prog w = .ok (.enter v'.rn args) w := hv'.re
      have pr := hv'.read w2 (Stay.refl w2) G m sv b s W.heap.size HB2.out HO2.out HR2.out HK2.out.size hsl ⟨by omega, by omega⟩
      clear hfs2 k2 pf2 hv' HB1 HO1 HR1 HS1 HK1 HAT
      go_wp2_with fail
      refine pr.mono ?_
      rintro e w3 ⟨rfl, sv3, b3, o3, r3, k3, n3⟩
      have q1 := Lib.hid b3; have q2 := Lib.hid o3; have q3 := Lib.hid r3
      have q4 := Lib.hid (show Bk w3 W.heap.size 29 (mcells {} (.slice none 0 0)) from HS2.out.kp k3 (by
        rintro (e | e | e)
        · omega
        · omega
        · exact own_ne HO2.out HS2.out (by decide) e))
      have q5 := Lib.hid (show Kp No W w3 from HK2.out.then_ k3 (by
        rintro j hj (e | e | e)
        · omega
        · omega
        · have := (HO2.out.lt j e).1; omega))
      clear b3 o3 r3 k3 n3 pr
      go_wp2
      go_roundw
      case rel => exact ⟨i + 1, (fl.inn s m).1, (fl.inn s m).2, sv3, by omega, by go_num, q1.out, q2.out, q3.out, q4.out, q5.out, by rw [show 8 - (i + 1) = 7 - i by omega]; exact HGS.out, by have := HMI.out.2.2; omega, by have := HMI.out.1; omega, by have := HMI.out.2.1; omega⟩
      case measure => simp [intOf]; omega
    · have hi1 : ¬ (i : Int) < ((fieldsF vpP m).length : Int) := by omega
      have hE : m = takeMsg l := by rw [← HG.out, goF_end vpP (by omega)]
      obtain ⟨A2, c2, hsv, _⟩ := own_len HO1.out
      subst hsv
      have hmb := HB1.out; have hres := HS1.out; have zf := HS1.out.frozen
      have z0 : w1.cell? ⟨G, 0, none⟩ = some (.int .i64 m.kind) := hmb.cell 0
      have z1 : w1.cell? ⟨G, 1, none⟩ = some (.int .i64 m.from_) := hmb.cell 1
      have z2 : w1.cell? ⟨G, 2, none⟩ = some (.int .i64 m.dest) := hmb.cell 2
      have z3 : w1.cell? ⟨G, 3, none⟩ = some (.int .i64 m.boot) := hmb.cell 3
      have z4 : w1.cell? ⟨G, 4, none⟩ = some (.int .i64 m.seq) := hmb.cell 4
      have z5 : w1.cell? ⟨G, 5, none⟩ = some (.int .i64 m.low) := hmb.cell 5
      have z6 : w1.cell? ⟨G, 6, none⟩ = some (.int .i64 m.verb) := hmb.cell 6
      have z7 : w1.cell? ⟨G, 7, none⟩ = some (.string ⟨m.path.toArray⟩) := hmb.cell 7
      have z8 : w1.cell? ⟨G, 8, none⟩ = some (.int .i64 m.mode) := hmb.cell 8
      have z9 : w1.cell? ⟨G, 9, none⟩ = some (.int .i64 m.term) := hmb.cell 9
      have z10 : w1.cell? ⟨G, 10, none⟩ = some (.int .i64 m.id) := hmb.cell 10
      have z11 : w1.cell? ⟨G, 11, none⟩ = some (.bool m.fresh) := hmb.cell 11
      have z12 : w1.cell? ⟨G, 12, none⟩ = some (.int .i64 m.code) := hmb.cell 12
      have z13 : w1.cell? ⟨G, 13, none⟩ = some (.slice A2 m.stamp.length c2) := hmb.cell 13
      have z14 : w1.cell? ⟨G, 14, none⟩ = some (.int .i64 m.origin) := hmb.cell 14
      have z15 : w1.cell? ⟨G, 15, none⟩ = some (.int .i64 m.number) := hmb.cell 15
      have y0 : w1.cell? ⟨W.heap.size, 0, none⟩ = some (.int .i64 0) := hres.cell 0
      have y1 : w1.cell? ⟨W.heap.size, 1, none⟩ = some (.int .i64 0) := hres.cell 1
      have y2 : w1.cell? ⟨W.heap.size, 2, none⟩ = some (.int .i64 0) := hres.cell 2
      have y3 : w1.cell? ⟨W.heap.size, 3, none⟩ = some (.int .i64 0) := hres.cell 3
      have y4 : w1.cell? ⟨W.heap.size, 4, none⟩ = some (.int .i64 0) := hres.cell 4
      have y5 : w1.cell? ⟨W.heap.size, 5, none⟩ = some (.int .i64 0) := hres.cell 5
      have y6 : w1.cell? ⟨W.heap.size, 6, none⟩ = some (.int .i64 0) := hres.cell 6
      have y7 : w1.cell? ⟨W.heap.size, 7, none⟩ = some (.string ⟨#[]⟩) := hres.cell 7
      have y8 : w1.cell? ⟨W.heap.size, 8, none⟩ = some (.int .i64 0) := hres.cell 8
      have y9 : w1.cell? ⟨W.heap.size, 9, none⟩ = some (.int .i64 0) := hres.cell 9
      have y10 : w1.cell? ⟨W.heap.size, 10, none⟩ = some (.int .i64 0) := hres.cell 10
      have y11 : w1.cell? ⟨W.heap.size, 11, none⟩ = some (.bool false) := hres.cell 11
      have y12 : w1.cell? ⟨W.heap.size, 12, none⟩ = some (.int .i64 0) := hres.cell 12
      have y13 : w1.cell? ⟨W.heap.size, 13, none⟩ = some (.slice none 0 0) := hres.cell 13
      have y14 : w1.cell? ⟨W.heap.size, 14, none⟩ = some (.int .i64 0) := hres.cell 14
      have y15 : w1.cell? ⟨W.heap.size, 15, none⟩ = some (.int .i64 0) := hres.cell 15
      have HE := Lib.hid hE
      clear hmb hres hE hlt
      go_wp2
      have B2 := setMsg (m := m) (sv := .slice A2 m.stamp.length c2) HS1.out
      have kx : Kp (One W.heap.size) w1 ((((((((((((((((w1.setCell ⟨W.heap.size, 0, none⟩ (.int .i64 m.kind)).setCell ⟨W.heap.size, 1, none⟩ (.int .i64 m.from_)).setCell ⟨W.heap.size, 2, none⟩ (.int .i64 m.dest)).setCell ⟨W.heap.size, 3, none⟩ (.int .i64 m.boot)).setCell ⟨W.heap.size, 4, none⟩ (.int .i64 m.seq)).setCell ⟨W.heap.size, 5, none⟩ (.int .i64 m.low)).setCell ⟨W.heap.size, 6, none⟩ (.int .i64 m.verb)).setCell ⟨W.heap.size, 7, none⟩ (.string ⟨m.path.toArray⟩)).setCell ⟨W.heap.size, 8, none⟩ (.int .i64 m.mode)).setCell ⟨W.heap.size, 9, none⟩ (.int .i64 m.term)).setCell ⟨W.heap.size, 10, none⟩ (.int .i64 m.id)).setCell ⟨W.heap.size, 11, none⟩ (.bool m.fresh)).setCell ⟨W.heap.size, 12, none⟩ (.int .i64 m.code)).setCell ⟨W.heap.size, 13, none⟩ (.slice A2 m.stamp.length c2)).setCell ⟨W.heap.size, 14, none⟩ (.int .i64 m.origin)).setCell ⟨W.heap.size, 15, none⟩ (.int .i64 m.number)) := (((((((((((((((((Kp.refl (One W.heap.size) w1).set (.inl rfl) 0 _).set (.inl rfl) 1 _).set (.inl rfl) 2 _).set (.inl rfl) 3 _).set (.inl rfl) 4 _).set (.inl rfl) 5 _).set (.inl rfl) 6 _).set (.inl rfl) 7 _).set (.inl rfl) 8 _).set (.inl rfl) 9 _).set (.inl rfl) 10 _).set (.inl rfl) 11 _).set (.inl rfl) 12 _).set (.inl rfl) 13 _).set (.inl rfl) 14 _).set (.inl rfl) 15 _)
      generalize ((((((((((((((((w1.setCell ⟨W.heap.size, 0, none⟩ (.int .i64 m.kind)).setCell ⟨W.heap.size, 1, none⟩ (.int .i64 m.from_)).setCell ⟨W.heap.size, 2, none⟩ (.int .i64 m.dest)).setCell ⟨W.heap.size, 3, none⟩ (.int .i64 m.boot)).setCell ⟨W.heap.size, 4, none⟩ (.int .i64 m.seq)).setCell ⟨W.heap.size, 5, none⟩ (.int .i64 m.low)).setCell ⟨W.heap.size, 6, none⟩ (.int .i64 m.verb)).setCell ⟨W.heap.size, 7, none⟩ (.string ⟨m.path.toArray⟩)).setCell ⟨W.heap.size, 8, none⟩ (.int .i64 m.mode)).setCell ⟨W.heap.size, 9, none⟩ (.int .i64 m.term)).setCell ⟨W.heap.size, 10, none⟩ (.int .i64 m.id)).setCell ⟨W.heap.size, 11, none⟩ (.bool m.fresh)).setCell ⟨W.heap.size, 12, none⟩ (.int .i64 m.code)).setCell ⟨W.heap.size, 13, none⟩ (.slice A2 m.stamp.length c2)).setCell ⟨W.heap.size, 14, none⟩ (.int .i64 m.origin)).setCell ⟨W.heap.size, 15, none⟩ (.int .i64 m.number)) = w5 at *
      have x0 := B2.cell 0
      have x1 := B2.cell 1
      have x2 := B2.cell 2
      have x3 := B2.cell 3
      have x4 := B2.cell 4
      have x5 := B2.cell 5
      have x6 := B2.cell 6
      have x7 := B2.cell 7
      have x8 := B2.cell 8
      have x9 := B2.cell 9
      have x10 := B2.cell 10
      have x11 := B2.cell 11
      have x12 := B2.cell 12
      have x13 := B2.cell 13
      have x14 := B2.cell 14
      have x15 := B2.cell 15
      simp only [mcells, List.getElem?_cons_zero, List.getElem?_cons_succ] at x0 x1 x2 x3 x4 x5 x6 x7 x8 x9 x10 x11 x12 x13 x14 x15
      have HX := Lib.hid kx
      clear kx B2 z0 y0 z1 y1 z2 y2 z3 y3 z4 y4 z5 y5 z6 y6 z7 y7 z8 y8 z9 y9 z10 y10 z11 y11 z12 y12 z13 y13 z14 y14 z15 y15
      refine bodyPost_ret (v := .agg (mcells m (.slice A2 m.stamp.length c2)).toArray) (by simp [results, Try.results22, go_sem, x0, x1, x2, x3, x4, x5, x6, x7, x8, x9, x10, x11, x12, x13, x14, x15, mcells]) rfl ?_
      refine ⟨_, by rw [← HE.out], ?_, HK1.out.then_ HX.out fun j hj e => ?_⟩
      · rw [← HE.out]
        exact own_kp HO1.out HX.out fun k e h => own_ne HO1.out HS1.out (by decide) (by rw [e, show k = W.heap.size from h])
      · have e : j = W.heap.size := e
        omega
end Go.Proofs.Ytbnpdghfbiacaaa
