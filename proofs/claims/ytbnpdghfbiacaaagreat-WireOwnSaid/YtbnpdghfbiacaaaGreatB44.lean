/- The document's Decode by contract. No condition beyond what each theorem states. -/
import Derived.Test.YtbnpdghfbiacaaaGreatB38
import Derived.Test.YtbnpdghfbiacaaaGreatB42
import Derived.Test.YtbnpdghfbiacaaaGreatB13
namespace Go.Proofs.YtbnpdghfbiacaaaGreat
open Go Go.RowKit Go.PlainAid

set_option maxRecDepth 100000 in
set_option maxHeartbeats 8000000 in
theorem rdecode_other (A : Option Addr) (c : Nat) (l : List UInt8) (W : World) (hv : ArgB W (.slice A l.length c) l) (hl : l.length ≤ 200) (b0 : List UInt8) (h0 : encS vpP (takeMsg l) = some b0) (hne : b0 ≠ l) :
    Calls Tryz.prog 14 #[.slice A l.length c] W (DecodeR W l) := by
  have hl3 : ¬ (200 : Int) < (l.length : Int) := by omega
  have HV := Lib.hid hv; have HL := Lib.hid hl
  have hB : l ≠ [] → ∀ g, (Value.slice A l.length c).ownBlock = some g → g < W.heap.size := fun h0 g hg => by
    obtain ⟨g', o, c', e, _, hx⟩ := hv.at_ (List.length_pos_iff.2 h0)
    have h := hx 0 _ (List.getElem?_eq_getElem (List.length_pos_iff.2 h0))
    rw [e] at hg
    have hg : g' = g := by simpa [Value.ownBlock] using hg
    subst hg
    exact World.block_lt_of_cell? W _ h
  have HR := Lib.hid (show Bk (((W.alloc (.cells (mcells ({} : Msg) (.slice none 0 0)).toArray 28)).alloc (.cells #[.slice A l.length c, .int .i64 0] 69)).alloc (.cells (mcells ({} : Msg) (.slice none 0 0)).toArray 28)) W.heap.size 28 (mcells ({} : Msg) (.slice none 0 0)) from ((Bk.new' rfl rfl).alloc _).alloc _)
  have HM := Lib.hid (show Bk (((W.alloc (.cells (mcells ({} : Msg) (.slice none 0 0)).toArray 28)).alloc (.cells #[.slice A l.length c, .int .i64 0] 69)).alloc (.cells (mcells ({} : Msg) (.slice none 0 0)).toArray 28)) (W.heap.size + 2) 28 (mcells ({} : Msg) (.slice none 0 0)) from Bk.new' (by simp) rfl)
  have HK := Lib.hid (show Kp No W (((W.alloc (.cells (mcells ({} : Msg) (.slice none 0 0)).toArray 28)).alloc (.cells #[.slice A l.length c, .int .i64 0] 69)).alloc (.cells (mcells ({} : Msg) (.slice none 0 0)).toArray 28)) from (((Kp.refl No W).alloc _).alloc _).alloc _)
  have HT := Lib.hid (show TkS (((W.alloc (.cells (mcells ({} : Msg) (.slice none 0 0)).toArray 28)).alloc (.cells #[.slice A l.length c, .int .i64 0] 69)).alloc (.cells (mcells ({} : Msg) (.slice none 0 0)).toArray 28)) (W.heap.size + 1) W.heap.size (l, 0) from ⟨A, c, (Bk.new' (by simp) rfl).alloc _, hv.no HK.out, hB⟩)
  have HDS := Lib.hid (show decS vpP l = if l.length ≤ 200 ∧ encS vpP (takeMsg l) = some l then some (takeMsg l) else none from rfl)
  have H0 := Lib.hid h0
  have HNIL := Lib.hid (show l = [] → encS vpP (takeMsg l) = none from fun h => by rw [h]; exact enc_zero _ take_nil)
  have hrng := take_rng l; have hst := take_stamp l; have hpa := take_path l
  have HRG := Lib.hid hrng; have HST := Lib.hid hst; have HPA := Lib.hid hpa
  clear hv hB h0 hrng hst hpa hl
  obtain ⟨k, s1, e0⟩ : ∃ n s', rdNum (l, 0) = (n, s') := ⟨_, _, rfl⟩
  obtain ⟨f, s2, e1⟩ : ∃ n s', rdNum s1 = (n, s') := ⟨_, _, rfl⟩
  obtain ⟨t, s3, e2⟩ : ∃ n s', rdNum s2 = (n, s') := ⟨_, _, rfl⟩
  have HFM := Lib.hid (show fieldsM k f t s3 = takeMsg l by
    have h := take_fields l
    rw [e0] at h; simp only at h; rw [e1] at h; simp only at h; rw [e2] at h; simp only at h; exact h.symm)
  have g0 : (l, (0 : Int)).1.length ≤ 200 := HL.out
  have g1 : s1.1.length ≤ 200 := by have h := rdNum_le (l, 0); rw [e0] at h; simp only at h; have := HL.out; omega
  have g2 : s2.1.length ≤ 200 := by have h := rdNum_le s1; rw [e1] at h; simp only at h; omega
  have g3 : s3.1.length ≤ 200 := by have h := rdNum_le s2; rw [e2] at h; simp only at h; omega
  have nTM : ¬ One (W.heap.size + 1) (W.heap.size + 2) := fun e => by
    have e : W.heap.size + 2 = W.heap.size + 1 := e
    omega
  have nTR : ¬ One (W.heap.size + 1) W.heap.size := fun e => by
    have e : W.heap.size = W.heap.size + 1 := e
    omega
  have nMR : ¬ One (W.heap.size + 2) W.heap.size := fun e => by
    have e : W.heap.size = W.heap.size + 2 := e
    omega
  have nMT : ¬ One (W.heap.size + 2) (W.heap.size + 1) := fun e => by
    have e : W.heap.size + 1 = W.heap.size + 2 := e
    omega
  have nMB : ∀ g, One (W.heap.size + 2) g → W.heap.size ≤ g := fun g e => by
    have e : g = W.heap.size + 2 := e
    omega
  have nT : ∀ i, i < W.heap.size → One (W.heap.size + 1) i → No i := fun i hi e => by
    have e : i = W.heap.size + 1 := e
    omega
  have pn := tnum_any (W.heap.size + 1) W.heap.size (l, 0) (((W.alloc (.cells (mcells ({} : Msg) (.slice none 0 0)).toArray 28)).alloc (.cells #[.slice A l.length c, .int .i64 0] 69)).alloc (.cells (mcells ({} : Msg) (.slice none 0 0)).toArray 28)) HT.out (by omega) (by unfold maxLen; omega)
  rw [e0] at pn
  simp only at pn
  unfold mcells at pn
  go_enter Tryz.func14, Tryz.ntmps14
  go_wp2_with fail
  refine pn.mono ?_
  rintro e w0 ⟨rfl, t0, k0⟩
  have HM := Lib.hid (HM.out.kp k0 nTM); have HR := Lib.hid (HR.out.kp k0 nTR); have HK := Lib.hid (HK.out.then_ k0 nT); have HT := Lib.hid t0
  clear t0 k0 pn
  have zc : w0.cell? ⟨W.heap.size + 2, 0, none⟩ = some (.int .i64 0) := HM.out.cell 0
  have yf := HM.out.frozen
  have HM := Lib.hid (show Bk (w0.setCell ⟨(W.heap.size + 2), 0, none⟩ (.int .i64 (k : Int))) (W.heap.size + 2) 28 (mcells (⟨(k : Int), 0, 0, 0, 0, 0, 0, [], 0, 0, 0, false, 0, [], 0, 0⟩ : Msg) (.slice none 0 0)) from HM.out.set_ 0 _)
  have HR := Lib.hid (HR.out.kp ((Kp.refl (One (W.heap.size + 2)) w0).set (.inl rfl) 0 (.int .i64 (k : Int))) nMR)
  have HK := Lib.hid (HK.out.set (.inr (by omega)) 0 (.int .i64 (k : Int)) : Kp No W (w0.setCell ⟨(W.heap.size + 2), 0, none⟩ (.int .i64 (k : Int))))
  have HT := Lib.hid (HT.out.kp ((Kp.refl (One (W.heap.size + 2)) w0).set (.inl rfl) 0 (.int .i64 (k : Int))) nMT nMB)
  have pn := tnum_any (W.heap.size + 1) W.heap.size s1 (w0.setCell ⟨(W.heap.size + 2), 0, none⟩ (.int .i64 (k : Int))) HT.out (by omega) (by unfold maxLen; omega)
  rw [e1] at pn
  simp only at pn
  go_wp2_with fail
  refine pn.mono ?_
  rintro e w1 ⟨rfl, t1, k1⟩
  have HM := Lib.hid (HM.out.kp k1 nTM); have HR := Lib.hid (HR.out.kp k1 nTR); have HK := Lib.hid (HK.out.then_ k1 nT); have HT := Lib.hid t1
  clear t1 k1 pn zc yf
  have zc : w1.cell? ⟨W.heap.size + 2, 1, none⟩ = some (.int .i64 0) := HM.out.cell 1
  have yf := HM.out.frozen
  have HM := Lib.hid (show Bk (w1.setCell ⟨(W.heap.size + 2), 1, none⟩ (.int .i64 (f : Int))) (W.heap.size + 2) 28 (mcells (⟨(k : Int), (f : Int), 0, 0, 0, 0, 0, [], 0, 0, 0, false, 0, [], 0, 0⟩ : Msg) (.slice none 0 0)) from HM.out.set_ 1 _)
  have HR := Lib.hid (HR.out.kp ((Kp.refl (One (W.heap.size + 2)) w1).set (.inl rfl) 1 (.int .i64 (f : Int))) nMR)
  have HK := Lib.hid (HK.out.set (.inr (by omega)) 1 (.int .i64 (f : Int)) : Kp No W (w1.setCell ⟨(W.heap.size + 2), 1, none⟩ (.int .i64 (f : Int))))
  have HT := Lib.hid (HT.out.kp ((Kp.refl (One (W.heap.size + 2)) w1).set (.inl rfl) 1 (.int .i64 (f : Int))) nMT nMB)
  have pn := tnum_any (W.heap.size + 1) W.heap.size s2 (w1.setCell ⟨(W.heap.size + 2), 1, none⟩ (.int .i64 (f : Int))) HT.out (by omega) (by unfold maxLen; omega)
  rw [e2] at pn
  simp only at pn
  go_wp2_with fail
  refine pn.mono ?_
  rintro e w2 ⟨rfl, t2, k2⟩
  have HM := Lib.hid (HM.out.kp k2 nTM); have HR := Lib.hid (HR.out.kp k2 nTR); have HK := Lib.hid (HK.out.then_ k2 nT); have HT := Lib.hid t2
  clear t2 k2 pn zc yf
  have zc : w2.cell? ⟨W.heap.size + 2, 2, none⟩ = some (.int .i64 0) := HM.out.cell 2
  have yf := HM.out.frozen
  have HM := Lib.hid (show Bk (w2.setCell ⟨(W.heap.size + 2), 2, none⟩ (.int .i64 (t : Int))) (W.heap.size + 2) 28 (mcells (⟨(k : Int), (f : Int), (t : Int), 0, 0, 0, 0, [], 0, 0, 0, false, 0, [], 0, 0⟩ : Msg) (.slice none 0 0)) from HM.out.set_ 2 _)
  have HR := Lib.hid (HR.out.kp ((Kp.refl (One (W.heap.size + 2)) w2).set (.inl rfl) 2 (.int .i64 (t : Int))) nMR)
  have HK := Lib.hid (HK.out.set (.inr (by omega)) 2 (.int .i64 (t : Int)) : Kp No W (w2.setCell ⟨(W.heap.size + 2), 2, none⟩ (.int .i64 (t : Int))))
  have HT := Lib.hid (HT.out.kp ((Kp.refl (One (W.heap.size + 2)) w2).set (.inl rfl) 2 (.int .i64 (t : Int))) nMT nMB)
  go_upto_region 8 with (fail)
  clear zc yf
  generalize hwz : (w2.setCell ⟨(W.heap.size + 2), 2, none⟩ (.int .i64 (t : Int))) = wz at *
  clear hwz
  have pf := tfields_any k f t s3 (W.heap.size + 1) W.heap.size wz HT.out (by omega) (by omega)
  rw [HFM.out] at pf
  have HOWN := Lib.hid (show W.heap.size ≤ wz.heap.size from HK.out.size)
  clear e0 e1 e2 g0 g1 g2 g3 HFM
  obtain ⟨z0, z1, z2, z3, z4, z5, z6, z7, z8, z9, z10, z11, z12, z13, z14, z15⟩ := cells16 HM.out
  dsimp only at z0 z1 z2 z3 z4 z5 z6 z7 z8 z9 z10 z11 z12 z13 z14 z15
  generalize takeMsg l = m at *
  simp only [mcells] at pf
  go_wp2_with fail
  refine pf.mono ?_
  rintro e w5 ⟨sv, rfl, ho, k5⟩
  obtain ⟨A2, c2, rfl, _⟩ := own_len ho
  have HO := Lib.hid (own_mono (base' := W.heap.size) ho HOWN.out)
  have HM5 := Lib.hid (HM.out.kp k5 nTM); have HR5 := Lib.hid (HR.out.kp k5 nTR); have HK5 := Lib.hid (HK.out.then_ k5 nT)
  clear ho k5 pf z0 z1 z2 z3 z4 z5 z6 z7 z8 z9 z10 z11 z12 z13 z14 z15 HM HR HK HT HOWN
  generalize hcs : mcells m (.slice A2 m.stamp.length c2) = cs at *
  have HCS := Lib.hid hcs
  have hlc : Hid (cs.length = 16) := Lib.hid (by rw [← hcs]; rfl)
  have hi1 : Hid ((Tryz.prog.info? 28).map (·.size) = some cs.length) := Lib.hid (by rw [← hcs]; kernel_rfl)
  have hi2 : Hid ((Tryz.prog.info? 28).map (·.size) = some cs.toArray.size) := Lib.hid (by rw [← hcs]; kernel_rfl)
  have h1c : Hid (cs.toArray.all (·.oneCell') = true) := Lib.hid (by rw [← hcs]; simp [mcells, Value.oneCell'])
  have HAGG := Lib.hid (show (.agg #[.int .i64 m.kind, .int .i64 m.from_, .int .i64 m.dest, .int .i64 m.boot, .int .i64 m.seq, .int .i64 m.low, .int .i64 m.verb, .string ⟨m.path.toArray⟩, .int .i64 m.mode, .int .i64 m.term, .int .i64 m.id, .bool m.fresh, .int .i64 m.code, .slice A2 m.stamp.length c2, .int .i64 m.origin, .int .i64 m.number] : Value) = .agg cs.toArray by rw [← hcs]; rfl)
  clear hcs
  try rw [HAGG.out]
  have HUH := Lib.hid (Tryz.underlying28)
  have HTH := Lib.hid (show w5.there (W.heap.size + 2) 0 cs.toArray.size from HM5.out.there 0 _ (by have := hlc.out; simp [mcells]; omega))
  have HM6 := Lib.hid (show Bk (w5.setCells (W.heap.size + 2) 0 cs) (W.heap.size + 2) 28 cs from by
    have h := Bk.sets cs 0 HM5.out (by have := hlc.out; simp [mcells]; omega)
    rw [List.take_zero, List.nil_append, List.drop_of_length_le (by have := hlc.out; simp [mcells]; omega), List.append_nil] at h
    exact h)
  have kx : Kp (One (W.heap.size + 2)) w5 (w5.setCells (W.heap.size + 2) 0 cs) := Kp.sets _ 0 (Kp.refl _ _) (.inl rfl)
  have HR6 := Lib.hid (HR5.out.kp kx nMR)
  have HK6 := Lib.hid (show Kp No W (w5.setCells (W.heap.size + 2) 0 cs) from Kp.sets _ 0 HK5.out (.inr (by omega)))
  have HO6 := Lib.hid (own_kp HO.out kx fun g e h => own_ne HO.out HM5.out (by decide) (by rw [e, show g = W.heap.size + 2 from h]))
  have HRG6 := Lib.hid (range_of HM6.out)
  clear kx HM5 HR5 HK5 HO
  go_wp2_with (first
    | (refine wpList_store_mid rfl _ _ _ rfl (W.heap.size + 2) 0 cs.toArray rfl rfl HTH.out hi2.out h1c.out ?_)
    | (refine wpList_load_mid rfl _ _ rfl (W.heap.size + 2) 0 rfl cs _ HRG6.out HUH.out rfl hi1.out ?_))
  clear HTH HRG6
  generalize w5.setCells (W.heap.size + 2) 0 cs = w6 at *
  have pe := rencode_any m A2 c2 w6 (own_argI HO6.out) (by have := HST.out; unfold maxLen; omega) HRG.out (by have := HPA.out; omega)
  rw [HCS.out] at pe
  refine pe.mono ?_
  rintro e w7 ⟨hres, k7⟩
  have HM7 := Lib.hid (HM6.out.no k7); have HR7 := Lib.hid (HR6.out.no k7); have HK7 := Lib.hid (HK6.out.trans k7); have HO7 := Lib.hid (own_kp HO6.out k7 (fun _ _ m => m))
  clear k7 pe HM6 HR6 HK6 HO6 HST HRG HPA nTM nTR nMR nMT nMB nT HAGG hl3
  rcases hres with ⟨henc, rfl⟩ | ⟨v, b, henc, rfl, hob⟩
  · rw [H0.out] at henc; cases henc
  have hle : l ≠ [] := fun h => by rw [HNIL.out h] at henc; cases henc
  have hbe : b ≠ [] := fun h => by
    have := enc_len vpP_len henc
    rw [h] at this; simp at this
  have hc1 := conv_any (own_argB hob) hbe
  have hc2 := conv_any (HV.out.no HK7.out) hle
  obtain ⟨A5, c5, rfl, _⟩ := own_len hob
  clear hob hle hbe
  have hb : b ≠ l := by rw [H0.out] at henc; rw [← Option.some.inj henc]; exact hne
  have HD := Lib.hid (show decS vpP l = none by rw [HDS.out, if_neg]; rintro ⟨_, h⟩; rw [henc] at h; exact hb (Option.some.inj h))
  have hd0 : ((⟨b.toArray⟩ : ByteArray).toList == (⟨l.toArray⟩ : ByteArray).toList) = false := by
    rw [beq_eq_false_iff_ne, ByteArray.toList_eq, ByteArray.toList_eq]; simpa using hb
  have hd1 : ¬ (⟨b.toArray⟩ : ByteArray).toList = (⟨l.toArray⟩ : ByteArray).toList := by
    rw [ByteArray.toList_eq, ByteArray.toList_eq]; simpa using hb
  have HBN := Lib.hid hb
  generalize (⟨b.toArray⟩ : ByteArray) = S1 at *
  generalize (⟨l.toArray⟩ : ByteArray) = S2 at *
  clear henc hb hne
  have hzl : Hid ((mcells ({} : Msg) (.slice none 0 0)).length = 16) := Lib.hid rfl
  have hz2 : Hid ((Tryz.prog.info? 28).map (·.size) = some (mcells ({} : Msg) (.slice none 0 0)).toArray.size) := Lib.hid (by kernel_rfl)
  have hz1 : Hid ((mcells ({} : Msg) (.slice none 0 0)).toArray.all (·.oneCell') = true) := Lib.hid (by simp [mcells, Value.oneCell'])
  have HTZ := Lib.hid (show w7.there W.heap.size 0 (mcells ({} : Msg) (.slice none 0 0)).toArray.size from HR7.out.there 0 16 (by simp [mcells]))
  have HRZ := Lib.hid (show Bk (w7.setCells W.heap.size 0 (mcells ({} : Msg) (.slice none 0 0))) W.heap.size 28 (mcells ({} : Msg) (.slice none 0 0)) from by
    have := Bk.sets (mcells ({} : Msg) (.slice none 0 0)) 0 HR7.out (by simp [mcells])
    simpa [mcells] using this)
  have HKZ := Lib.hid (show Kp No W (w7.setCells W.heap.size 0 (mcells ({} : Msg) (.slice none 0 0))) from Kp.sets _ 0 HK7.out (.inr (Nat.le_refl _)))
  generalize hzs : (mcells ({} : Msg) (.slice none 0 0)) = zs at *
  have HZS := Lib.hid hzs
  have HAZ := Lib.hid (show (.agg #[.int .i64 0, .int .i64 0, .int .i64 0, .int .i64 0, .int .i64 0, .int .i64 0, .int .i64 0, .string ⟨#[]⟩, .int .i64 0, .int .i64 0, .int .i64 0, .bool false, .int .i64 0, .slice none 0 0, .int .i64 0, .int .i64 0] : Value) = .agg zs.toArray by rw [← hzs]; rfl)
  clear hzs
  go_wp2_with (refine wpList_store_mid rfl _ _ _ rfl W.heap.size 0 zs.toArray rfl HAZ.out HTZ.out hz2.out hz1.out ?_)
  have B9 := HRZ.out
  have hfin := decR_none HD.out rfl HKZ.out
  clear HTZ HRZ hz1 hz2 hzl HKZ
  generalize w7.setCells W.heap.size 0 zs = w9 at *
  rw [← HZS.out] at B9
  have x0 := B9.cell 0
  have x1 := B9.cell 1
  have x2 := B9.cell 2
  have x3 := B9.cell 3
  have x4 := B9.cell 4
  have x5 := B9.cell 5
  have x6 := B9.cell 6
  have x7 := B9.cell 7
  have x8 := B9.cell 8
  have x9 := B9.cell 9
  have x10 := B9.cell 10
  have x11 := B9.cell 11
  have x12 := B9.cell 12
  have x13 := B9.cell 13
  have x14 := B9.cell 14
  have x15 := B9.cell 15
  simp only [mcells, List.getElem?_cons_zero, List.getElem?_cons_succ] at x0 x1 x2 x3 x4 x5 x6 x7 x8 x9 x10 x11 x12 x13 x14 x15
  refine bodyPost_ret (v := .tuple #[.agg (mcells ({} : Msg) (.slice none 0 0)).toArray, .int .i64 21]) (by simp [results, Tryz.results14, go_sem, x0, x1, x2, x3, x4, x5, x6, x7, x8, x9, x10, x11, x12, x13, x14, x15, mcells]) rfl ?_
  exact hfin
end Go.Proofs.YtbnpdghfbiacaaaGreat
