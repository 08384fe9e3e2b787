/- wire.Decode by contract: bytes that are a message's. No condition beyond what each theorem states. -/
import Derived.Test.YtbnpdghfbiacaaaDe
namespace Go.Proofs.Ytbnpdghfbiacaaa
open Go Go.RowKit Go.PlainAid

set_option maxRecDepth 100000 in
set_option maxHeartbeats 8000000 in
theorem decode_ok (A : Option Addr) (c : Nat) (l : List UInt8) (W : World) (hv : ArgB W (.slice A l.length c) l) (hl : l.length ≤ 200) (h0 : encS vpP (takeMsg l) = some l) :
    Calls Try.prog 11 #[.slice A l.length c] W (DecodeR W l) := by
  have hl3 : ¬ (200 : Int) < (l.length : Int) := by omega
  have hB9 : Bk (W.alloc (.cells #[.int .i64 0, .int .i64 0, .int .i64 0, .int .i64 0, .int .i64 0, .int .i64 0, .int .i64 0, .string ⟨#[]⟩, .int .i64 0, .int .i64 0, .int .i64 0, .bool false, .int .i64 0, .slice none 0 0, .int .i64 0, .int .i64 0] 29)) W.heap.size 29 (mcells {} (.slice none 0 0)) := Bk.new' rfl rfl
  have hK9 := ((Kp.refl No W).alloc (.cells #[.int .i64 0, .int .i64 0, .int .i64 0, .int .i64 0, .int .i64 0, .int .i64 0, .int .i64 0, .string ⟨#[]⟩, .int .i64 0, .int .i64 0, .int .i64 0, .bool false, .int .i64 0, .slice none 0 0, .int .i64 0, .int .i64 0] 29))
  have pr := read_any A c l _ (hv.no hK9) (by omega)
  have HV := Lib.hid hv; have HB := Lib.hid hB9; have HK := Lib.hid hK9
  clear hv hB9 hK9
  go_enter Try.func11, Try.ntmps11
  go_wp2_with fail
  refine pr.mono ?_
  rintro e w1 ⟨sv, rfl, ho, k1⟩
  obtain ⟨A2, c2, rfl, _⟩ := own_len ho
  have kM : Kp No w1 (w1.alloc (.cells (mcells (takeMsg l) (.slice A2 (takeMsg l).stamp.length c2)).toArray 29)) := (Kp.refl No w1).alloc _
  have hM : Bk (w1.alloc (.cells (mcells (takeMsg l) (.slice A2 (takeMsg l).stamp.length c2)).toArray 29)) w1.heap.size 29 (mcells (takeMsg l) (.slice A2 (takeMsg l).stamp.length c2)) := Bk.new' rfl rfl
  have ho2 := own_kp ho kM (fun _ _ m => m)
  have HB1 := Lib.hid ((HB.out.no k1).no kM); have HK1 := Lib.hid ((HK.out.trans k1).trans kM)
  have hW1 : W.heap.size < w1.heap.size := by have := k1.size; simp at this; omega
  have HT := Lib.hid (take_nil); have HDS := Lib.hid (show decS vpP l = if l.length ≤ 200 ∧ encS vpP (takeMsg l) = some l then some (takeMsg l) else none from rfl)
  have H0 := Lib.hid h0; clear h0
  have HNIL := Lib.hid (show l = [] → encS vpP (takeMsg l) = none from fun h => by rw [h]; exact enc_zero _ take_nil)
  have hrng := take_rng l; have hst := take_stamp l; have hpa := take_path l
  clear k1 pr HB HK kM ho
  generalize takeMsg l = m at *
  have pe := encode_any m (.slice A2 m.stamp.length c2) _ (own_slI ho2) hrng ⟨by unfold maxLen; omega, by unfold maxLen; omega⟩
  have HO := Lib.hid (own_mono (base' := W.heap.size) ho2 (by simp))
  have HM := Lib.hid hM
  clear hrng hpa ho2 hM
  unfold mcells at pe HM HB1 HK1 HO ⊢
  go_wp2_with fail
  refine pe.mono ?_
  rintro e w2 ⟨hres, k2⟩
  have HM2 := Lib.hid (HM.out.no k2); have HB9 := Lib.hid (HB1.out.no k2); have HK9 := Lib.hid (HK1.out.trans k2); have HO2 := Lib.hid (own_kp HO.out k2 (fun _ _ m => m))
  clear k2 pe HM HB1 HK1 HO
  have zz := HM2.out; have yy := HB9.out; have yf := HB9.out.frozen
  unfold mcells at zz
  have z0 : w2.cell? ⟨w1.heap.size, 0, none⟩ = some (.int .i64 m.kind) := zz.cell 0
  have z1 : w2.cell? ⟨w1.heap.size, 1, none⟩ = some (.int .i64 m.from_) := zz.cell 1
  have z2 : w2.cell? ⟨w1.heap.size, 2, none⟩ = some (.int .i64 m.dest) := zz.cell 2
  have z3 : w2.cell? ⟨w1.heap.size, 3, none⟩ = some (.int .i64 m.boot) := zz.cell 3
  have z4 : w2.cell? ⟨w1.heap.size, 4, none⟩ = some (.int .i64 m.seq) := zz.cell 4
  have z5 : w2.cell? ⟨w1.heap.size, 5, none⟩ = some (.int .i64 m.low) := zz.cell 5
  have z6 : w2.cell? ⟨w1.heap.size, 6, none⟩ = some (.int .i64 m.verb) := zz.cell 6
  have z7 : w2.cell? ⟨w1.heap.size, 7, none⟩ = some (.string ⟨m.path.toArray⟩) := zz.cell 7
  have z8 : w2.cell? ⟨w1.heap.size, 8, none⟩ = some (.int .i64 m.mode) := zz.cell 8
  have z9 : w2.cell? ⟨w1.heap.size, 9, none⟩ = some (.int .i64 m.term) := zz.cell 9
  have z10 : w2.cell? ⟨w1.heap.size, 10, none⟩ = some (.int .i64 m.id) := zz.cell 10
  have z11 : w2.cell? ⟨w1.heap.size, 11, none⟩ = some (.bool m.fresh) := zz.cell 11
  have z12 : w2.cell? ⟨w1.heap.size, 12, none⟩ = some (.int .i64 m.code) := zz.cell 12
  have z13 : w2.cell? ⟨w1.heap.size, 13, none⟩ = some (.slice A2 m.stamp.length c2) := zz.cell 13
  have z14 : w2.cell? ⟨w1.heap.size, 14, none⟩ = some (.int .i64 m.origin) := zz.cell 14
  have z15 : w2.cell? ⟨w1.heap.size, 15, none⟩ = some (.int .i64 m.number) := zz.cell 15
  have y0 : w2.cell? ⟨W.heap.size, 0, none⟩ = some (.int .i64 0) := yy.cell 0
  have y1 : w2.cell? ⟨W.heap.size, 1, none⟩ = some (.int .i64 0) := yy.cell 1
  have y2 : w2.cell? ⟨W.heap.size, 2, none⟩ = some (.int .i64 0) := yy.cell 2
  have y3 : w2.cell? ⟨W.heap.size, 3, none⟩ = some (.int .i64 0) := yy.cell 3
  have y4 : w2.cell? ⟨W.heap.size, 4, none⟩ = some (.int .i64 0) := yy.cell 4
  have y5 : w2.cell? ⟨W.heap.size, 5, none⟩ = some (.int .i64 0) := yy.cell 5
  have y6 : w2.cell? ⟨W.heap.size, 6, none⟩ = some (.int .i64 0) := yy.cell 6
  have y7 : w2.cell? ⟨W.heap.size, 7, none⟩ = some (.string ⟨#[]⟩) := yy.cell 7
  have y8 : w2.cell? ⟨W.heap.size, 8, none⟩ = some (.int .i64 0) := yy.cell 8
  have y9 : w2.cell? ⟨W.heap.size, 9, none⟩ = some (.int .i64 0) := yy.cell 9
  have y10 : w2.cell? ⟨W.heap.size, 10, none⟩ = some (.int .i64 0) := yy.cell 10
  have y11 : w2.cell? ⟨W.heap.size, 11, none⟩ = some (.bool false) := yy.cell 11
  have y12 : w2.cell? ⟨W.heap.size, 12, none⟩ = some (.int .i64 0) := yy.cell 12
  have y13 : w2.cell? ⟨W.heap.size, 13, none⟩ = some (.slice none 0 0) := yy.cell 13
  have y14 : w2.cell? ⟨W.heap.size, 14, none⟩ = some (.int .i64 0) := yy.cell 14
  have y15 : w2.cell? ⟨W.heap.size, 15, none⟩ = some (.int .i64 0) := yy.cell 15
  clear zz yy
  rcases hres with ⟨henc, rfl⟩ | ⟨v, b, henc, rfl, hob⟩
  · rw [H0.out] at henc; cases henc
  have hle : l ≠ [] := fun h => by rw [HNIL.out h] at henc; cases henc
  have hbe : b ≠ [] := fun h => by
    have := enc_len vpP_len henc
    rw [h] at this; simp at this
  have hc1 := conv_any (own_argB hob) hbe
  have hc2 := conv_any (HV.out.no HK9.out) hle
  obtain ⟨A5, c5, rfl, _⟩ := own_len hob
  clear hob hle hbe
  have HD := Lib.hid (show decS vpP l = some m by rw [HDS.out, if_pos ⟨hl, H0.out⟩])
  have hb : b = l := by rw [H0.out] at henc; exact (Option.some.inj henc).symm
  subst hb
  clear henc
  generalize (⟨b.toArray⟩ : ByteArray) = S1 at *
  go_upto_region 7 with (fail)
  clear z0 z1 z2 z3 z4 z5 z6 z7 z8 z9 z10 z11 z12 z13 z14 z15 y0 y1 y2 y3 y4 y5 y6 y7 y8 y9 y10 y11 y12 y13 y14 y15 yf hc1 hc2
  have HMF := Lib.hid (show Bk w2 w1.heap.size 29 (mcells m (.slice A2 m.stamp.length c2)) from HM2.out)
  have HBF := Lib.hid (show Bk w2 W.heap.size 29 (mcells {} (.slice none 0 0)) from HB9.out)
  have hu := Try.underlying29
  have hi1 : Hid ((Try.prog.info? 29).map (·.size) = some (mcells m (.slice A2 m.stamp.length c2)).length) := Lib.hid (by kernel_rfl)
  have hi2 : Hid ((Try.prog.info? 29).map (·.size) = some (mcells m (.slice A2 m.stamp.length c2)).toArray.size) := Lib.hid (by kernel_rfl)
  have h1c : Hid ((mcells m (.slice A2 m.stamp.length c2)).toArray.all (·.oneCell') = true) := Lib.hid (by simp [mcells, Value.oneCell'])
  have HUH := Lib.hid hu; clear hu
  have hlc : Hid ((mcells m (.slice A2 m.stamp.length c2)).length = 16) := Lib.hid rfl
  have HTH := Lib.hid (show w2.there W.heap.size 0 (mcells m (.slice A2 m.stamp.length c2)).toArray.size from HBF.out.there 0 16 (by simp [mcells]))
  have HRG := Lib.hid (range_of HMF.out)
  have HCV := Lib.hid (show ∀ W9 : World, Bk W9 W.heap.size 29 (mcells m (.slice A2 m.stamp.length c2)) → Kp No W W9 → Kp (One W.heap.size) w2 W9 → DecodeR W b (.returned (.tuple #[.agg (mcells m (.slice A2 m.stamp.length c2)).toArray, .int .i64 0])) W9 from fun W9 b9 k9 kx =>
    decR_some HD.out rfl (own_kp HO2.out kx fun k e h => own_ne HO2.out HB9.out (by decide) (by rw [e, show k = W.heap.size from h])) k9)
  have HBS := Lib.hid (show Bk (w2.setCells W.heap.size 0 (mcells m (.slice A2 m.stamp.length c2))) W.heap.size 29 (mcells m (.slice A2 m.stamp.length c2)) from by
    have := Bk.sets (mcells m (.slice A2 m.stamp.length c2)) 0 HBF.out (by simp [mcells])
    simpa [mcells] using this)
  have HKX := Lib.hid (show Kp (One W.heap.size) w2 (w2.setCells W.heap.size 0 (mcells m (.slice A2 m.stamp.length c2))) from Kp.sets _ 0 (Kp.refl _ _) (.inl rfl))
  have HKN := Lib.hid (show Kp No W (w2.setCells W.heap.size 0 (mcells m (.slice A2 m.stamp.length c2))) from HK9.out.then_ HKX.out fun j hj e => by
    have e : j = W.heap.size := e
    omega)
  generalize hcs : mcells m (.slice A2 m.stamp.length c2) = cs at *
  have HCS := Lib.hid hcs; clear hcs
  go_wp2_with (first
    | (refine wpList_load_mid rfl _ _ rfl w1.heap.size 0 rfl cs _ HRG.out HUH.out rfl hi1.out ?_)
    | (refine wpList_store_mid rfl _ _ _ rfl W.heap.size 0 cs.toArray rfl rfl HTH.out hi2.out h1c.out ?_))
  have hfin := HCV.out _ HBS.out HKN.out HKX.out
  have B9 := HBS.out
  clear HBS HKX HKN
  generalize w2.setCells W.heap.size 0 cs = w9 at *
  rw [← HCS.out] at B9 hfin
  clear HCV HRG HTH h1c hi1 hi2 HUH HMF HBF HCS HM2 HB9
  have x0 := B9.cell 0
  have x1 := B9.cell 1
  have x2 := B9.cell 2
  have x3 := B9.cell 3
  have x4 := B9.cell 4
  have x5 := B9.cell 5
  have x6 := B9.cell 6
  have x7 := B9.cell 7
  have x8 := B9.cell 8
  have x9 := B9.cell 9
  have x10 := B9.cell 10
  have x11 := B9.cell 11
  have x12 := B9.cell 12
  have x13 := B9.cell 13
  have x14 := B9.cell 14
  have x15 := B9.cell 15
  simp only [mcells, List.getElem?_cons_zero, List.getElem?_cons_succ] at x0 x1 x2 x3 x4 x5 x6 x7 x8 x9 x10 x11 x12 x13 x14 x15
  clear B9
  refine bodyPost_ret (v := .tuple #[.agg (mcells m (.slice A2 m.stamp.length c2)).toArray, .int .i64 0]) (by simp [results, Try.results11, go_sem, x0, x1, x2, x3, x4, x5, x6, x7, x8, x9, x10, x11, x12, x13, x14, x15, mcells]) rfl hfin
end Go.Proofs.Ytbnpdghfbiacaaa
