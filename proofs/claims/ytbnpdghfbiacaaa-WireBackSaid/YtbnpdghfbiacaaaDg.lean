/- wire.Decode by contract: bytes that are not those of their message. No condition beyond what each theorem states. -/
import Derived.Test.YtbnpdghfbiacaaaDe
namespace Go.Proofs.Ytbnpdghfbiacaaa
open Go Go.RowKit Go.PlainAid

set_option maxRecDepth 100000 in
set_option maxHeartbeats 8000000 in
theorem decode_ne (A : Option Addr) (c : Nat) (l : List UInt8) (W : World) (hv : ArgB W (.slice A l.length c) l) (hl : l.length ≤ 200) (b0 : List UInt8) (h0 : encS vpP (takeMsg l) = some b0) (hne : b0 ≠ l) :
    Calls Try.prog 11 #[.slice A l.length c] W (DecodeR W l) := by
  have hl3 : ¬ (200 : Int) < (l.length : Int) := by omega
  have hB9 : Bk (W.alloc (.cells #[.int .i64 0, .int .i64 0, .int .i64 0, .int .i64 0, .int .i64 0, .int .i64 0, .int .i64 0, .string ⟨#[]⟩, .int .i64 0, .int .i64 0, .int .i64 0, .bool false, .int .i64 0, .slice none 0 0, .int .i64 0, .int .i64 0] 29)) W.heap.size 29 (mcells {} (.slice none 0 0)) := Bk.new' rfl rfl
  have hK9 := ((Kp.refl No W).alloc (.cells #[.int .i64 0, .int .i64 0, .int .i64 0, .int .i64 0, .int .i64 0, .int .i64 0, .int .i64 0, .string ⟨#[]⟩, .int .i64 0, .int .i64 0, .int .i64 0, .bool false, .int .i64 0, .slice none 0 0, .int .i64 0, .int .i64 0] 29))
  have pr := read_any A c l _ (hv.no hK9) (by omega)
  have HV := Lib.hid hv; have HB := Lib.hid hB9; have HK := Lib.hid hK9
  clear hv hB9 hK9
  go_enter Try.func11, Try.ntmps11
  go_wp2_with fail
  refine pr.mono ?_
  rintro e w1 ⟨sv, rfl, ho, k1⟩
  obtain ⟨A2, c2, rfl, _⟩ := own_len ho
  have kM : Kp No w1 (w1.alloc (.cells (mcells (takeMsg l) (.slice A2 (takeMsg l).stamp.length c2)).toArray 29)) := (Kp.refl No w1).alloc _
  have hM : Bk (w1.alloc (.cells (mcells (takeMsg l) (.slice A2 (takeMsg l).stamp.length c2)).toArray 29)) w1.heap.size 29 (mcells (takeMsg l) (.slice A2 (takeMsg l).stamp.length c2)) := Bk.new' rfl rfl
  have ho2 := own_kp ho kM (fun _ _ m => m)
  have HB1 := Lib.hid ((HB.out.no k1).no kM); have HK1 := Lib.hid ((HK.out.trans k1).trans kM)
  have hW1 : W.heap.size < w1.heap.size := by have := k1.size; simp at this; omega
  have HT := Lib.hid (take_nil); have HDS := Lib.hid (show decS vpP l = if l.length ≤ 200 ∧ encS vpP (takeMsg l) = some l then some (takeMsg l) else none from rfl)
  have H0 := Lib.hid h0; clear h0
  have HNIL := Lib.hid (show l = [] → encS vpP (takeMsg l) = none from fun h => by rw [h]; exact enc_zero _ take_nil)
  have hrng := take_rng l; have hst := take_stamp l; have hpa := take_path l
  clear k1 pr HB HK kM ho
  generalize takeMsg l = m at *
  have pe := encode_any m (.slice A2 m.stamp.length c2) _ (own_slI ho2) hrng ⟨by unfold maxLen; omega, by unfold maxLen; omega⟩
  have HO := Lib.hid (own_mono (base' := W.heap.size) ho2 (by simp))
  have HM := Lib.hid hM
  clear hrng hpa ho2 hM
  unfold mcells at pe HM HB1 HK1 HO ⊢
  go_wp2_with fail
  refine pe.mono ?_
  rintro e w2 ⟨hres, k2⟩
  have HM2 := Lib.hid (HM.out.no k2); have HB9 := Lib.hid (HB1.out.no k2); have HK9 := Lib.hid (HK1.out.trans k2); have HO2 := Lib.hid (own_kp HO.out k2 (fun _ _ m => m))
  clear k2 pe HM HB1 HK1 HO
  have zz := HM2.out; have yy := HB9.out; have yf := HB9.out.frozen
  unfold mcells at zz
  have z0 : w2.cell? ⟨w1.heap.size, 0, none⟩ = some (.int .i64 m.kind) := zz.cell 0
  have z1 : w2.cell? ⟨w1.heap.size, 1, none⟩ = some (.int .i64 m.from_) := zz.cell 1
  have z2 : w2.cell? ⟨w1.heap.size, 2, none⟩ = some (.int .i64 m.dest) := zz.cell 2
  have z3 : w2.cell? ⟨w1.heap.size, 3, none⟩ = some (.int .i64 m.boot) := zz.cell 3
  have z4 : w2.cell? ⟨w1.heap.size, 4, none⟩ = some (.int .i64 m.seq) := zz.cell 4
  have z5 : w2.cell? ⟨w1.heap.size, 5, none⟩ = some (.int .i64 m.low) := zz.cell 5
  have z6 : w2.cell? ⟨w1.heap.size, 6, none⟩ = some (.int .i64 m.verb) := zz.cell 6
  have z7 : w2.cell? ⟨w1.heap.size, 7, none⟩ = some (.string ⟨m.path.toArray⟩) := zz.cell 7
  have z8 : w2.cell? ⟨w1.heap.size, 8, none⟩ = some (.int .i64 m.mode) := zz.cell 8
  have z9 : w2.cell? ⟨w1.heap.size, 9, none⟩ = some (.int .i64 m.term) := zz.cell 9
  have z10 : w2.cell? ⟨w1.heap.size, 10, none⟩ = some (.int .i64 m.id) := zz.cell 10
  have z11 : w2.cell? ⟨w1.heap.size, 11, none⟩ = some (.bool m.fresh) := zz.cell 11
  have z12 : w2.cell? ⟨w1.heap.size, 12, none⟩ = some (.int .i64 m.code) := zz.cell 12
  have z13 : w2.cell? ⟨w1.heap.size, 13, none⟩ = some (.slice A2 m.stamp.length c2) := zz.cell 13
  have z14 : w2.cell? ⟨w1.heap.size, 14, none⟩ = some (.int .i64 m.origin) := zz.cell 14
  have z15 : w2.cell? ⟨w1.heap.size, 15, none⟩ = some (.int .i64 m.number) := zz.cell 15
  have y0 : w2.cell? ⟨W.heap.size, 0, none⟩ = some (.int .i64 0) := yy.cell 0
  have y1 : w2.cell? ⟨W.heap.size, 1, none⟩ = some (.int .i64 0) := yy.cell 1
  have y2 : w2.cell? ⟨W.heap.size, 2, none⟩ = some (.int .i64 0) := yy.cell 2
  have y3 : w2.cell? ⟨W.heap.size, 3, none⟩ = some (.int .i64 0) := yy.cell 3
  have y4 : w2.cell? ⟨W.heap.size, 4, none⟩ = some (.int .i64 0) := yy.cell 4
  have y5 : w2.cell? ⟨W.heap.size, 5, none⟩ = some (.int .i64 0) := yy.cell 5
  have y6 : w2.cell? ⟨W.heap.size, 6, none⟩ = some (.int .i64 0) := yy.cell 6
  have y7 : w2.cell? ⟨W.heap.size, 7, none⟩ = some (.string ⟨#[]⟩) := yy.cell 7
  have y8 : w2.cell? ⟨W.heap.size, 8, none⟩ = some (.int .i64 0) := yy.cell 8
  have y9 : w2.cell? ⟨W.heap.size, 9, none⟩ = some (.int .i64 0) := yy.cell 9
  have y10 : w2.cell? ⟨W.heap.size, 10, none⟩ = some (.int .i64 0) := yy.cell 10
  have y11 : w2.cell? ⟨W.heap.size, 11, none⟩ = some (.bool false) := yy.cell 11
  have y12 : w2.cell? ⟨W.heap.size, 12, none⟩ = some (.int .i64 0) := yy.cell 12
  have y13 : w2.cell? ⟨W.heap.size, 13, none⟩ = some (.slice none 0 0) := yy.cell 13
  have y14 : w2.cell? ⟨W.heap.size, 14, none⟩ = some (.int .i64 0) := yy.cell 14
  have y15 : w2.cell? ⟨W.heap.size, 15, none⟩ = some (.int .i64 0) := yy.cell 15
  clear zz yy
  rcases hres with ⟨henc, rfl⟩ | ⟨v, b, henc, rfl, hob⟩
  · rw [H0.out] at henc; cases henc
  have hle : l ≠ [] := fun h => by rw [HNIL.out h] at henc; cases henc
  have hbe : b ≠ [] := fun h => by
    have := enc_len vpP_len henc
    rw [h] at this; simp at this
  have hc1 := conv_any (own_argB hob) hbe
  have hc2 := conv_any (HV.out.no HK9.out) hle
  obtain ⟨A5, c5, rfl, _⟩ := own_len hob
  clear hob hle hbe
  have hb : b ≠ l := by rw [H0.out] at henc; rw [← Option.some.inj henc]; exact hne
  have HD := Lib.hid (show decS vpP l = none by rw [HDS.out, if_neg]; rintro ⟨_, h⟩; rw [henc] at h; exact hb (Option.some.inj h))
  have hd0 : ((⟨b.toArray⟩ : ByteArray).toList == (⟨l.toArray⟩ : ByteArray).toList) = false := by
    rw [beq_eq_false_iff_ne, ByteArray.toList_eq, ByteArray.toList_eq]; simpa using hb
  have hd1 : ¬ (⟨b.toArray⟩ : ByteArray).toList = (⟨l.toArray⟩ : ByteArray).toList := by
    rw [ByteArray.toList_eq, ByteArray.toList_eq]; simpa using hb
  have HBN := Lib.hid hb
  generalize (⟨b.toArray⟩ : ByteArray) = S1 at *
  generalize (⟨l.toArray⟩ : ByteArray) = S2 at *
  clear henc hb hne
  go_wp2
  have B9 := setMsg (m0 := {}) (sv0 := .slice none 0 0) (m := ({} : Msg)) (sv := (.slice none 0 0)) HB9.out
  have kx : Kp (One W.heap.size) w2 ((((((((((((((((w2.setCell ⟨W.heap.size, 0, none⟩ (.int .i64 0)).setCell ⟨W.heap.size, 1, none⟩ (.int .i64 0)).setCell ⟨W.heap.size, 2, none⟩ (.int .i64 0)).setCell ⟨W.heap.size, 3, none⟩ (.int .i64 0)).setCell ⟨W.heap.size, 4, none⟩ (.int .i64 0)).setCell ⟨W.heap.size, 5, none⟩ (.int .i64 0)).setCell ⟨W.heap.size, 6, none⟩ (.int .i64 0)).setCell ⟨W.heap.size, 7, none⟩ (.string ⟨#[]⟩)).setCell ⟨W.heap.size, 8, none⟩ (.int .i64 0)).setCell ⟨W.heap.size, 9, none⟩ (.int .i64 0)).setCell ⟨W.heap.size, 10, none⟩ (.int .i64 0)).setCell ⟨W.heap.size, 11, none⟩ (.bool false)).setCell ⟨W.heap.size, 12, none⟩ (.int .i64 0)).setCell ⟨W.heap.size, 13, none⟩ (.slice none 0 0)).setCell ⟨W.heap.size, 14, none⟩ (.int .i64 0)).setCell ⟨W.heap.size, 15, none⟩ (.int .i64 0)) := (((((((((((((((((Kp.refl (One W.heap.size) w2).set (.inl rfl) 0 _).set (.inl rfl) 1 _).set (.inl rfl) 2 _).set (.inl rfl) 3 _).set (.inl rfl) 4 _).set (.inl rfl) 5 _).set (.inl rfl) 6 _).set (.inl rfl) 7 _).set (.inl rfl) 8 _).set (.inl rfl) 9 _).set (.inl rfl) 10 _).set (.inl rfl) 11 _).set (.inl rfl) 12 _).set (.inl rfl) 13 _).set (.inl rfl) 14 _).set (.inl rfl) 15 _)
  have e9 : Bk ((((((((((((((((w2.setCell ⟨W.heap.size, 0, none⟩ (.int .i64 0)).setCell ⟨W.heap.size, 1, none⟩ (.int .i64 0)).setCell ⟨W.heap.size, 2, none⟩ (.int .i64 0)).setCell ⟨W.heap.size, 3, none⟩ (.int .i64 0)).setCell ⟨W.heap.size, 4, none⟩ (.int .i64 0)).setCell ⟨W.heap.size, 5, none⟩ (.int .i64 0)).setCell ⟨W.heap.size, 6, none⟩ (.int .i64 0)).setCell ⟨W.heap.size, 7, none⟩ (.string ⟨#[]⟩)).setCell ⟨W.heap.size, 8, none⟩ (.int .i64 0)).setCell ⟨W.heap.size, 9, none⟩ (.int .i64 0)).setCell ⟨W.heap.size, 10, none⟩ (.int .i64 0)).setCell ⟨W.heap.size, 11, none⟩ (.bool false)).setCell ⟨W.heap.size, 12, none⟩ (.int .i64 0)).setCell ⟨W.heap.size, 13, none⟩ (.slice none 0 0)).setCell ⟨W.heap.size, 14, none⟩ (.int .i64 0)).setCell ⟨W.heap.size, 15, none⟩ (.int .i64 0)) W.heap.size 29 (mcells ({} : Msg) (.slice none 0 0)) := B9
  clear B9
  have B9 := e9
  clear e9
  generalize ((((((((((((((((w2.setCell ⟨W.heap.size, 0, none⟩ (.int .i64 0)).setCell ⟨W.heap.size, 1, none⟩ (.int .i64 0)).setCell ⟨W.heap.size, 2, none⟩ (.int .i64 0)).setCell ⟨W.heap.size, 3, none⟩ (.int .i64 0)).setCell ⟨W.heap.size, 4, none⟩ (.int .i64 0)).setCell ⟨W.heap.size, 5, none⟩ (.int .i64 0)).setCell ⟨W.heap.size, 6, none⟩ (.int .i64 0)).setCell ⟨W.heap.size, 7, none⟩ (.string ⟨#[]⟩)).setCell ⟨W.heap.size, 8, none⟩ (.int .i64 0)).setCell ⟨W.heap.size, 9, none⟩ (.int .i64 0)).setCell ⟨W.heap.size, 10, none⟩ (.int .i64 0)).setCell ⟨W.heap.size, 11, none⟩ (.bool false)).setCell ⟨W.heap.size, 12, none⟩ (.int .i64 0)).setCell ⟨W.heap.size, 13, none⟩ (.slice none 0 0)).setCell ⟨W.heap.size, 14, none⟩ (.int .i64 0)).setCell ⟨W.heap.size, 15, none⟩ (.int .i64 0)) = w9 at *
  have x0 := B9.cell 0
  have x1 := B9.cell 1
  have x2 := B9.cell 2
  have x3 := B9.cell 3
  have x4 := B9.cell 4
  have x5 := B9.cell 5
  have x6 := B9.cell 6
  have x7 := B9.cell 7
  have x8 := B9.cell 8
  have x9 := B9.cell 9
  have x10 := B9.cell 10
  have x11 := B9.cell 11
  have x12 := B9.cell 12
  have x13 := B9.cell 13
  have x14 := B9.cell 14
  have x15 := B9.cell 15
  simp only [mcells, List.getElem?_cons_zero, List.getElem?_cons_succ] at x0 x1 x2 x3 x4 x5 x6 x7 x8 x9 x10 x11 x12 x13 x14 x15
  have HX9 := Lib.hid kx
  clear kx B9
  refine bodyPost_ret (v := .tuple #[.agg (mcells ({} : Msg) (.slice none 0 0)).toArray, .int .i64 21]) (by simp [results, Try.results11, go_sem, x0, x1, x2, x3, x4, x5, x6, x7, x8, x9, x10, x11, x12, x13, x14, x15, mcells]) rfl ?_
  have K9 : Kp No W w9 := HK9.out.then_ HX9.out fun j hj e => by
    have e : j = W.heap.size := e
    omega
  exact decR_none HD.out rfl K9
end Go.Proofs.Ytbnpdghfbiacaaa
