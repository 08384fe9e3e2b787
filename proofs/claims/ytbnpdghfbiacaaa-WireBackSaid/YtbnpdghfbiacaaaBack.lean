/- WireBack: decoding an encoded message gives the message back, for every message. No condition. -/
import Derived.Test.YtbnpdghfbiacaaaAk
import Derived.Test.YtbnpdghfbiacaaaJm
import Derived.Test.YtbnpdghfbiacaaaSi
import Derived.ProofKit
import Derived.OpenShut
import Derived.ShutString
import Derived.ChangeOld
import Derived.SizedLaws
import Derived.Below
namespace Go.Proofs.Ytbnpdghfbiacaaa.wireBack
open Go.ChangeShapes Go.WideShapes Go.ChangeAt Go.RowKit
open Go.ChangeMaps (open_string shut_string)

theorem own : ownKnob Try.prog.godebug = none := by kernel_rfl
theorem laidOut : laidOutB Try.prog = true := by kernel_rfl
set_option maxRecDepth 100000 in
set_option maxHeartbeats 4000000 in
theorem walk (m : Msg) (A : Option Addr) (c : Nat) (W : World) (ha : ArgInts W (.slice A m.stamp.length c) m.stamp) (hr : Rng m) (hs : Short maxLen m) (hl : m.stamp.length ≤ 17592186043904) :
    Calls Try.prog 4 #[.agg (mcells m (.slice A m.stamp.length c)).toArray] W fun e w' => e = .returned (.bool true) ∧ Below W.heap.size W w' := by
  have kA : Kp No W (W.alloc (.cells (mcells m (.slice A m.stamp.length c)).toArray 29)) := (Kp.refl No W).alloc _
  have hB : Bk (W.alloc (.cells (mcells m (.slice A m.stamp.length c)).toArray 29)) W.heap.size 29 (mcells m (.slice A m.stamp.length c)) := Bk.new' rfl rfl
  have pa := awake_any (W.alloc (.cells (mcells m (.slice A m.stamp.length c)).toArray 29))
  have HA := Lib.hid (ha.no kA); have HB := Lib.hid hB; have HK := Lib.hid kA; have HR := Lib.hid hr; have HS := Lib.hid hs; have HL := Lib.hid hl
  have hu := Lib.hid Try.underlying29
  have hi : Hid ((Try.prog.info? 29).map (·.size) = some (mcells m (.slice A m.stamp.length c)).length) := Lib.hid (by kernel_rfl)
  clear ha hB kA hr hs hl
  simp only [mcells] at pa HB HK HA
  have HB0 := Lib.hid (show Bk _ W.heap.size 29 (mcells m (.slice A m.stamp.length c)) from HB.out)
  clear HB
  unfold mcells
  go_enter Try.func4, Try.ntmps4
  go_wp2_with fail
  refine pa.mono ?_
  rintro e w1 ⟨rfl, k1⟩
  have HB1 := Lib.hid (HB0.out.no k1); have K1 := Lib.hid (HK.out.trans k1); have HA1 := Lib.hid (HA.out.no k1)
  clear pa k1 HB0 HK HA
  have po := own_any m (.slice A m.stamp.length c) w1 HA1.out (by have := HL.out; omega)
  go_wp2_with (refine wpList_load_mid rfl _ _ rfl W.heap.size 0 rfl (mcells m (.slice A m.stamp.length c)) _ (range_of HB1.out) hu.out rfl hi.out ?_)
  refine po.mono ?_
  rintro e w2 ⟨sv, rfl, ho, k2⟩
  have K2 := Lib.hid (K1.out.trans k2); have HB2 := Lib.hid (HB1.out.no k2); have HA2 := Lib.hid (HA1.out.no k2)
  have pe := encode_any m sv w2 (own_slI ho) HR.out HS.out
  clear po ho k2
  go_wp2_with fail
  refine pe.mono ?_
  rintro e w3 ⟨hres, k3⟩
  have K3 := Lib.hid (K2.out.trans k3); have HB3 := Lib.hid (HB2.out.no k3); have HA3 := Lib.hid (HA2.out.no k3)
  clear pe k3
  rcases hres with ⟨henc, rfl⟩ | ⟨v, b, henc, rfl, hob⟩
  · have HN := Lib.hid (show decide (mayS vpP m) = false by
      rw [decide_eq_false_iff_not]; intro h; unfold encS at henc; rw [if_pos h] at henc; cases henc)
    clear henc
    have po2 := own_any m (.slice A m.stamp.length c) w3 HA3.out (by have := HL.out; omega)
    have z0 : w3.cell? ⟨W.heap.size, 0, none⟩ = some (.int .i64 m.kind) := HB3.out.cell 0
    have z1 : w3.cell? ⟨W.heap.size, 1, none⟩ = some (.int .i64 m.from_) := HB3.out.cell 1
    have z2 : w3.cell? ⟨W.heap.size, 2, none⟩ = some (.int .i64 m.dest) := HB3.out.cell 2
    have z3 : w3.cell? ⟨W.heap.size, 3, none⟩ = some (.int .i64 m.boot) := HB3.out.cell 3
    have z4 : w3.cell? ⟨W.heap.size, 4, none⟩ = some (.int .i64 m.seq) := HB3.out.cell 4
    have z5 : w3.cell? ⟨W.heap.size, 5, none⟩ = some (.int .i64 m.low) := HB3.out.cell 5
    have z6 : w3.cell? ⟨W.heap.size, 6, none⟩ = some (.int .i64 m.verb) := HB3.out.cell 6
    have z7 : w3.cell? ⟨W.heap.size, 7, none⟩ = some (.string ⟨m.path.toArray⟩) := HB3.out.cell 7
    have z8 : w3.cell? ⟨W.heap.size, 8, none⟩ = some (.int .i64 m.mode) := HB3.out.cell 8
    have z9 : w3.cell? ⟨W.heap.size, 9, none⟩ = some (.int .i64 m.term) := HB3.out.cell 9
    have z10 : w3.cell? ⟨W.heap.size, 10, none⟩ = some (.int .i64 m.id) := HB3.out.cell 10
    have z11 : w3.cell? ⟨W.heap.size, 11, none⟩ = some (.bool m.fresh) := HB3.out.cell 11
    have z12 : w3.cell? ⟨W.heap.size, 12, none⟩ = some (.int .i64 m.code) := HB3.out.cell 12
    have z13 : w3.cell? ⟨W.heap.size, 13, none⟩ = some (.slice A m.stamp.length c) := HB3.out.cell 13
    have z14 : w3.cell? ⟨W.heap.size, 14, none⟩ = some (.int .i64 m.origin) := HB3.out.cell 14
    have z15 : w3.cell? ⟨W.heap.size, 15, none⟩ = some (.int .i64 m.number) := HB3.out.cell 15
    unfold mcells at po2
    go_wp2_with fail
    clear z0 z1 z2 z3 z4 z5 z6 z7 z8 z9 z10 z11 z12 z13 z14 z15
    refine po2.mono ?_
    rintro e w4 ⟨sv4, rfl, ho4, k4⟩
    have pv := valid10_any m sv4 w4 (own_slI ho4) HR.out HS.out
    rw [HN.out] at pv
    have K4 := Lib.hid (K3.out.trans k4)
    clear po2 ho4 k4
    go_wp2_with fail
    refine pv.mono ?_
    rintro e w5 ⟨rfl, k5⟩
    have K5 := Lib.hid (K4.out.trans k5)
    clear pv k5
    go_wp2
    go_ret
    exact ⟨rfl, K5.out.below (Nat.le_refl _) fun _ _ m => m⟩
  have hlen := enc_len vpP_len henc
  have HE := Lib.hid henc
  have HV := Lib.hid (show decide (mayS vpP m) = true by
    rw [decide_eq_true_iff]; exact (enc_sum henc).2)
  have HD := Lib.hid (dec_enc vpP_len henc (by omega))
  obtain ⟨A4, c4, rfl, _⟩ := own_len hob
  have pd := decode_any A4 c4 b w3 (own_argB hob) (by unfold maxLen; omega)
  clear henc hob
  go_wp2_with fail
  refine pd.mono ?_
  rintro e w5 ⟨sv5, rfl, ho5, k5⟩
  have e1 : decM b = m := by unfold decM; rw [HD.out]; rfl
  have e2 : decE b = 0 := by unfold decE; rw [HD.out]; rfl
  rw [e1] at ho5 ⊢
  rw [e2]
  obtain ⟨A5, c5, rfl, _⟩ := own_len ho5
  have kM : Kp No w5 (w5.alloc (.cells (mcells m (.slice A5 m.stamp.length c5)).toArray 29)) := (Kp.refl No w5).alloc _
  have hM : Bk (w5.alloc (.cells (mcells m (.slice A5 m.stamp.length c5)).toArray 29)) w5.heap.size 29 (mcells m (.slice A5 m.stamp.length c5)) := Bk.new' rfl rfl
  have K5 := Lib.hid ((K3.out.trans k5).trans kM); have HB5 := Lib.hid ((HB3.out.no k5).no kM); have HA5 := Lib.hid ((HA3.out.no k5).no kM)
  have HS5 := Lib.hid ((own_argI ho5).no kM); have HM5 := Lib.hid hM
  have po3 := own_any m (.slice A m.stamp.length c) _ HA5.out (by have := HL.out; omega)
  clear pd k5 e1 e2 kM hM ho5
  simp only [mcells] at po3 K5 HS5 HM5 HA5 ⊢
  have HB6 := Lib.hid (show Bk (w5.alloc (.cells #[.int .i64 m.kind, .int .i64 m.from_, .int .i64 m.dest, .int .i64 m.boot, .int .i64 m.seq, .int .i64 m.low, .int .i64 m.verb, .string ⟨m.path.toArray⟩, .int .i64 m.mode, .int .i64 m.term, .int .i64 m.id, .bool m.fresh, .int .i64 m.code, .slice A5 m.stamp.length c5, .int .i64 m.origin, .int .i64 m.number] 29)) W.heap.size 29 (mcells m (.slice A m.stamp.length c)) from HB5.out)
  clear HB5
  have z0 : (w5.alloc (.cells #[.int .i64 m.kind, .int .i64 m.from_, .int .i64 m.dest, .int .i64 m.boot, .int .i64 m.seq, .int .i64 m.low, .int .i64 m.verb, .string ⟨m.path.toArray⟩, .int .i64 m.mode, .int .i64 m.term, .int .i64 m.id, .bool m.fresh, .int .i64 m.code, .slice A5 m.stamp.length c5, .int .i64 m.origin, .int .i64 m.number] 29)).cell? ⟨W.heap.size, 0, none⟩ = some (.int .i64 m.kind) := HB6.out.cell 0
  have z1 : (w5.alloc (.cells #[.int .i64 m.kind, .int .i64 m.from_, .int .i64 m.dest, .int .i64 m.boot, .int .i64 m.seq, .int .i64 m.low, .int .i64 m.verb, .string ⟨m.path.toArray⟩, .int .i64 m.mode, .int .i64 m.term, .int .i64 m.id, .bool m.fresh, .int .i64 m.code, .slice A5 m.stamp.length c5, .int .i64 m.origin, .int .i64 m.number] 29)).cell? ⟨W.heap.size, 1, none⟩ = some (.int .i64 m.from_) := HB6.out.cell 1
  have z2 : (w5.alloc (.cells #[.int .i64 m.kind, .int .i64 m.from_, .int .i64 m.dest, .int .i64 m.boot, .int .i64 m.seq, .int .i64 m.low, .int .i64 m.verb, .string ⟨m.path.toArray⟩, .int .i64 m.mode, .int .i64 m.term, .int .i64 m.id, .bool m.fresh, .int .i64 m.code, .slice A5 m.stamp.length c5, .int .i64 m.origin, .int .i64 m.number] 29)).cell? ⟨W.heap.size, 2, none⟩ = some (.int .i64 m.dest) := HB6.out.cell 2
  have z3 : (w5.alloc (.cells #[.int .i64 m.kind, .int .i64 m.from_, .int .i64 m.dest, .int .i64 m.boot, .int .i64 m.seq, .int .i64 m.low, .int .i64 m.verb, .string ⟨m.path.toArray⟩, .int .i64 m.mode, .int .i64 m.term, .int .i64 m.id, .bool m.fresh, .int .i64 m.code, .slice A5 m.stamp.length c5, .int .i64 m.origin, .int .i64 m.number] 29)).cell? ⟨W.heap.size, 3, none⟩ = some (.int .i64 m.boot) := HB6.out.cell 3
  have z4 : (w5.alloc (.cells #[.int .i64 m.kind, .int .i64 m.from_, .int .i64 m.dest, .int .i64 m.boot, .int .i64 m.seq, .int .i64 m.low, .int .i64 m.verb, .string ⟨m.path.toArray⟩, .int .i64 m.mode, .int .i64 m.term, .int .i64 m.id, .bool m.fresh, .int .i64 m.code, .slice A5 m.stamp.length c5, .int .i64 m.origin, .int .i64 m.number] 29)).cell? ⟨W.heap.size, 4, none⟩ = some (.int .i64 m.seq) := HB6.out.cell 4
  have z5 : (w5.alloc (.cells #[.int .i64 m.kind, .int .i64 m.from_, .int .i64 m.dest, .int .i64 m.boot, .int .i64 m.seq, .int .i64 m.low, .int .i64 m.verb, .string ⟨m.path.toArray⟩, .int .i64 m.mode, .int .i64 m.term, .int .i64 m.id, .bool m.fresh, .int .i64 m.code, .slice A5 m.stamp.length c5, .int .i64 m.origin, .int .i64 m.number] 29)).cell? ⟨W.heap.size, 5, none⟩ = some (.int .i64 m.low) := HB6.out.cell 5
  have z6 : (w5.alloc (.cells #[.int .i64 m.kind, .int .i64 m.from_, .int .i64 m.dest, .int .i64 m.boot, .int .i64 m.seq, .int .i64 m.low, .int .i64 m.verb, .string ⟨m.path.toArray⟩, .int .i64 m.mode, .int .i64 m.term, .int .i64 m.id, .bool m.fresh, .int .i64 m.code, .slice A5 m.stamp.length c5, .int .i64 m.origin, .int .i64 m.number] 29)).cell? ⟨W.heap.size, 6, none⟩ = some (.int .i64 m.verb) := HB6.out.cell 6
  have z7 : (w5.alloc (.cells #[.int .i64 m.kind, .int .i64 m.from_, .int .i64 m.dest, .int .i64 m.boot, .int .i64 m.seq, .int .i64 m.low, .int .i64 m.verb, .string ⟨m.path.toArray⟩, .int .i64 m.mode, .int .i64 m.term, .int .i64 m.id, .bool m.fresh, .int .i64 m.code, .slice A5 m.stamp.length c5, .int .i64 m.origin, .int .i64 m.number] 29)).cell? ⟨W.heap.size, 7, none⟩ = some (.string ⟨m.path.toArray⟩) := HB6.out.cell 7
  have z8 : (w5.alloc (.cells #[.int .i64 m.kind, .int .i64 m.from_, .int .i64 m.dest, .int .i64 m.boot, .int .i64 m.seq, .int .i64 m.low, .int .i64 m.verb, .string ⟨m.path.toArray⟩, .int .i64 m.mode, .int .i64 m.term, .int .i64 m.id, .bool m.fresh, .int .i64 m.code, .slice A5 m.stamp.length c5, .int .i64 m.origin, .int .i64 m.number] 29)).cell? ⟨W.heap.size, 8, none⟩ = some (.int .i64 m.mode) := HB6.out.cell 8
  have z9 : (w5.alloc (.cells #[.int .i64 m.kind, .int .i64 m.from_, .int .i64 m.dest, .int .i64 m.boot, .int .i64 m.seq, .int .i64 m.low, .int .i64 m.verb, .string ⟨m.path.toArray⟩, .int .i64 m.mode, .int .i64 m.term, .int .i64 m.id, .bool m.fresh, .int .i64 m.code, .slice A5 m.stamp.length c5, .int .i64 m.origin, .int .i64 m.number] 29)).cell? ⟨W.heap.size, 9, none⟩ = some (.int .i64 m.term) := HB6.out.cell 9
  have z10 : (w5.alloc (.cells #[.int .i64 m.kind, .int .i64 m.from_, .int .i64 m.dest, .int .i64 m.boot, .int .i64 m.seq, .int .i64 m.low, .int .i64 m.verb, .string ⟨m.path.toArray⟩, .int .i64 m.mode, .int .i64 m.term, .int .i64 m.id, .bool m.fresh, .int .i64 m.code, .slice A5 m.stamp.length c5, .int .i64 m.origin, .int .i64 m.number] 29)).cell? ⟨W.heap.size, 10, none⟩ = some (.int .i64 m.id) := HB6.out.cell 10
  have z11 : (w5.alloc (.cells #[.int .i64 m.kind, .int .i64 m.from_, .int .i64 m.dest, .int .i64 m.boot, .int .i64 m.seq, .int .i64 m.low, .int .i64 m.verb, .string ⟨m.path.toArray⟩, .int .i64 m.mode, .int .i64 m.term, .int .i64 m.id, .bool m.fresh, .int .i64 m.code, .slice A5 m.stamp.length c5, .int .i64 m.origin, .int .i64 m.number] 29)).cell? ⟨W.heap.size, 11, none⟩ = some (.bool m.fresh) := HB6.out.cell 11
  have z12 : (w5.alloc (.cells #[.int .i64 m.kind, .int .i64 m.from_, .int .i64 m.dest, .int .i64 m.boot, .int .i64 m.seq, .int .i64 m.low, .int .i64 m.verb, .string ⟨m.path.toArray⟩, .int .i64 m.mode, .int .i64 m.term, .int .i64 m.id, .bool m.fresh, .int .i64 m.code, .slice A5 m.stamp.length c5, .int .i64 m.origin, .int .i64 m.number] 29)).cell? ⟨W.heap.size, 12, none⟩ = some (.int .i64 m.code) := HB6.out.cell 12
  have z13 : (w5.alloc (.cells #[.int .i64 m.kind, .int .i64 m.from_, .int .i64 m.dest, .int .i64 m.boot, .int .i64 m.seq, .int .i64 m.low, .int .i64 m.verb, .string ⟨m.path.toArray⟩, .int .i64 m.mode, .int .i64 m.term, .int .i64 m.id, .bool m.fresh, .int .i64 m.code, .slice A5 m.stamp.length c5, .int .i64 m.origin, .int .i64 m.number] 29)).cell? ⟨W.heap.size, 13, none⟩ = some (.slice A m.stamp.length c) := HB6.out.cell 13
  have z14 : (w5.alloc (.cells #[.int .i64 m.kind, .int .i64 m.from_, .int .i64 m.dest, .int .i64 m.boot, .int .i64 m.seq, .int .i64 m.low, .int .i64 m.verb, .string ⟨m.path.toArray⟩, .int .i64 m.mode, .int .i64 m.term, .int .i64 m.id, .bool m.fresh, .int .i64 m.code, .slice A5 m.stamp.length c5, .int .i64 m.origin, .int .i64 m.number] 29)).cell? ⟨W.heap.size, 14, none⟩ = some (.int .i64 m.origin) := HB6.out.cell 14
  have z15 : (w5.alloc (.cells #[.int .i64 m.kind, .int .i64 m.from_, .int .i64 m.dest, .int .i64 m.boot, .int .i64 m.seq, .int .i64 m.low, .int .i64 m.verb, .string ⟨m.path.toArray⟩, .int .i64 m.mode, .int .i64 m.term, .int .i64 m.id, .bool m.fresh, .int .i64 m.code, .slice A5 m.stamp.length c5, .int .i64 m.origin, .int .i64 m.number] 29)).cell? ⟨W.heap.size, 15, none⟩ = some (.int .i64 m.number) := HB6.out.cell 15
  go_wp2_with fail
  clear z0 z1 z2 z3 z4 z5 z6 z7 z8 z9 z10 z11 z12 z13 z14 z15
  refine po3.mono ?_
  rintro e w7 ⟨sv7, rfl, ho7, k7⟩
  have pv := valid10_any m sv7 w7 (own_slI ho7) HR.out HS.out
  rw [HV.out] at pv
  have K7 := Lib.hid (K5.out.trans k7); have HB7 := Lib.hid (HB6.out.no k7); have HM7 := Lib.hid (HM5.out.no k7); have HA7 := Lib.hid (HA5.out.no k7); have HS7 := Lib.hid (HS5.out.no k7)
  clear po3 ho7 k7 HB6 HM5 HA5 HS5 K5
  go_wp2_with fail
  refine pv.mono ?_
  rintro e w8 ⟨rfl, k8⟩
  have K8 := Lib.hid (K7.out.trans k8); have HB8 := Lib.hid (HB7.out.no k8); have HM8 := Lib.hid (show Bk w8 w5.heap.size 29 (mcells m (.slice A5 m.stamp.length c5)) from HM7.out.no k8); have HA8 := Lib.hid (HA7.out.no k8); have HS8 := Lib.hid (HS7.out.no k8)
  clear pv k8 HB7 HM7 HA7 HS7 K7
  have z0 : w8.cell? ⟨W.heap.size, 0, none⟩ = some (.int .i64 m.kind) := HB8.out.cell 0
  have z1 : w8.cell? ⟨W.heap.size, 1, none⟩ = some (.int .i64 m.from_) := HB8.out.cell 1
  have z2 : w8.cell? ⟨W.heap.size, 2, none⟩ = some (.int .i64 m.dest) := HB8.out.cell 2
  have z3 : w8.cell? ⟨W.heap.size, 3, none⟩ = some (.int .i64 m.boot) := HB8.out.cell 3
  have z4 : w8.cell? ⟨W.heap.size, 4, none⟩ = some (.int .i64 m.seq) := HB8.out.cell 4
  have z5 : w8.cell? ⟨W.heap.size, 5, none⟩ = some (.int .i64 m.low) := HB8.out.cell 5
  have z6 : w8.cell? ⟨W.heap.size, 6, none⟩ = some (.int .i64 m.verb) := HB8.out.cell 6
  have z7 : w8.cell? ⟨W.heap.size, 7, none⟩ = some (.string ⟨m.path.toArray⟩) := HB8.out.cell 7
  have z8 : w8.cell? ⟨W.heap.size, 8, none⟩ = some (.int .i64 m.mode) := HB8.out.cell 8
  have z9 : w8.cell? ⟨W.heap.size, 9, none⟩ = some (.int .i64 m.term) := HB8.out.cell 9
  have z10 : w8.cell? ⟨W.heap.size, 10, none⟩ = some (.int .i64 m.id) := HB8.out.cell 10
  have z11 : w8.cell? ⟨W.heap.size, 11, none⟩ = some (.bool m.fresh) := HB8.out.cell 11
  have z12 : w8.cell? ⟨W.heap.size, 12, none⟩ = some (.int .i64 m.code) := HB8.out.cell 12
  have z13 : w8.cell? ⟨W.heap.size, 13, none⟩ = some (.slice A m.stamp.length c) := HB8.out.cell 13
  have z14 : w8.cell? ⟨W.heap.size, 14, none⟩ = some (.int .i64 m.origin) := HB8.out.cell 14
  have z15 : w8.cell? ⟨W.heap.size, 15, none⟩ = some (.int .i64 m.number) := HB8.out.cell 15
  have x0 : w8.cell? ⟨w5.heap.size, 0, none⟩ = some (.int .i64 m.kind) := HM8.out.cell 0
  have x1 : w8.cell? ⟨w5.heap.size, 1, none⟩ = some (.int .i64 m.from_) := HM8.out.cell 1
  have x2 : w8.cell? ⟨w5.heap.size, 2, none⟩ = some (.int .i64 m.dest) := HM8.out.cell 2
  have x3 : w8.cell? ⟨w5.heap.size, 3, none⟩ = some (.int .i64 m.boot) := HM8.out.cell 3
  have x4 : w8.cell? ⟨w5.heap.size, 4, none⟩ = some (.int .i64 m.seq) := HM8.out.cell 4
  have x5 : w8.cell? ⟨w5.heap.size, 5, none⟩ = some (.int .i64 m.low) := HM8.out.cell 5
  have x6 : w8.cell? ⟨w5.heap.size, 6, none⟩ = some (.int .i64 m.verb) := HM8.out.cell 6
  have x7 : w8.cell? ⟨w5.heap.size, 7, none⟩ = some (.string ⟨m.path.toArray⟩) := HM8.out.cell 7
  have x8 : w8.cell? ⟨w5.heap.size, 8, none⟩ = some (.int .i64 m.mode) := HM8.out.cell 8
  have x9 : w8.cell? ⟨w5.heap.size, 9, none⟩ = some (.int .i64 m.term) := HM8.out.cell 9
  have x10 : w8.cell? ⟨w5.heap.size, 10, none⟩ = some (.int .i64 m.id) := HM8.out.cell 10
  have x11 : w8.cell? ⟨w5.heap.size, 11, none⟩ = some (.bool m.fresh) := HM8.out.cell 11
  have x12 : w8.cell? ⟨w5.heap.size, 12, none⟩ = some (.int .i64 m.code) := HM8.out.cell 12
  have x13 : w8.cell? ⟨w5.heap.size, 13, none⟩ = some (.slice A5 m.stamp.length c5) := HM8.out.cell 13
  have x14 : w8.cell? ⟨w5.heap.size, 14, none⟩ = some (.int .i64 m.origin) := HM8.out.cell 14
  have x15 : w8.cell? ⟨w5.heap.size, 15, none⟩ = some (.int .i64 m.number) := HM8.out.cell 15
  have pq := sameInts_any (.slice A5 m.stamp.length c5) (.slice A m.stamp.length c) m.stamp m.stamp w8 HS8.out HA8.out (by have := HS.out.2; omega) (by have := HS.out.2; omega)
  rw [decide_eq_true (rfl : m.stamp = m.stamp)] at pq
  have hl4 : (4 : Int) < (b.length : Int) := by omega
  have hl5 : (b.length : Int) ≤ 200 := by omega
  go_wp2_with fail
  clear z0 z1 z2 z3 z4 z5 z6 z7 z8 z9 z10 z11 z12 z13 z14 z15 x0 x1 x2 x3 x4 x5 x6 x7 x8 x9 x10 x11 x12 x13 x14 x15
  refine pq.mono ?_
  rintro e w9 ⟨rfl, k9⟩
  have K9 := Lib.hid (K8.out.trans k9)
  clear pq k9
  go_wp2
  go_ret
  exact ⟨rfl, K9.out.below (Nat.le_refl _) fun _ _ m => m⟩
/-! ### The row's step -/
set_option maxRecDepth 100000 in
theorem lifted (os : Os) (started : os.Started) (H : Type) (enc : TypeId × Value → H) :
    ReturnsInHanded {} Try.checked os 4 .any (Rows.wireBackSpec.pre6 enc Try.prog Try.f4 Rows.wireBackRow.domain false) (Rows.wireBackSpec.post enc Try.prog Try.f4 false true false false) := by
  refine returnsInHanded_of_change_sized (C := Try.checked) own started (by kernel_rfl) Try.func4
    (ChangeSpec.witness6 (enc := enc) (C := Try.checked) false ⟨#[], #[.agg #[.int .i64 0, .int .i64 0, .int .i64 0, .int .i64 0, .int .i64 0, .int .i64 0, .int .i64 0, .string ⟨#[]⟩, .int .i64 0, .int .i64 0, .int .i64 0, .bool false, .int .i64 0, .slice none 0 0, .int .i64 0, .int .i64 0]], []⟩ 8 (by kernel_rfl) (by kernel_rfl) (by kernel_rfl) (by kernel_rfl)) ?_
  intro W base args ds gs before hval0 hW hcnd hsz0 _
  have hval : ∀ (j : Nat) t v, Try.f4.params[j]? = some t → args[j]? = some v → Value.okWide Try.prog W .any base t v := hval0
  have hW' := hW
  obtain ⟨p, q, hA0, hV, rfl, hfz, hnd⟩ := hW
  have hA : DataW.TrodAll enc Try.prog W 0 (fun _ => true) true Try.f4.params.toList args.toList ds p := hA0
  rw [Try.params4] at hA hval
  obtain ⟨v0, vs0, d0, ds0, p0, q0, hargs, rfl, rfl, h0, r0⟩ := trodAll_cons hA
  obtain ⟨rfl, rfl, rfl⟩ := trodAll_nil r0
  obtain rfl : args = #[v0] := by cases args; simp_all
  obtain ⟨rfl, rfl⟩ := trodVars_none hV
  have hsz : ∀ (j : Nat) (t : TypeId) (d : DataW H), ([29] : List TypeId)[j]? = some t → [d0][j]? = some d → ∀ n ∈ d.weights Try.prog t, n ≤ reachBytes := by
    intro j t d ht hd n hn
    have hsz1 : (DataW.weightsEach Try.prog ([29] : List TypeId) [d0]).all (· ≤ reachBytes) = true := hsz0
    have := List.all_eq_true.1 hsz1 n (DataW.weights_mem_each ht hd n hn)
    simpa using this
  have k0 := h0
  have lt0 : ∀ x ∈ p0, x.block < W.heap.size := by obtain ⟨m, hm⟩ := k0; exact DataW.trod_lt m _ _ _ hm
  obtain ⟨m0, A0, c0, rfl, a0, r0x, s0, z0⟩ := open_msg (hval 0 29 v0 rfl rfl) h0 (hsz 0 29 _ rfl rfl)
  refine (walk m0 A0 c0 W a0 r0x s0 z0).mono fun e W' ⟨he, bel⟩ => ?_
  subst he
  exact ⟨_, rfl, _, _, _, [], _, [], hW', trodAll_mk1 (shut_bool Try.underlying4 _), (trodAll_cons_mk (Below.trod laidOut (by kernel_rfl) (of_decide_eq_true (by kernel_rfl)) k0 bel lt0) trodAll_mk0), rfl, bel.frame _, fun h => by cases h⟩

theorem over : Rows.wireBackRow.holds Try.pinned (OpenSpec.ofChange Rows.wireBackSpec) :=
  OpenClaim.holds_of_wide 4 Try.f4 rfl rfl rfl rfl rfl rfl rfl ⟨rfl, rfl, rfl, rfl, rfl⟩ rfl rfl rfl rfl rfl (by kernel_rfl) Try.func4 (by kernel_rfl)
    (of_decide_eq_true (by kernel_rfl)) (by unfold Func.isWrapper; first | (rw [if_pos (by decide +kernel)]; kernel_rfl) | (rw [if_neg (by decide +kernel)]; exact ⟨rfl, rfl⟩))
    (fun os started H enc _ => lifted os started H enc)

theorem proved : Rows.WireBackSaid := over
#print axioms proved
end Go.Proofs.Ytbnpdghfbiacaaa.wireBack
