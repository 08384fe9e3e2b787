/- wire.Encode by contract. No condition beyond what each theorem states. -/
import Derived.Test.YtbnpdghfbiacaaaVa
import Derived.Test.YtbnpdghfbiacaaaOd
namespace Go.Proofs.Ytbnpdghfbiacaaa
open Go Go.RowKit Go.PlainAid

def EncodeR (W : World) (m : Msg) (e : Ending) (w' : World) : Prop :=
  (encS vpP m = none ∧ e = .returned (.tuple #[.slice none 0 0, .int .i64 22]) ∨ ∃ v b, encS vpP m = some b ∧ e = .returned (.tuple #[v, .int .i64 0]) ∧ OwnB w' W.heap.size v b) ∧ Kp No W w'
set_option maxRecDepth 100000 in
set_option maxHeartbeats 4000000 in
theorem encode_any (m : Msg) (sv : Value) (W : World) (hs : SlI W sv m.stamp) (hr : Rng m) (hsh : Short maxLen m) :
    Calls Try.prog 8 #[.agg (mcells m sv).toArray] W (EncodeR W m) := by
  obtain ⟨A, c, rfl, _⟩ : ∃ A c, sv = .slice A m.stamp.length c ∧ m.stamp.length ≤ c := by obtain ⟨A, c, e, hc, _⟩ := hs; exact ⟨A, c, e, hc⟩
  have kA : Kp No W (W.alloc (.cells (mcells m (.slice A m.stamp.length c)).toArray 29)) := (Kp.refl No W).alloc _
  have hB : Bk (W.alloc (.cells (mcells m (.slice A m.stamp.length c)).toArray 29)) W.heap.size 29 (mcells m (.slice A m.stamp.length c)) := Bk.new' rfl rfl
  have pv := valid10_any m (.slice A m.stamp.length c) _ (hs.no kA) hr hsh
  have HB := Lib.hid hB; have HKA := Lib.hid kA; have HS := Lib.hid hs; have HR := Lib.hid hr
  clear hs hr hsh hB kA
  unfold mcells at pv HB HKA ⊢
  go_enter Try.func8, Try.ntmps8
  go_wp2_with fail
  refine pv.mono ?_
  rintro e w1 ⟨rfl, k1⟩
  have HB1 := Lib.hid (HB.out.no k1); have HK1 := Lib.hid (HKA.out.trans k1)
  clear k1 pv HB HKA
  have HV : Hid (mayS vpP m ∨ ¬ mayS vpP m) := Lib.hid (Decidable.em _)
  rcases HV.out with hv | hv
  · have HE := Lib.hid (show encS vpP m = some (sumS (bodyS m)) by unfold encS; rw [if_pos hv])
    have d1 : decide (mayS vpP m) = true := by simpa using hv
    rw [d1]
    have hall : ((fieldsF vpP m).all fun f => f.may m) = true := by
      have := ((mayS_iff m).1 hv).1.2.2.2.2.2
      exact List.all_eq_true.2 this
    have hbl := body_len HR.out hall
    have hol := fun f (hf : f ∈ fieldsF vpP m) => Nat.le_trans (may_out HR.out f hf (List.all_eq_true.1 hall f hf)) (by omega : (30 : Nat) ≤ 10000)
    have pb := body_any m (.slice A m.stamp.length c) w1 (HS.out.no HK1.out) HR.out hol
    unfold mcells at pb
    have HBL := Lib.hid hbl
    clear hol hall hv d1 hbl
    have zz := HB1.out
    unfold mcells at zz
    have z0 : w1.cell? ⟨W.heap.size, 0, none⟩ = some (.int .i64 m.kind) := zz.cell 0
    have z1 : w1.cell? ⟨W.heap.size, 1, none⟩ = some (.int .i64 m.from_) := zz.cell 1
    have z2 : w1.cell? ⟨W.heap.size, 2, none⟩ = some (.int .i64 m.dest) := zz.cell 2
    have z3 : w1.cell? ⟨W.heap.size, 3, none⟩ = some (.int .i64 m.boot) := zz.cell 3
    have z4 : w1.cell? ⟨W.heap.size, 4, none⟩ = some (.int .i64 m.seq) := zz.cell 4
    have z5 : w1.cell? ⟨W.heap.size, 5, none⟩ = some (.int .i64 m.low) := zz.cell 5
    have z6 : w1.cell? ⟨W.heap.size, 6, none⟩ = some (.int .i64 m.verb) := zz.cell 6
    have z7 : w1.cell? ⟨W.heap.size, 7, none⟩ = some (.string ⟨m.path.toArray⟩) := zz.cell 7
    have z8 : w1.cell? ⟨W.heap.size, 8, none⟩ = some (.int .i64 m.mode) := zz.cell 8
    have z9 : w1.cell? ⟨W.heap.size, 9, none⟩ = some (.int .i64 m.term) := zz.cell 9
    have z10 : w1.cell? ⟨W.heap.size, 10, none⟩ = some (.int .i64 m.id) := zz.cell 10
    have z11 : w1.cell? ⟨W.heap.size, 11, none⟩ = some (.bool m.fresh) := zz.cell 11
    have z12 : w1.cell? ⟨W.heap.size, 12, none⟩ = some (.int .i64 m.code) := zz.cell 12
    have z13 : w1.cell? ⟨W.heap.size, 13, none⟩ = some (.slice A m.stamp.length c) := zz.cell 13
    have z14 : w1.cell? ⟨W.heap.size, 14, none⟩ = some (.int .i64 m.origin) := zz.cell 14
    have z15 : w1.cell? ⟨W.heap.size, 15, none⟩ = some (.int .i64 m.number) := zz.cell 15
    clear zz
    go_wp2_with fail
    refine pb.mono ?_
    rintro e w2 ⟨vb, rfl, ho, k2⟩
    obtain ⟨A2, c2, rfl, _⟩ := own_len ho
    have hao := own_argB ho
    have ps := sum_any _ (bodyS m) w2 hao (by have := HBL.out; unfold maxLen; omega)
    have HO := Lib.hid ho; have HK2 := Lib.hid (HK1.out.trans k2); have HSZ := Lib.hid (show W.heap.size ≤ w1.heap.size from HK1.out.size)
    clear ho k2 pb hao z0 z1 z2 z3 z4 z5 z6 z7 z8 z9 z10 z11 z12 z13 z14 z15
    have ps2 : Calls Try.prog 17 #[.slice A2 (bodyS m).length c2] w2 fun e w' => e = .returned (.int .u32 ((crcS (bodyS m)).toNat : Int)) ∧ w2 = w' := ps
    clear ps
    go_wp2_with fail
    refine ps2.mono ?_
    rintro e w3 ⟨rfl, rfl⟩
    clear ps2
    have pf := four_any (crcS (bodyS m)).toNat w2
    go_wp2_with fail
    refine pf.mono ?_
    rintro e w3 ⟨g4, rfl, b4, s4, k4⟩
    have HO3 := Lib.hid (HO.out.no k4)
    have HK3 := Lib.hid (HK2.out.trans k4)
    have hsz3 : W.heap.size ≤ w3.heap.size := HK3.out.size
    have HB4 := Lib.hid (bk_argB' (c := 4) b4 (by rw [four_length]; omega))
    have H4 := Lib.hid (four_length (crcS (bodyS m)).toNat)
    have hbl2 := HBL.out
    clear pf b4 s4 k4
    go_wp2_with (at_builtin; refine (wpList_appV _ rfl _ _ 30 rfl W.heap.size 5 _ 1 Try.underlying30 Try.infoByte rfl _ (bodyS m).length (u8s (bodyS m)) rfl (HO3.out.mono HSZ.out) (some ⟨g4, 0, none⟩) 4 4 (u8s (four (crcS (bodyS m)).toNat)) rfl (by rw [u8s_length, H4.out]) (by have := HB4.out; rw [H4.out] at this; exact this.cs.1) (u8s_one _) (by omega) (by omega) hsz3 ?_); intro v5 w5 o5 k5 _; have O5 := Lib.hid o5; have K5 := Lib.hid k5; clear o5 k5)
    go_ret2
    have O6 : OwnB w5 W.heap.size v5 (bodyS m ++ four (crcS (bodyS m)).toNat) := own_of O5.out rfl
    exact ⟨.inr ⟨_, _, HE.out, rfl, O6⟩, kp_own (HO3.out.mono HSZ.out) HK3.out K5.out⟩
  · have HE := Lib.hid (show encS vpP m = none by unfold encS; rw [if_neg hv])
    have d1 : decide (mayS vpP m) = false := by simpa using hv
    rw [d1]
    clear hv d1
    go_wp2
    go_ret2
    exact ⟨.inl ⟨HE.out, rfl⟩, HK1.out⟩
end Go.Proofs.Ytbnpdghfbiacaaa
