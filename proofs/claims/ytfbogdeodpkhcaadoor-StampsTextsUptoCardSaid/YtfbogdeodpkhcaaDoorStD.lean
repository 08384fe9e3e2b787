/- The document's Decimal and Text on stamps, by contract. -/
import Derived.Test.YtfbogdeodpkhcaaDoorStU
import Derived.Laws.BytesArg
namespace Go.Proofs.YtfbogdeodpkhcaaDoor
open Go Go.RowKit Go.PlainAid

/-- one byte in a new slice, as a text -/
theorem one_str (w : World) (k : Nat) (hk : k < 256) : (convert 59 9 (.slice (some ⟨w.heap.size, 0, none⟩) 1 1)).run Tryd.prog (w.alloc (.cells #[.int .u8 (k : Int)] 5)) = .ok (.string ⟨#[UInt8.ofNat k]⟩) (w.alloc (.cells #[.int .u8 (k : Int)] 5)) := by
  have := run_convert_bytes_arg (P := Tryd.prog) (w.alloc (.cells #[.int .u8 (k : Int)] 5)) 59 5 Tryd.underlying59 Tryd.underlying5 w.heap.size 0 1 1 [(k : Int)] rfl (by
    intro i hi
    obtain rfl : i = 0 := by omega
    exact (Bk.new w 5 [.int .u8 (k : Int)]).cell 0) 9 Tryd.underlying9
  rw [this]
  congr 3
theorem str_app (a b : Bytes) : (⟨a.toArray⟩ : ByteArray) ++ ⟨b.toArray⟩ = ⟨(a ++ b).toArray⟩ := by
  apply str_inj
  simp

theorem dig_len (u : Nat) (h : u < 9223372036854775808) : (Lib.decDigits u).length ≤ 22 := by
  have := Lib.itoa_length_le (u : Int) (by omega) (by omega)
  rw [show Lib.itoa (u : Int) = Lib.decDigits u by unfold Lib.itoa; rw [if_neg (by omega)]; rfl] at this
  omega
set_option maxHeartbeats 1000000 in
set_option maxRecDepth 100000 in
theorem dec_nat : ∀ (u : Nat), u < 9223372036854775808 → ∀ w : World,
    Calls Tryd.prog 40 #[.int .i64 (u : Int)] w fun e w' => e = .returned (.string ⟨(Lib.decDigits u).toArray⟩) ∧ Kp No w w' := by
  intro u
  induction u using Nat.strongRecOn with
  | _ u ih =>
    intro hu w
    have IH := Lib.hid ih; clear ih
    go_enter Tryd.func40, Tryd.ntmps40
    have e1 : ((u : Int) == -9223372036854775808) = false := beq_eq_false_iff_ne.2 (by omega)
    have e2 : ¬ (u : Int) < 0 := by omega
    obtain ⟨k, hk⟩ : ∃ k : Nat, 48 + u % 10 = k := ⟨_, rfl⟩
    have e4 : 48 + (u : Int) % 10 = (k : Int) := by omega
    have e5 := one_str w k (by omega)
    by_cases h10 : u < 10
    · have e3 : (u : Int) < 10 := by omega
      have HD := Lib.hid (show Lib.decDigits u = [UInt8.ofNat k] by rw [Lib.decDigits, dif_pos h10, ← hk, Nat.mod_eq_of_lt h10])
      clear hk
      go_wp2_with (fail)
      go_ret
      exact ⟨by rw [HD.out]; rfl, (Kp.refl _ _).alloc _⟩
    · have e3 : ¬ (u : Int) < 10 := by omega
      have HD := Lib.hid (show Lib.decDigits u = Lib.decDigits (u / 10) ++ [UInt8.ofNat k] by rw [Lib.decDigits, dif_neg h10, ← hk])
      clear hk
      go_wp2_with fail
      rw [show (u : Int) / 10 = ((u / 10 : Nat) : Int) by omega]
      refine (IH.out (u / 10) (by omega) (by omega) _).mono ?_
      rintro e w1 ⟨rfl, k1⟩
      have K1 := Lib.hid (((Kp.refl No w).alloc _).trans k1); clear k1
      obtain ⟨q, hq⟩ : ∃ q : ByteArray, (⟨(Lib.decDigits (u / 10)).toArray⟩ : ByteArray) = q := ⟨_, rfl⟩
      rw [hq]
      have hqs : ¬ 9223372036854775807 < q.size + 1 := by
        have := dig_len (u / 10) (by omega)
        rw [← hq]; show ¬ 9223372036854775807 < (Lib.decDigits (u / 10)).toArray.size + 1
        simp only [List.size_toArray]; omega
      have HQ := Lib.hid hq; clear hq
      go_wp2_with (fail)
      go_ret
      exact ⟨by rw [HD.out, ← str_app, HQ.out]; rfl, K1.out⟩

theorem itoa_least : Lib.itoa (-9223372036854775808) = [45, 57, 50, 50, 51, 51, 55, 50, 48, 51, 54, 56, 53, 52, 55, 55, 53, 56, 48, 56] := by decide +kernel
set_option maxHeartbeats 1000000 in
set_option maxRecDepth 100000 in
theorem dec_any (n : Int) (h0 : -9223372036854775808 ≤ n) (h1 : n ≤ 9223372036854775807) (w : World) :
    Calls Tryd.prog 40 #[.int .i64 n] w fun e w' => e = .returned (.string ⟨(Lib.itoa n).toArray⟩) ∧ Kp No w w' := by
  by_cases hn : n < 0
  · go_enter Tryd.func40, Tryd.ntmps40
    by_cases hm : n = -9223372036854775808
    · subst hm
      have HI := Lib.hid itoa_least
      go_wp2
      go_ret
      exact ⟨by rw [HI.out]; rfl, Kp.refl _ _⟩
    · have e1 : (n == -9223372036854775808) = false := by simpa using hm
      obtain ⟨u, e6⟩ : ∃ u : Nat, -n = (u : Int) := ⟨n.natAbs, by omega⟩
      have HI := Lib.hid (show Lib.itoa n = [45] ++ Lib.decDigits u by unfold Lib.itoa; rw [if_pos hn, show n.natAbs = u by omega]; rfl)
      have hu : u < 9223372036854775808 := by omega
      clear hm
      go_wp2_with fail
      refine (dec_nat u hu _).mono ?_
      rintro e w1 ⟨rfl, k1⟩
      have K1 := Lib.hid k1; clear k1
      obtain ⟨q, hq⟩ : ∃ q : ByteArray, (⟨(Lib.decDigits u).toArray⟩ : ByteArray) = q := ⟨_, rfl⟩
      rw [hq]
      have hqs : ¬ 9223372036854775807 < 1 + q.size := by
        have := dig_len u hu
        rw [← hq]; show ¬ 9223372036854775807 < 1 + (Lib.decDigits u).toArray.size
        simp only [List.size_toArray]; omega
      have HQ := Lib.hid hq; clear hq
      go_wp2_with (fail)
      go_ret
      exact ⟨by rw [HI.out, ← str_app, HQ.out]; rfl, K1.out⟩
  · obtain ⟨u, rfl⟩ : ∃ u : Nat, n = (u : Int) := ⟨n.toNat, by omega⟩
    have := dec_nat u (by omega) w
    rwa [show Lib.itoa (u : Int) = Lib.decDigits u by unfold Lib.itoa; rw [if_neg hn]; rfl]
end Go.Proofs.YtfbogdeodpkhcaaDoor
