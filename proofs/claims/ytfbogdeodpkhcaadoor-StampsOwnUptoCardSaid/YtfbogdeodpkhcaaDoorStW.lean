/- The law's awake on stamps, by contract: it answers true where the library's variables hold what its text lays. -/
import Derived.Test.YtfbogdeodpkhcaaDoorStT
namespace Go.Proofs.YtfbogdeodpkhcaaDoor
open Go Go.RowKit Go.PlainAid

theorem lit_arg {w : World} {g n : Nat} {t : TypeId} {L : List Int} (h : Bk w g t (ints L)) (hn : L.length = n) : ArgInts w (.slice (some ⟨g, 0, none⟩) n n) L := by
  subst hn
  exact ⟨_, _, rfl, Nat.le_refl _, fun _ => ⟨g, 0, rfl, by have := h.range 0 L.length; rw [List.drop_zero, List.take_of_length_le (by simp)] at this; exact this⟩⟩
theorem ext_53 : extS [5] 3 = ([5, 3], 0) := by decide
theorem next_53 : nextS [5, 3] = ([5, 4], 0) := by decide
theorem parse_512 : parseS [53, 46, 49, 46, 50] = ([5, 1, 2], 0) := by decide +kernel
theorem text_512 : textS [5, 1, 2] = [53, 46, 49, 46, 50] := by decide +kernel
theorem cmp_551 : cmpS [5] [5, 1] = -1 := by decide
theorem under_551 : underS [5] [5, 1] = true := by decide
theorem valid_512 : validS [5, 1, 2] = true := by decide
theorem valid_0 : validS [0] = false := by decide
theorem later_56 : laterS [5] [6] = [6] := by decide

set_option maxHeartbeats 4000000 in
set_option maxRecDepth 100000 in
theorem awakeS_any (w : World) (hL : Lw w) : Calls Tryd.prog 13 #[] w fun e w' => e = .returned (.bool true) ∧ Kp No w w' := by
  have HL := Lib.hid hL; clear hL
  go_enter Tryd.func13, Tryd.ntmps13
  go_wp2_with fail
  have c1 := extS_any (.slice (some ⟨w.heap.size, 0, none⟩) 1 1) [5] 3 (w.alloc (.cells #[.int .i64 5] 3)) (lit_arg (Bk.new' rfl rfl) rfl) (by decide)
  rw [ext_53] at c1
  refine c1.mono ?_
  clear c1
  rintro e w1 ⟨r1, rfl, o1, k1⟩
  have K1 := Lib.hid (((Kp.refl No w).alloc _).trans k1)
  have A1 := Lib.hid o1.arg
  clear o1 k1
  go_wp2_with fail
  have c1 := nextS_any (.slice (some ⟨w1.heap.size, 0, none⟩) 2 2) [5, 3] (w1.alloc (.cells #[.int .i64 5, .int .i64 3] 3)) (lit_arg (Bk.new' rfl rfl) rfl) (by decide)
  rw [next_53] at c1
  refine c1.mono ?_
  clear c1
  rintro e w2 ⟨r2, rfl, o2, k2⟩
  have k2' := ((Kp.refl No w1).alloc (.cells #[.int .i64 5, .int .i64 3] 3)).trans k2
  have A1' := Lib.hid (A1.out.no k2')
  have A2 := Lib.hid o2.arg
  have K2 := Lib.hid (K1.out.trans k2')
  clear o2 k2 k2' A1 K1
  go_wp2_with fail
  have c1 := parseS_any ⟨#[53, 46, 49, 46, 50]⟩ w2 (by decide) (HL.out.no K2.out)
  rw [show (⟨#[53, 46, 49, 46, 50]⟩ : ByteArray).data.toList = [53, 46, 49, 46, 50] from rfl, parse_512] at c1
  refine c1.mono ?_
  clear c1
  rintro e w3 ⟨r3, rfl, o3, k3⟩
  have B1 := Lib.hid (A1'.out.no k3)
  have B2 := Lib.hid (A2.out.no k3)
  have B3 := Lib.hid o3.arg
  have K3 := Lib.hid (K2.out.trans k3)
  clear o3 k3 A1' A2 K2
  go_wp2_with fail
  refine (sameS_eq r1 (.slice (some ⟨w3.heap.size, 0, none⟩) 2 2) [5, 3] [5, 3] (w3.alloc (.cells #[.int .i64 5, .int .i64 3] 3)) (B1.out.no ((Kp.refl No w3).alloc _)) (lit_arg (Bk.new' rfl rfl) rfl) (by decide) rfl).mono ?_
  rintro e w4 ⟨rfl, k4⟩
  have k4' := ((Kp.refl No w3).alloc (.cells #[.int .i64 5, .int .i64 3] 3)).trans k4
  have C2 := Lib.hid (B2.out.no k4'); have C3 := Lib.hid (B3.out.no k4'); have K4 := Lib.hid (K3.out.trans k4')
  clear k4 k4' B1 B2 B3 K3
  go_wp2_with fail
  refine (sameS_eq r2 (.slice (some ⟨w4.heap.size, 0, none⟩) 2 2) [5, 4] [5, 4] (w4.alloc (.cells #[.int .i64 5, .int .i64 4] 3)) (C2.out.no ((Kp.refl No w4).alloc _)) (lit_arg (Bk.new' rfl rfl) rfl) (by decide) rfl).mono ?_
  rintro e w5 ⟨rfl, k5⟩
  have k5' := ((Kp.refl No w4).alloc (.cells #[.int .i64 5, .int .i64 4] 3)).trans k5
  have D3 := Lib.hid (C3.out.no k5'); have K5 := Lib.hid (K4.out.trans k5')
  clear k5 k5' C2 C3 K4
  go_wp2_with fail
  refine (sameS_eq r3 (.slice (some ⟨w5.heap.size, 0, none⟩) 3 3) [5, 1, 2] [5, 1, 2] (w5.alloc (.cells #[.int .i64 5, .int .i64 1, .int .i64 2] 3)) (D3.out.no ((Kp.refl No w5).alloc _)) (lit_arg (Bk.new' rfl rfl) rfl) (by decide) rfl).mono ?_
  rintro e w6 ⟨rfl, k6⟩
  have K6 := Lib.hid (K5.out.trans (((Kp.refl No w5).alloc (.cells #[.int .i64 5, .int .i64 1, .int .i64 2] 3)).trans k6))
  clear k6 D3 K5
  go_wp2_with fail
  have c1 := textS_any (.slice (some ⟨w6.heap.size, 0, none⟩) 3 3) [5, 1, 2] (w6.alloc (.cells #[.int .i64 5, .int .i64 1, .int .i64 2] 3)) (lit_arg (Bk.new' rfl rfl) rfl) (by decide) (by decide) (HL.out.no (K6.out.alloc _))
  rw [text_512] at c1
  refine c1.mono ?_
  clear c1
  rintro e w7 ⟨rfl, k7⟩
  have K7 := Lib.hid (K6.out.trans (((Kp.refl No w6).alloc (.cells #[.int .i64 5, .int .i64 1, .int .i64 2] 3)).trans k7))
  clear k7 K6
  go_wp2_with fail
  have c1 := compareS_any (.slice (some ⟨w7.heap.size, 0, none⟩) 1 1) (.slice (some ⟨w7.heap.size + 1, 0, none⟩) 2 2) [5] [5, 1] ((w7.alloc (.cells #[.int .i64 5] 3)).alloc (.cells #[.int .i64 5, .int .i64 1] 3)) (lit_arg ((Bk.new' rfl rfl).alloc _) rfl) (lit_arg (Bk.new' (by simp) rfl) rfl) (by decide) (by decide)
  rw [cmp_551] at c1
  refine c1.mono ?_
  clear c1
  rintro e w8 ⟨rfl, k8⟩
  have K8 := Lib.hid (((K7.out.alloc (.cells #[.int .i64 5] 3)).alloc (.cells #[.int .i64 5, .int .i64 1] 3)).trans k8)
  clear k8 K7
  go_wp2_with fail
  have c1 := underS_any (.slice (some ⟨w8.heap.size, 0, none⟩) 1 1) (.slice (some ⟨w8.heap.size + 1, 0, none⟩) 2 2) [5] [5, 1] ((w8.alloc (.cells #[.int .i64 5] 3)).alloc (.cells #[.int .i64 5, .int .i64 1] 3)) (lit_arg ((Bk.new' rfl rfl).alloc _) rfl) (lit_arg (Bk.new' (by simp) rfl) rfl) (by decide) (by decide)
  rw [under_551] at c1
  refine c1.mono ?_
  clear c1
  rintro e w9 ⟨rfl, k9⟩
  have K9 := Lib.hid (((K8.out.alloc (.cells #[.int .i64 5] 3)).alloc (.cells #[.int .i64 5, .int .i64 1] 3)).trans k9)
  clear k9 K8
  go_wp2_with fail
  have c1 := validS_any (.slice (some ⟨w9.heap.size, 0, none⟩) 3 3) [5, 1, 2] (w9.alloc (.cells #[.int .i64 5, .int .i64 1, .int .i64 2] 3)) (lit_arg (Bk.new' rfl rfl) rfl) (by decide)
  rw [valid_512] at c1
  refine c1.mono ?_
  clear c1
  rintro e wa ⟨rfl, ka⟩
  have KA := Lib.hid (show Kp No w wa by rw [← ka]; exact K9.out.alloc _)
  clear ka K9
  go_wp2_with fail
  have c1 := validS_any (.slice (some ⟨wa.heap.size, 0, none⟩) 1 1) [0] (wa.alloc (.cells #[.int .i64 0] 3)) (lit_arg (Bk.new' rfl rfl) rfl) (by decide)
  rw [valid_0] at c1
  refine c1.mono ?_
  clear c1
  rintro e wb ⟨rfl, kb⟩
  have KB := Lib.hid (show Kp No w wb by rw [← kb]; exact KA.out.alloc _)
  clear kb KA
  go_wp2_with fail
  have c1 := laterS_any (.slice (some ⟨wb.heap.size, 0, none⟩) 1 1) (.slice (some ⟨wb.heap.size + 1, 0, none⟩) 1 1) [5] [6] ((wb.alloc (.cells #[.int .i64 5] 3)).alloc (.cells #[.int .i64 6] 3)) (lit_arg ((Bk.new' rfl rfl).alloc _) rfl) (lit_arg (Bk.new' (by simp) rfl) rfl) (by decide) (by decide)
  rw [later_56] at c1
  refine c1.mono ?_
  clear c1
  rintro e wc ⟨r4, rfl, o4, k4⟩
  have KC := Lib.hid (((KB.out.alloc (.cells #[.int .i64 5] 3)).alloc (.cells #[.int .i64 6] 3)).trans k4)
  have A4 := Lib.hid o4.arg
  clear o4 k4 KB
  go_wp2_with fail
  refine (sameS_eq r4 (.slice (some ⟨wc.heap.size, 0, none⟩) 1 1) [6] [6] (wc.alloc (.cells #[.int .i64 6] 3)) (A4.out.no ((Kp.refl No wc).alloc _)) (lit_arg (Bk.new' rfl rfl) rfl) (by decide) rfl).mono ?_
  rintro e wd ⟨rfl, kd⟩
  have KD := Lib.hid ((KC.out.alloc (.cells #[.int .i64 6] 3)).trans kd)
  clear kd
  go_wp2
  go_ret
  exact ⟨rfl, KD.out⟩
end Go.Proofs.YtfbogdeodpkhcaaDoor
