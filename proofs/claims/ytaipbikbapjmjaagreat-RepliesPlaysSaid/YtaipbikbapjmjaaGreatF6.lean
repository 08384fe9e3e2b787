/- The document's Seen of a request by contract, one outcome. No condition beyond what each theorem states. -/
import Derived.Test.YtaipbikbapjmjaaGreatF3
namespace Go.Proofs.YtaipbikbapjmjaaGreat
open Go Go.RowKit Go.PlainAid
set_option maxRecDepth 100000 in
set_option maxHeartbeats 20000000 in
theorem dseen_ask3 (A : Option Addr) (c : Nat) (D : List Dc) (m : Msg) (B : Option Addr) (d : Nat) (W : World) (h : RefR W (.slice A D.length c) D) (h8 : D.length = 8) (hl : ∀ x ∈ D, x.L.length ≤ 8) (hs : ArgInts W (.slice B m.stamp.length d) m.stamp) (hm : m.stamp.length ≤ maxLen) (hp : m.path.length ≤ 140737488355328) (ha : m.kind = 1 ∧ mayS vpP m) (hw : ∀ x ∈ D, 1 ≤ x.low ∧ x.low ≤ 1099511627776) (hE : ∃ c, heardS ((D.map toCl).getD m.from_.toNat {}) m = some c ∧ ¬ (m.seq < c.low ∨ c.low + 8 ≤ m.seq) ∧ ∃ a, findS c m.seq = some a) :
    Calls Tryz.prog 18 #[.agg #[.slice A D.length c], .agg (mcells m (.slice B m.stamp.length d)).toArray] W (SeenD D m W) := by
  have HS0 := Lib.hid (show Bk (((((W.alloc (.cells #[.slice A D.length c] 42)).alloc (.cells (mcells m (.slice B m.stamp.length d)).toArray 32)).alloc (.cells #[.slice none 0 0] 42)).alloc (.cells #[.int .i64 0, .int .i64 0, .int .i64 0, .int .i64 0, .int .i64 0, .int .i64 0, .int .i64 0, .string ⟨#[]⟩, .int .i64 0, .int .i64 0, .int .i64 0, .bool false, .int .i64 0, .slice none 0 0, .int .i64 0, .int .i64 0] 32)).alloc (.cells #[.int .i64 0, .int .i64 0, .int .i64 0, .int .i64 0, .int .i64 0, .int .i64 0, .int .i64 0, .string ⟨#[]⟩, .int .i64 0, .int .i64 0, .int .i64 0, .bool false, .int .i64 0, .slice none 0 0, .int .i64 0, .int .i64 0] 32)) W.heap.size 42 [.slice A D.length c] from ((((Bk.new' rfl rfl).alloc _).alloc _).alloc _).alloc _)
  have HM0 := Lib.hid (show Bk (((((W.alloc (.cells #[.slice A D.length c] 42)).alloc (.cells (mcells m (.slice B m.stamp.length d)).toArray 32)).alloc (.cells #[.slice none 0 0] 42)).alloc (.cells #[.int .i64 0, .int .i64 0, .int .i64 0, .int .i64 0, .int .i64 0, .int .i64 0, .int .i64 0, .string ⟨#[]⟩, .int .i64 0, .int .i64 0, .int .i64 0, .bool false, .int .i64 0, .slice none 0 0, .int .i64 0, .int .i64 0] 32)).alloc (.cells #[.int .i64 0, .int .i64 0, .int .i64 0, .int .i64 0, .int .i64 0, .int .i64 0, .int .i64 0, .string ⟨#[]⟩, .int .i64 0, .int .i64 0, .int .i64 0, .bool false, .int .i64 0, .slice none 0 0, .int .i64 0, .int .i64 0] 32)) (W.heap.size + 1) 32 (mcells m (.slice B m.stamp.length d)) from (((Bk.new' (by simp) rfl).alloc _).alloc _).alloc _)
  have HR20 := Lib.hid (show Bk (((((W.alloc (.cells #[.slice A D.length c] 42)).alloc (.cells (mcells m (.slice B m.stamp.length d)).toArray 32)).alloc (.cells #[.slice none 0 0] 42)).alloc (.cells #[.int .i64 0, .int .i64 0, .int .i64 0, .int .i64 0, .int .i64 0, .int .i64 0, .int .i64 0, .string ⟨#[]⟩, .int .i64 0, .int .i64 0, .int .i64 0, .bool false, .int .i64 0, .slice none 0 0, .int .i64 0, .int .i64 0] 32)).alloc (.cells #[.int .i64 0, .int .i64 0, .int .i64 0, .int .i64 0, .int .i64 0, .int .i64 0, .int .i64 0, .string ⟨#[]⟩, .int .i64 0, .int .i64 0, .int .i64 0, .bool false, .int .i64 0, .slice none 0 0, .int .i64 0, .int .i64 0] 32)) (W.heap.size + 1 + 1) 42 [.slice none 0 0] from ((Bk.new' (by simp) rfl).alloc _).alloc _)
  have HR30 := Lib.hid (show Bk (((((W.alloc (.cells #[.slice A D.length c] 42)).alloc (.cells (mcells m (.slice B m.stamp.length d)).toArray 32)).alloc (.cells #[.slice none 0 0] 42)).alloc (.cells #[.int .i64 0, .int .i64 0, .int .i64 0, .int .i64 0, .int .i64 0, .int .i64 0, .int .i64 0, .string ⟨#[]⟩, .int .i64 0, .int .i64 0, .int .i64 0, .bool false, .int .i64 0, .slice none 0 0, .int .i64 0, .int .i64 0] 32)).alloc (.cells #[.int .i64 0, .int .i64 0, .int .i64 0, .int .i64 0, .int .i64 0, .int .i64 0, .int .i64 0, .string ⟨#[]⟩, .int .i64 0, .int .i64 0, .int .i64 0, .bool false, .int .i64 0, .slice none 0 0, .int .i64 0, .int .i64 0] 32)) (W.heap.size + 1 + 1 + 1) 32 (mcells ({} : Msg) (.slice none 0 0)) from (Bk.new' (by simp) rfl).alloc _)
  have HN0 := Lib.hid (show Bk (((((W.alloc (.cells #[.slice A D.length c] 42)).alloc (.cells (mcells m (.slice B m.stamp.length d)).toArray 32)).alloc (.cells #[.slice none 0 0] 42)).alloc (.cells #[.int .i64 0, .int .i64 0, .int .i64 0, .int .i64 0, .int .i64 0, .int .i64 0, .int .i64 0, .string ⟨#[]⟩, .int .i64 0, .int .i64 0, .int .i64 0, .bool false, .int .i64 0, .slice none 0 0, .int .i64 0, .int .i64 0] 32)).alloc (.cells #[.int .i64 0, .int .i64 0, .int .i64 0, .int .i64 0, .int .i64 0, .int .i64 0, .int .i64 0, .string ⟨#[]⟩, .int .i64 0, .int .i64 0, .int .i64 0, .bool false, .int .i64 0, .slice none 0 0, .int .i64 0, .int .i64 0] 32)) (W.heap.size + 1 + 1 + 1 + 1) 32 (mcells ({} : Msg) (.slice none 0 0)) from Bk.new' (by simp) rfl)
  have HK0 := Lib.hid (show Kp No W (((((W.alloc (.cells #[.slice A D.length c] 42)).alloc (.cells (mcells m (.slice B m.stamp.length d)).toArray 32)).alloc (.cells #[.slice none 0 0] 42)).alloc (.cells #[.int .i64 0, .int .i64 0, .int .i64 0, .int .i64 0, .int .i64 0, .int .i64 0, .int .i64 0, .string ⟨#[]⟩, .int .i64 0, .int .i64 0, .int .i64 0, .bool false, .int .i64 0, .slice none 0 0, .int .i64 0, .int .i64 0] 32)).alloc (.cells #[.int .i64 0, .int .i64 0, .int .i64 0, .int .i64 0, .int .i64 0, .int .i64 0, .int .i64 0, .string ⟨#[]⟩, .int .i64 0, .int .i64 0, .int .i64 0, .bool false, .int .i64 0, .slice none 0 0, .int .i64 0, .int .i64 0] 32)) from (((((Kp.refl No W).alloc _).alloc _).alloc _).alloc _).alloc _)
  have pv : Calls Tryz.prog 24 #[.agg (mcells m (.slice B m.stamp.length d)).toArray] (((((W.alloc (.cells #[.slice A D.length c] 42)).alloc (.cells (mcells m (.slice B m.stamp.length d)).toArray 32)).alloc (.cells #[.slice none 0 0] 42)).alloc (.cells #[.int .i64 0, .int .i64 0, .int .i64 0, .int .i64 0, .int .i64 0, .int .i64 0, .int .i64 0, .string ⟨#[]⟩, .int .i64 0, .int .i64 0, .int .i64 0, .bool false, .int .i64 0, .slice none 0 0, .int .i64 0, .int .i64 0] 32)).alloc (.cells #[.int .i64 0, .int .i64 0, .int .i64 0, .int .i64 0, .int .i64 0, .int .i64 0, .int .i64 0, .string ⟨#[]⟩, .int .i64 0, .int .i64 0, .int .i64 0, .bool false, .int .i64 0, .slice none 0 0, .int .i64 0, .int .i64 0] 32)) fun e w' => e = .returned (.bool true) ∧ Kp No (((((W.alloc (.cells #[.slice A D.length c] 42)).alloc (.cells (mcells m (.slice B m.stamp.length d)).toArray 32)).alloc (.cells #[.slice none 0 0] 42)).alloc (.cells #[.int .i64 0, .int .i64 0, .int .i64 0, .int .i64 0, .int .i64 0, .int .i64 0, .int .i64 0, .string ⟨#[]⟩, .int .i64 0, .int .i64 0, .int .i64 0, .bool false, .int .i64 0, .slice none 0 0, .int .i64 0, .int .i64 0] 32)).alloc (.cells #[.int .i64 0, .int .i64 0, .int .i64 0, .int .i64 0, .int .i64 0, .int .i64 0, .int .i64 0, .string ⟨#[]⟩, .int .i64 0, .int .i64 0, .int .i64 0, .bool false, .int .i64 0, .slice none 0 0, .int .i64 0, .int .i64 0] 32)) w' :=
    (rvalid6_any m B d _ (hs.no HK0.out) hm hp).mono fun e w' h => by rw [decide_eq_true ha.2] at h; exact h
  obtain ⟨C, hC⟩ : ∃ C, C = mcells ({} : Msg) (.slice none 0 0) := ⟨_, rfl⟩
  have HCL := Lib.hid (show C.length = 16 from by rw [hC]; rfl)
  have HCI : Hid ((Tryz.prog.info? 32).map (·.size) = some C.length) := Lib.hid (by rw [HCL.out]; kernel_rfl)
  have HCT : Hid ((Tryz.prog.info? 32).map (·.size) = some C.toArray.size) := Lib.hid (by rw [List.size_toArray, HCL.out]; kernel_rfl)
  have HCO := Lib.hid (show C.toArray.all (·.oneCell') = true from by rw [hC]; simp [mcells, Value.oneCell'])
  have HCE := Lib.hid hC
  have HN1 := Lib.hid (show Bk (((((W.alloc (.cells #[.slice A D.length c] 42)).alloc (.cells (mcells m (.slice B m.stamp.length d)).toArray 32)).alloc (.cells #[.slice none 0 0] 42)).alloc (.cells #[.int .i64 0, .int .i64 0, .int .i64 0, .int .i64 0, .int .i64 0, .int .i64 0, .int .i64 0, .string ⟨#[]⟩, .int .i64 0, .int .i64 0, .int .i64 0, .bool false, .int .i64 0, .slice none 0 0, .int .i64 0, .int .i64 0] 32)).alloc (.cells #[.int .i64 0, .int .i64 0, .int .i64 0, .int .i64 0, .int .i64 0, .int .i64 0, .int .i64 0, .string ⟨#[]⟩, .int .i64 0, .int .i64 0, .int .i64 0, .bool false, .int .i64 0, .slice none 0 0, .int .i64 0, .int .i64 0] 32)) (W.heap.size + 1 + 1 + 1 + 1) 32 C from by rw [hC]; exact HN0.out)
  have HE := Lib.hid hE
  clear hE
  have HH := Lib.hid h
  have H8 := Lib.hid h8; have HL8 := Lib.hid hl; have HA := Lib.hid ha
  obtain ⟨k, hk⟩ : ∃ k : Nat, m.from_ = (k : Int) := ⟨m.from_.toNat, by have := (may_ask ha.2 ha.1).1; unfold nodeI at this; omega⟩
  have hk8 : k < 8 := by have := (may_ask ha.2 ha.1).1; unfold nodeI at this; omega
  have hkD : k < D.length := by omega
  have hk0 : (0 : Int) ≤ (k : Int) := by omega
  have hk1 : (k : Int) < (D.length : Int) := by omega
  obtain ⟨g, o, c0, e0, _, hrg, hy⟩ := h.at_ hkD
  injection e0 with e1 _ e2
  subst e1; subst e2
  obtain ⟨y, hyy⟩ : ∃ y, y = D[k] := ⟨_, rfl⟩
  rw [← hyy] at hrg hy
  have HYL := Lib.hid (show y.L.length ≤ 8 from by rw [hyy]; exact hl _ (List.getElem_mem hkD))
  have HYW := Lib.hid (show 1 ≤ y.low ∧ y.low ≤ 1099511627776 from by rw [hyy]; exact hw _ (List.getElem_mem hkD))
  have hsq : 1 ≤ m.seq ∧ m.seq ≤ 1099511627776 := (may_ask ha.2 ha.1).2.2.1
  have HMW := Lib.hid (show 1 ≤ m.low ∧ m.low ≤ 1099511627776 from by have := (may_ask ha.2 ha.1).2.2.2; omega)
  have HGE := Lib.hid (show (D.map toCl).getD m.from_.toNat {} = toCl y from by rw [hk, Int.toNat_natCast, toCl_get D k hkD, hyy])
  have HMS := Lib.hid (show ∀ xq : Dc, (D.set k xq).map toCl = (D.map toCl).set m.from_.toNat (toCl xq) from fun xq => by rw [hk, Int.toNat_natCast, List.map_set])
  have HF0 := Lib.hid (show ∀ W2, Bk W2 (W.heap.size + 1) 32 (mcells m (.slice B m.stamp.length d)) → W2.cell? ⟨(W.heap.size + 1), 1, none⟩ = some (.int .i64 (k : Int)) from fun W2 hb => by rw [← hk]; exact hb.cell 1)
  have d1 : (m.kind != 1) = false := by simp [ha.1]
  have HRG0 := Lib.hid hrg; have HY0 := Lib.hid hy; have HMEM := Lib.hid hyy
  clear h h8 hl hs hm hp hC ha hk hrg hy hyy HN0 hw
  have HM1 := HM0
  unfold mcells at pv HM0 ⊢
  go_enter Tryz.func18, Tryz.ntmps18
  go_wp2_with fail
  refine pv.mono ?_
  rintro e w6 ⟨rfl, k6⟩
  have K6 := Lib.hid k6
  have HK := Lib.hid (HK0.out.trans k6); have HS := Lib.hid (HS0.out.no k6); have HM := Lib.hid (HM1.out.no k6); have HR2 := Lib.hid (HR20.out.no k6); have HR3 := Lib.hid (HR30.out.no k6); have HN := Lib.hid (HN1.out.no k6)
  have HRG := Lib.hid (show w6.rangeAt g (o + k * 3) [.int .i64 y.boot, .int .i64 y.low, y.v] from range_kp HRG0.out HK.out (fun m => m))
  have HY := Lib.hid (show DcOk w6 y from HY0.out.no HK.out)
  have HF1 := Lib.hid (show ∀ W9, Kp No w6 W9 → W9.cell? ⟨(W.heap.size + 1), 1, none⟩ = some (.int .i64 (k : Int)) from fun W9 hk => HF0.out _ (HM.out.no hk))
  have hsz : (W.heap.size + 1 + 1 + 1 + 1) < w6.heap.size := HN.out.lt
  clear pv k6 HK0 HS0 HM0 HM1 HR20 HR30 HN1 K6
  go_upto_region 4 with (fail)
  try simp only [Act.put, List.setIfInBounds_toArray, List.set_cons_zero, List.set_cons_succ]
  go_cut [8, 9] (fun s t wx => ∃ b8 b7 l7 A7 n7 c7 t7, s = .pointer (some ⟨b8, 0, none⟩) ∧ t = .bool t7 ∧ w6.heap.size ≤ b8 ∧ Bk wx b8 75 [.int .i64 b7, .int .i64 l7, .slice A7 n7 c7] ∧ Kp No w6 wx ∧ HeardQ y m w6.heap.size wx t7 b7 l7 A7 n7 c7)
  case first =>
    have hF : Kp No w6 w6.drew := (Kp.refl No w6).drew
    refine rg_begin (fun W2 => Kp No w6 W2) 14 (by kernel_rfl) ?_
    refine rg_take (i := 0) (v := ?vh0) (by simp only [List.getElem?_toArray, List.getElem?_cons_zero]; rfl) (by kernel_rfl) (by exact fun _ _ _ h => h) (by rfl) ?rh0 hF ?sh0
    case rh0 => (intro W hW; clear hW; go_simp; try with_reducible rfl)
    try simp only [Act.put, List.setIfInBounds_toArray, List.set_cons_zero, List.set_cons_succ]
    refine rg_take (i := 1) (v := ?vh1) (by simp only [List.getElem?_toArray, List.getElem?_cons_succ, List.getElem?_cons_zero]; rfl) (by kernel_rfl) (by exact fun _ _ _ h => h) (by rfl) ?rh1 hF ?sh1
    case rh1 => (intro W9 hW; have z0 : W9.cell? ⟨W.heap.size, 0, none⟩ = some (.slice (some ⟨g, o, none⟩) D.length c) := (HS.out.no hW).cell 0; go_simp; try with_reducible rfl)
    try simp only [Act.put, List.setIfInBounds_toArray, List.set_cons_zero, List.set_cons_succ]
    refine rg_take (i := 2) (v := ?vh2) (by simp only [List.getElem?_toArray, List.getElem?_cons_succ, List.getElem?_cons_zero]; rfl) (by kernel_rfl) (by exact fun _ _ _ h => h) (by rfl) ?rh2 hF ?sh2
    case rh2 => (intro W hW; clear hW; go_simp; try with_reducible rfl)
    try simp only [Act.put, List.setIfInBounds_toArray, List.set_cons_zero, List.set_cons_succ]
    refine rg_take (i := 3) (v := ?vh3) (by simp only [List.getElem?_toArray, List.getElem?_cons_succ, List.getElem?_cons_zero]; rfl) (by kernel_rfl) (by exact fun _ _ _ h => h) (by rfl) ?rh3 hF ?sh3
    case rh3 => (intro W9 hW; have z0 : W9.cell? ⟨(W.heap.size + 1), 1, none⟩ = some (.int .i64 (k : Int)) := HF1.out _ hW; go_simp; try with_reducible rfl)
    try simp only [Act.put, List.setIfInBounds_toArray, List.set_cons_zero, List.set_cons_succ]
    refine rg_take (i := 4) (v := ?vh4) (by simp only [List.getElem?_toArray, List.getElem?_cons_succ, List.getElem?_cons_zero]; rfl) (by kernel_rfl) (by exact fun _ _ _ h => h) (by rfl) ?rh4 hF ?sh4
    case rh4 => (intro W9 hW; clear hW; go_simp; try with_reducible rfl)
    try simp only [Act.put, List.setIfInBounds_toArray, List.set_cons_zero, List.set_cons_succ]
    refine rg_take (i := 5) (v := ?vh5) (by simp only [List.getElem?_toArray, List.getElem?_cons_succ, List.getElem?_cons_zero]; rfl) (by kernel_rfl) (by exact fun _ _ _ h => h) (by rfl) ?rh5 hF ?sh5
    case rh5 => (intro W9 hW; have h2 := range_kp HRG.out hW (fun m => m); have q0 := h2 0 _ rfl; have q1 := h2 1 _ rfl; have q2 := h2 2 _ rfl; simp only [Nat.add_zero] at q0; go_simp; try with_reducible rfl)
    try simp only [Act.put, List.setIfInBounds_toArray, List.set_cons_zero, List.set_cons_succ]
    refine rg_take (i := 6) (v := ?vh6) (by simp only [List.getElem?_toArray, List.getElem?_cons_succ, List.getElem?_cons_zero]; rfl) (by kernel_rfl) (by exact fun _ _ _ h => h) (by rfl) ?rh6 hF ?sh6
    case rh6 => (intro W9 hW; refine exec_load_mid W9 32 (.tmp 3) ?_ (W.heap.size + 1) 0 ?_ (mcells m (.slice B m.stamp.length d)) _ (range_of (HM.out.no hW)) Tryz.underlying32 ?_ (by kernel_rfl); exact rfl; exact rfl; exact rfl)
    try simp only [Act.put, List.setIfInBounds_toArray, List.set_cons_zero, List.set_cons_succ]
    refine rg_two (i := 7) (j := 11) (oi := ?oh7) (oj := ?oh11) ?ah7 ?ah11 ?bh7 ?ch7 ?ch11 ?dh7 ?dh11
    case ah7 => (simp only [List.getElem?_toArray, List.getElem?_cons_succ, List.getElem?_cons_zero]; rfl)
    case ah11 => (simp only [List.getElem?_toArray, List.getElem?_cons_succ, List.getElem?_cons_zero]; rfl)
    case bh7 => kernel_rfl
    case ch7 => rfl
    case ch11 => rfl
    case dh7 =>
      intro K hK
      (go_simp; refine (dheard_any y m (.slice B m.stamp.length d) _ (HY.out.no (Kp.refl No w6).drew) HYL.out).mono ?_; rintro e w7 hh7; obtain ⟨k7, b7, l7, A7, n7, c7, t7, rfl, hq7⟩ := heard_out (show w6.heap.size ≤ _ from (Kp.refl No w6).drew.size) (HY.out.no (Kp.refl No w6).drew) HYL.out hh7)
      refine rg_use hK (((Kp.refl No w6).drew.trans k7)) (fun hF => ?_)
      clear hK K
      try simp only [Act.put, List.setIfInBounds_toArray, List.set_cons_zero, List.set_cons_succ]
      refine rg_take (i := 8) (v := ?vhx7x8) (by simp only [List.getElem?_toArray, List.getElem?_cons_succ, List.getElem?_cons_zero]; rfl) (by kernel_rfl) (by exact fun _ _ _ h => h) (by rfl) ?rhx7x8 hF ?shx7x8
      case rhx7x8 => (intro W hW; clear hW; go_simp; try with_reducible rfl)
      try simp only [Act.put, List.setIfInBounds_toArray, List.set_cons_zero, List.set_cons_succ]
      refine rg_take (i := 9) (v := ?vhx7x9) (by simp only [List.getElem?_toArray, List.getElem?_cons_succ, List.getElem?_cons_zero]; rfl) (by kernel_rfl) (by exact fun _ _ _ h => h) (by rfl) ?rhx7x9 hF ?shx7x9
      case rhx7x9 => (intro W hW; clear hW; go_simp; try with_reducible rfl)
      try simp only [Act.put, List.setIfInBounds_toArray, List.set_cons_zero, List.set_cons_succ]
      refine rg_take (i := 10) (v := ?vhx7x10) (by simp only [List.getElem?_toArray, List.getElem?_cons_succ, List.getElem?_cons_zero]; rfl) (by kernel_rfl) (by exact fun _ _ _ h => h) (by rfl) ?rhx7x10 hF ?shx7x10
      case rhx7x10 => (intro W hW; clear hW; go_simp; try with_reducible rfl)
      try simp only [Act.put, List.setIfInBounds_toArray, List.set_cons_zero, List.set_cons_succ]
      refine rg_one (i := 11) (oi := ?ohx7x11) ?ahx7x11 ?bhx7x11 ?chx7x11 ?dhx7x11
      case ahx7x11 => (simp only [List.getElem?_toArray, List.getElem?_cons_succ, List.getElem?_cons_zero]; rfl)
      case bhx7x11 => kernel_rfl
      case chx7x11 => rfl
      intro K hK
      go_simp
      refine rg_use hK ((((Kp.refl No w6).drew.trans k7).alloc _)) (fun hF => ?_)
      clear hK K
      try simp only [Act.put, List.setIfInBounds_toArray, List.set_cons_zero, List.set_cons_succ]
      refine rg_one (i := 12) (oi := ?ohx7x12) ?ahx7x12 ?bhx7x12 ?chx7x12 ?dhx7x12
      case ahx7x12 => (simp only [List.getElem?_toArray, List.getElem?_cons_succ, List.getElem?_cons_zero]; rfl)
      case bhx7x12 => kernel_rfl
      case chx7x12 => rfl
      intro K hK
      go_simp
      refine rg_use hK ((((Kp.refl No w6).drew.trans k7).alloc _)) (fun hF => ?_)
      clear hK K
      try simp only [Act.put, List.setIfInBounds_toArray, List.set_cons_zero, List.set_cons_succ]
      refine rg_take (i := 13) (v := ?vhx7x13) (by simp only [List.getElem?_toArray, List.getElem?_cons_succ, List.getElem?_cons_zero]; rfl) (by kernel_rfl) (by exact fun _ _ _ h => h) (by rfl) ?rhx7x13 hF ?shx7x13
      case rhx7x13 => (intro W hW; clear hW; go_simp; try with_reducible rfl)
      try simp only [Act.put, List.setIfInBounds_toArray, List.set_cons_zero, List.set_cons_succ]
      refine rg_done (by kernel_rfl) ?_
      have HB9 := Lib.hid (show Bk _ w7.heap.size 75 [.int .i64 b7, .int .i64 l7, .slice A7 n7 c7] from (show Bk (w7.alloc (.cells #[.int .i64 b7, .int .i64 l7, .slice A7 n7 c7] 75)) w7.heap.size 75 [.int .i64 b7, .int .i64 l7, .slice A7 n7 c7] from Bk.new' rfl rfl))
      have HQ9 := Lib.hid (hq7.no ((Kp.refl No w7).alloc (.cells #[.int .i64 b7, .int .i64 l7, .slice A7 n7 c7] 75)))
      go_wp2
      go_meet
      exact ⟨_, _, _, _, _, _, _, rfl, rfl, (show w6.heap.size ≤ w7.heap.size from k7.size), HB9.out, hF, HQ9.out⟩
    case dh11 =>
      intro K hK
      go_simp
      refine rg_use hK (((Kp.refl No w6).drew.alloc _)) (fun hF => ?_)
      clear hK K
      try simp only [Act.put, List.setIfInBounds_toArray, List.set_cons_zero, List.set_cons_succ]
      refine rg_one (i := 7) (oi := ?ohx11x7) ?ahx11x7 ?bhx11x7 ?chx11x7 ?dhx11x7
      case ahx11x7 => (simp only [List.getElem?_toArray, List.getElem?_cons_succ, List.getElem?_cons_zero]; rfl)
      case bhx11x7 => kernel_rfl
      case chx11x7 => rfl
      intro K hK
      (go_simp; refine (dheard_any y m (.slice B m.stamp.length d) _ (HY.out.no ((Kp.refl No w6).drew.alloc _)) HYL.out).mono ?_; rintro e w7 hh7; obtain ⟨k7, b7, l7, A7, n7, c7, t7, rfl, hq7⟩ := heard_out (show w6.heap.size ≤ _ from ((Kp.refl No w6).drew.alloc _).size) (HY.out.no ((Kp.refl No w6).drew.alloc _)) HYL.out hh7)
      refine rg_use hK ((((Kp.refl No w6).drew.alloc _).trans k7)) (fun hF => ?_)
      clear hK K
      try simp only [Act.put, List.setIfInBounds_toArray, List.set_cons_zero, List.set_cons_succ]
      refine rg_take (i := 8) (v := ?vhx11x8) (by simp only [List.getElem?_toArray, List.getElem?_cons_succ, List.getElem?_cons_zero]; rfl) (by kernel_rfl) (by exact fun _ _ _ h => h) (by rfl) ?rhx11x8 hF ?shx11x8
      case rhx11x8 => (intro W hW; clear hW; go_simp; try with_reducible rfl)
      try simp only [Act.put, List.setIfInBounds_toArray, List.set_cons_zero, List.set_cons_succ]
      refine rg_take (i := 9) (v := ?vhx11x9) (by simp only [List.getElem?_toArray, List.getElem?_cons_succ, List.getElem?_cons_zero]; rfl) (by kernel_rfl) (by exact fun _ _ _ h => h) (by rfl) ?rhx11x9 hF ?shx11x9
      case rhx11x9 => (intro W hW; clear hW; go_simp; try with_reducible rfl)
      try simp only [Act.put, List.setIfInBounds_toArray, List.set_cons_zero, List.set_cons_succ]
      refine rg_take (i := 10) (v := ?vhx11x10) (by simp only [List.getElem?_toArray, List.getElem?_cons_succ, List.getElem?_cons_zero]; rfl) (by kernel_rfl) (by exact fun _ _ _ h => h) (by rfl) ?rhx11x10 hF ?shx11x10
      case rhx11x10 => (intro W hW; clear hW; go_simp; try with_reducible rfl)
      try simp only [Act.put, List.setIfInBounds_toArray, List.set_cons_zero, List.set_cons_succ]
      refine rg_one (i := 12) (oi := ?ohx11x12) ?ahx11x12 ?bhx11x12 ?chx11x12 ?dhx11x12
      case ahx11x12 => (simp only [List.getElem?_toArray, List.getElem?_cons_succ, List.getElem?_cons_zero]; rfl)
      case bhx11x12 => kernel_rfl
      case chx11x12 => rfl
      intro K hK
      (have hb := ((show Bk (w6.drew.alloc (.cells #[.int .i64 0, .int .i64 0, .slice none 0 0] 75)) w6.heap.size 75 [.int .i64 0, .int .i64 0, .slice none 0 0] from Bk.new' (by simp) rfl).no k7); have r0 := hb.cell 0; have r1 := hb.cell 1; have r2 := hb.cell 2; have rf0 := hb.frozen 0; have rf1 := hb.frozen 1; have rf2 := hb.frozen 2; simp only [List.getElem?_cons_zero, List.getElem?_cons_succ] at r0 r1 r2; clear hb; go_simp)
      refine rg_use hK (((((Kp.refl No w6).drew.alloc _).trans k7).then_ ((((Kp.refl (One w6.heap.size) w7).set (.inl rfl) 0 (.int .i64 b7)).set (.inl rfl) 1 (.int .i64 l7)).set (.inl rfl) 2 (.slice A7 n7 c7)) fun i hi e => by have e : i = w6.heap.size := e; have := (show w6.heap.size ≤ w6.heap.size from Nat.le_refl _); omega)) (fun hF => ?_)
      clear hK K
      try simp only [Act.put, List.setIfInBounds_toArray, List.set_cons_zero, List.set_cons_succ]
      refine rg_take (i := 13) (v := ?vhx11x13) (by simp only [List.getElem?_toArray, List.getElem?_cons_succ, List.getElem?_cons_zero]; rfl) (by kernel_rfl) (by exact fun _ _ _ h => h) (by rfl) ?rhx11x13 hF ?shx11x13
      case rhx11x13 => (intro W hW; clear hW; go_simp; try with_reducible rfl)
      try simp only [Act.put, List.setIfInBounds_toArray, List.set_cons_zero, List.set_cons_succ]
      refine rg_done (by kernel_rfl) ?_
      have HB9 := Lib.hid (show Bk _ w6.heap.size 75 [.int .i64 b7, .int .i64 l7, .slice A7 n7 c7] from (((((show Bk (w6.drew.alloc (.cells #[.int .i64 0, .int .i64 0, .slice none 0 0] 75)) w6.heap.size 75 [.int .i64 0, .int .i64 0, .slice none 0 0] from Bk.new' (by simp) rfl).no k7).set_ 0 (.int .i64 b7)).set_ 1 (.int .i64 l7)).set_ 2 (.slice A7 n7 c7)))
      have HQ9 := Lib.hid (hq7.kp ((((Kp.refl (One w6.heap.size) w7).set (.inl rfl) 0 (.int .i64 b7)).set (.inl rfl) 1 (.int .i64 l7)).set (.inl rfl) 2 (.slice A7 n7 c7)) fun g t cs hb ht e => by
        have e : g = w6.heap.size := e
        subst e
        exact hb.ne_ ((show Bk (w6.drew.alloc (.cells #[.int .i64 0, .int .i64 0, .slice none 0 0] 75)) w6.heap.size 75 [.int .i64 0, .int .i64 0, .slice none 0 0] from Bk.new' (by simp) rfl).no k7) (by rcases ht with rfl | rfl <;> decide) rfl)
      go_wp2
      go_meet
      exact ⟨_, _, _, _, _, _, _, rfl, rfl, (show w6.heap.size ≤ w6.heap.size from Nat.le_refl _), HB9.out, hF, HQ9.out⟩
  case rest =>
    obtain ⟨b8, b7, l7, A7, n7, c7, t7, rfl, rfl, hb8, hbk8, kc, hq⟩ := hcut
    have HKC := Lib.hid (HK.out.trans kc)
    have HSc := Lib.hid (HS.out.no kc); have HMc := Lib.hid (HM.out.no kc); have HR2c := Lib.hid (HR2.out.no kc); have HR3c := Lib.hid (HR3.out.no kc); have HCc := Lib.hid (range_of (HN.out.no kc)); have HNc := Lib.hid (HN.out.no kc)
    have HB8 := Lib.hid hbk8
    have HFc := Lib.hid (show wc.cell? ⟨(W.heap.size + 1), 1, none⟩ = some (.int .i64 (k : Int)) from HF1.out _ kc)
    clear HS HM HR2 HR3 HN HF1 HRG HY HK kc hbk8 HRG0 HY0 HF0
    have HS := HSc; have HM := HMc; have HR2 := HR2c; have HR3 := HR3c; have HCR := HCc; have HN := HNc
    clear HSc HMc HR2c HR3c HCc HNc
    have HSM := Lib.hid (show ¬ One (W.heap.size + 1 + 1) (W.heap.size + 1 + 1 + 1 + 1) from fun e => by have e : (W.heap.size + 1 + 1 + 1 + 1) = (W.heap.size + 1 + 1) := e; omega)
    have hlt := HR3.out.lt
    rcases hq with ⟨rfl, hq⟩ | ⟨rfl, L7, hq, hL7, hl7, hag⟩
    · exfalso
      obtain ⟨cc, h1, h2⟩ := HE.out
      rw [HGE.out, hq] at h1
      cases h1
    · have HHQ := Lib.hid (show heardS ((D.map toCl).getD m.from_.toNat {}) m = some (toCl ⟨b7, l7, .slice A7 n7 c7, L7⟩) from by rw [HGE.out]; exact hq)
      have hlb : 1 ≤ l7 ∧ l7 ≤ 1099511627776 := heard_low hq HYW.out HMW.out
      obtain ⟨xq, hx2⟩ : ∃ xq : Dc, xq = ⟨b7, l7, .slice A7 n7 c7, L7⟩ := ⟨_, rfl⟩
      rw [← hx2] at HHQ
      have HX2 := Lib.hid hL7
      have HAG := Lib.hid (show ∀ a, A7 = some a → (W.heap.size + 1 + 1 + 1 + 1) < a.block from fun a e => Nat.lt_of_lt_of_le hsz (hag a e))
      have HL9 := Lib.hid (show ∀ x ∈ D.set k xq, x.L.length ≤ 8 from fun x hx => by
        rcases List.mem_or_eq_of_mem_set hx with h3 | rfl
        · exact HL8.out x h3
        · rw [hx2]; exact hl7)
      have HXL := Lib.hid (show xq.L.length ≤ 8 from by rw [hx2]; exact hl7)
      have HXD := Lib.hid (show ∀ W2, AnsR W2 (.slice A7 n7 c7) L7 → DcOk W2 xq from fun W2 h => by rw [hx2]; exact h)
      have HLO := Lib.hid (show (toCl xq).low = l7 from by rw [hx2]; rfl)
      have HXC := Lib.hid (show dcC xq = [.int .i64 b7, .int .i64 l7, .slice A7 n7 c7] from by rw [hx2]; rfl)
      have HXE := Lib.hid hx2
      have pp := dput_any (.slice (some ⟨g, o, none⟩) D.length c) D k xq wc (HH.out.no HKC.out) H8.out (HXD.out _ HX2.out) hk8
      rw [HXC.out] at pp
      have y0 : wc.cell? ⟨W.heap.size, 0, none⟩ = some (.slice (some ⟨g, o, none⟩) D.length c) := HS.out.cell 0
      have y1 := HFc.out
      have v0 : wc.cell? ⟨b8, 0, none⟩ = some (.int .i64 b7) := HB8.out.cell 0
      have v1 : wc.cell? ⟨b8, 1, none⟩ = some (.int .i64 l7) := HB8.out.cell 1
      have v2 : wc.cell? ⟨b8, 2, none⟩ = some (.slice A7 n7 c7) := HB8.out.cell 2
      clear hq hL7 hl7 hx2 hag
      go_wp2_with fail
      refine pp.mono ?_
      rintro e w9 ⟨vp, rfl, hrp, k9⟩
      have hrp0 := hrp
      obtain ⟨⟨A3, c3, hvp, _, _⟩, _⟩ := hrp0
      rw [List.length_set] at hvp
      subst hvp
      clear y0 y1 v0 v1 v2 pp
      go_upto_region 8 with (fail)
      generalize hw10 : World.alloc w9 (.cells #[.slice A3 D.length c3] 42) = w10
      have k10 : Kp No w9 w10 := by rw [← hw10]; exact (Kp.refl No w9).alloc _
      have HB10 := Lib.hid (show Bk w10 w9.heap.size 42 [.slice A3 D.length c3] from by rw [← hw10]; exact Bk.new' rfl rfl)
      clear hw10
      have k11 := k9.trans k10
      have HP := Lib.hid (hrp.no k10); have HK9 := Lib.hid (HKC.out.trans k11)
      have HM9 := Lib.hid (HM.out.no k11); have HR29 := Lib.hid (HR2.out.no k11); have HR39 := Lib.hid (HR3.out.no k11); have HN9 := Lib.hid (HN.out.no k11); have HB9 := Lib.hid (HB8.out.no k11); have HX29 := Lib.hid (HX2.out.no k11)
      have hb10 : (W.heap.size + 1 + 1 + 1 + 1) < w9.heap.size := Nat.lt_of_lt_of_le HN.out.lt k9.size
      clear hrp k9 k10 k11 HM HR2 HR3 HN HB8 HX2 HKC HCR HS HFc hlt hb8
      have HM := HM9; have HR2 := HR29; have HR3 := HR39; have HN := HN9; have HB8 := HB9; have HX2 := HX29; have HKC := HK9; have HS := HB10
      clear HM9 HR29 HR39 HN9 HB9 HX29 HK9 HB10
      generalize w9.heap.size = b10 at *
      have HCR := Lib.hid (range_of HN.out)
      have hlt := HR3.out.lt
      have u4 : w10.cell? ⟨(W.heap.size + 1), 4, none⟩ = some (.int .i64 m.seq) := HM.out.cell 4
      have v0 : w10.cell? ⟨b8, 0, none⟩ = some (.int .i64 b7) := HB8.out.cell 0
      have v1 : w10.cell? ⟨b8, 1, none⟩ = some (.int .i64 l7) := HB8.out.cell 1
      have v2 : w10.cell? ⟨b8, 2, none⟩ = some (.slice A7 n7 c7) := HB8.out.cell 2
      try simp only [Act.put, List.setIfInBounds_toArray, List.set_cons_zero, List.set_cons_succ]
      go_cut [56] (fun s wx => s = .bool (decide (m.seq < l7 ∨ l7 + 8 ≤ m.seq)) ∧ w10 = wx)
      case first =>
        by_cases h1 : m.seq < l7
        · have HXX := Lib.hid (show decide (m.seq < l7 ∨ l7 + 8 ≤ m.seq) = true from decide_eq_true (.inl h1))
          go_wp2
          go_meet
          exact ⟨by rw [HXX.out], by first | trivial | rfl⟩
        · by_cases h2 : l7 + 8 ≤ m.seq
          · have HXX := Lib.hid (show decide (m.seq < l7 ∨ l7 + 8 ≤ m.seq) = true from decide_eq_true (.inr h2))
            have h3 : ¬ m.seq < l7 + 8 := by omega
            go_wp2
            go_meet
            exact ⟨by rw [HXX.out], by first | trivial | rfl⟩
          · have HXX := Lib.hid (show decide (m.seq < l7 ∨ l7 + 8 ≤ m.seq) = false from decide_eq_false (by omega))
            have h3 : m.seq < l7 + 8 := by omega
            go_wp2
            go_meet
            exact ⟨by rw [HXX.out], by first | trivial | rfl⟩
      case rest =>
        obtain ⟨rfl, rfl⟩ := hcut
        by_cases ho : m.seq < l7 ∨ l7 + 8 ≤ m.seq
        · exfalso
          obtain ⟨cc, h1, h2⟩ := HE.out
          rw [HHQ.out] at h1
          injection h1 with h1
          have h3 := h2.1
          rw [← h1, HLO.out] at h3
          exact h3 ho
        · rw [decide_eq_false ho]
          have HO := Lib.hid ho; clear ho
          have pf := dfind_any xq m.seq w10 (HXD.out _ HX2.out) (by have := HXL.out; omega)
          rw [HXC.out] at pf
          go_wp2_with fail
          refine pf.mono ?_
          rintro e w11 ⟨k11, hfr⟩
          clear pf u4 v0 v1 v2 HM HB8
          have HP1 := Lib.hid (HP.out.no k11); have HK1 := Lib.hid (HKC.out.trans k11); have HR21 := Lib.hid (HR2.out.no k11); have HR31 := Lib.hid (HR3.out.no k11); have HN1 := Lib.hid (HN.out.no k11); have HX21 := Lib.hid (HX2.out.no k11); have HS1 := Lib.hid (HS.out.no k11)
          have hX11 : (W.heap.size + 1 + 1 + 1 + 1) < w11.heap.size := HN1.out.lt
          clear k11 HP HKC HR2 HR3 HN HX2 HS HCR hlt
          rcases hfr with ⟨yy, hyy, hf, he⟩ | ⟨hf, rfl⟩
          · have HQ := Lib.hid (seenS_kept HA.out HHQ.out (by rw [HLO.out]; exact HO.out) hf)
            have HSL := Lib.hid (HX21.out.2 yy (by rw [HXE.out] at hyy; exact hyy))
            obtain ⟨ym, yv⟩ := yy
            obtain ⟨A5, c5, hyv, _⟩ := HSL.out
            simp only at hyv
            subst hyv
            simp only at he
            subst he
            clear hyy hf
            go_upto_region 12 with (with_reducible refine wpList_store_mid rfl _ _ _ rfl w11.heap.size 0 (mcells ym (.slice A5 ym.stamp.length c5)).toArray rfl rfl (msg_there _ _ _) (msg_info _ _) (msg_one _ _ _ _) ?_)
            have g6 := msg_store w11 ym A5 ym.stamp.length c5
            generalize hw12 : World.setCells _ w11.heap.size 0 _ = w12
            rw [show (w11.alloc (.cells #[.int .i64 0, .int .i64 0, .int .i64 0, .int .i64 0, .int .i64 0, .int .i64 0, .int .i64 0, .string ⟨#[]⟩, .int .i64 0, .int .i64 0, .int .i64 0, .bool false, .int .i64 0, .slice none 0 0, .int .i64 0, .int .i64 0] 32)).setCells w11.heap.size 0 (mcells ym (.slice A5 ym.stamp.length c5)) = w12 from hw12] at g6
            clear hw12
            obtain ⟨b6, k6⟩ := g6
            have HP := Lib.hid (HP1.out.no k6); have HKC := Lib.hid (HK1.out.trans k6); have HR2 := Lib.hid (HR21.out.no k6); have HR3 := Lib.hid (HR31.out.no k6); have HN := Lib.hid (HN1.out.no k6); have HX2 := Lib.hid (HX21.out.no k6); have HS := Lib.hid (HS1.out.no k6)
            have HSL2 := Lib.hid (HSL.out.no k6)
            clear HCL HCI HCT HCO HCE HSM
            obtain ⟨C, hC⟩ : ∃ C, C = mcells ym (.slice A5 ym.stamp.length c5) := ⟨_, rfl⟩
            have HCL := Lib.hid (show C.length = 16 from by rw [hC]; rfl)
            have HCI : Hid ((Tryz.prog.info? 32).map (·.size) = some C.length) := Lib.hid (by rw [HCL.out]; kernel_rfl)
            have HCT : Hid ((Tryz.prog.info? 32).map (·.size) = some C.toArray.size) := Lib.hid (by rw [List.size_toArray, HCL.out]; kernel_rfl)
            have HCO := Lib.hid (show C.toArray.all (·.oneCell') = true from by rw [hC]; simp [mcells, Value.oneCell'])
            have HCE := Lib.hid hC
            have HCR := Lib.hid (show w12.rangeAt w11.heap.size 0 C from by rw [hC]; exact range_of b6)
            have HSM := Lib.hid (show ¬ One (W.heap.size + 1 + 1) w11.heap.size from fun e => by have e : w11.heap.size = (W.heap.size + 1 + 1) := e; omega)
            clear hC
            have hlt := HR3.out.lt
            clear k6 b6 HP1 HK1 HR21 HR31 HN1 HX21 HS1
            have hF : (fun W2 => W2.cell? ⟨b10, 0, none⟩ = some (.slice A3 D.length c3) ∧ W2.rangeAt w11.heap.size 0 C) w12.drew := ⟨HS.out.cell 0, HCR.out⟩
            have kx : Kp (One (W.heap.size + 1 + 1)) w12.drew (w12.drew.setCell ⟨(W.heap.size + 1 + 1), 0, none⟩ (.slice A3 D.length c3)) := (Kp.refl (One (W.heap.size + 1 + 1)) w12.drew).set (.inl rfl) 0 _
            have HFB := Lib.hid (show (fun W2 => W2.cell? ⟨b10, 0, none⟩ = some (.slice A3 D.length c3) ∧ W2.rangeAt w11.heap.size 0 C) (w12.drew.setCell ⟨(W.heap.size + 1 + 1), 0, none⟩ (.slice A3 D.length c3)) from ⟨(HS.out.drew.kp kx (fun e => by have e : b10 = (W.heap.size + 1 + 1) := e; omega)).cell 0, range_kp (range_kp HCR.out (Kp.refl No w12).drew (fun m => m)) kx HSM.out⟩)
            have hr3 := HR3.out.drew.kp kx (fun e => by have e : (W.heap.size + 1 + 1 + 1) = (W.heap.size + 1 + 1) := e; omega)
            have HTH := Lib.hid (show World.there (w12.drew.setCell ⟨(W.heap.size + 1 + 1), 0, none⟩ (.slice A3 D.length c3)) (W.heap.size + 1 + 1 + 1) 0 C.toArray.size from hr3.there 0 _ (by rw [List.size_toArray, HCL.out]; simp [mcells]))
            have B8 : Bk (World.setCells (w12.drew.setCell ⟨(W.heap.size + 1 + 1), 0, none⟩ (.slice A3 D.length c3)) (W.heap.size + 1 + 1 + 1) 0 C) (W.heap.size + 1 + 1 + 1) 32 C := by
              have h := Bk.sets C 0 hr3 (by rw [HCL.out]; simp [mcells])
              rw [List.take_zero, List.nil_append, List.drop_of_length_le (by rw [HCL.out]; simp [mcells]), List.append_nil] at h
              exact h
            have ky : Kp (One (W.heap.size + 1 + 1 + 1)) (w12.drew.setCell ⟨(W.heap.size + 1 + 1), 0, none⟩ (.slice A3 D.length c3)) (World.setCells (w12.drew.setCell ⟨(W.heap.size + 1 + 1), 0, none⟩ (.slice A3 D.length c3)) (W.heap.size + 1 + 1 + 1) 0 C) := Kp.sets _ 0 (Kp.refl _ _) (.inl rfl)
            have B7 : Bk (World.setCells (w12.drew.setCell ⟨(W.heap.size + 1 + 1), 0, none⟩ (.slice A3 D.length c3)) (W.heap.size + 1 + 1 + 1) 0 C) (W.heap.size + 1 + 1) 42 [.slice A3 D.length c3] := (HR2.out.drew.set_ 0 (.slice A3 D.length c3)).kp ky (fun e => by have e : (W.heap.size + 1 + 1) = (W.heap.size + 1 + 1 + 1) := e; omega)
            have KW := Lib.hid (show Kp (fun q => q = (W.heap.size + 1 + 1) ∨ q = (W.heap.size + 1 + 1 + 1)) w12 (World.setCells (w12.drew.setCell ⟨(W.heap.size + 1 + 1), 0, none⟩ (.slice A3 D.length c3)) (W.heap.size + 1 + 1 + 1) 0 C) from (((Kp.refl _ w12).drew).then_ kx fun i _ e => .inl e).then_ ky fun i _ e => .inr e)
            have HB7 := Lib.hid B7; have HB8 := Lib.hid B8
            clear kx hr3 ky B7 B8
            skip
            refine rg_begin (fun W2 => W2.cell? ⟨b10, 0, none⟩ = some (.slice A3 D.length c3) ∧ W2.rangeAt w11.heap.size 0 C) 4 (by kernel_rfl) ?_
            refine rg_take (i := 0) (v := ?vc0) (by simp only [List.getElem?_toArray, List.getElem?_cons_zero]; rfl) (by kernel_rfl) (by exact fun _ _ _ h => h) (by rfl) ?rc0 hF ?sc0
            case rc0 => (intro W hW; obtain ⟨f1, f2⟩ := hW; go_simp; try with_reducible rfl)
            try simp only [Act.put, List.setIfInBounds_toArray, List.set_cons_zero, List.set_cons_succ]
            refine rg_take (i := 1) (v := ?vc1) (by simp only [List.getElem?_toArray, List.getElem?_cons_succ, List.getElem?_cons_zero]; rfl) (by kernel_rfl) (by exact fun _ _ _ h => h) (by rfl) ?rc1 hF ?sc1
            case rc1 => (intro W9 hW; refine exec_load_mid W9 32 (.tmp 11) ?_ w11.heap.size 0 ?_ C _ hW.2 Tryz.underlying32 ?_ HCI.out; exact rfl; exact rfl; exact rfl)
            try simp only [Act.put, List.setIfInBounds_toArray, List.set_cons_zero, List.set_cons_succ]
            refine rg_one (i := 2) (oi := ?oc2) ?ac2 ?bc2 ?cc2 ?dc2
            case ac2 => (simp only [List.getElem?_toArray, List.getElem?_cons_succ, List.getElem?_cons_zero]; rfl)
            case bc2 => kernel_rfl
            case cc2 => rfl
            intro K hK
            (have r0 : World.cell? w12.drew ⟨(W.heap.size + 1 + 1), 0, none⟩ = some (.slice none 0 0) := HR2.out.drew.cell 0; have rf := HR2.out.drew.frozen 0; go_simp)
            refine rg_use hK (HFB.out) (fun hF => ?_)
            clear hK K
            try simp only [Act.put, List.setIfInBounds_toArray, List.set_cons_zero, List.set_cons_succ]
            refine rg_take (i := 3) (v := ?vc3) (by simp only [List.getElem?_toArray, List.getElem?_cons_succ, List.getElem?_cons_zero]; rfl) (by kernel_rfl) (by exact fun _ _ _ h => h) (by rfl) ?rc3 hF ?sc3
            case rc3 => (intro W hW; clear hW; go_simp; try with_reducible rfl)
            try simp only [Act.put, List.setIfInBounds_toArray, List.set_cons_zero, List.set_cons_succ]
            refine rg_one (i := 4) (oi := ?oc4) ?ac4 ?bc4 ?cc4 ?dc4
            case ac4 => (simp only [List.getElem?_toArray, List.getElem?_cons_succ, List.getElem?_cons_zero]; rfl)
            case bc4 => kernel_rfl
            case cc4 => rfl
            intro K hK
            (refine wp_store_mid 32 _ _ rfl (W.heap.size + 1 + 1 + 1) 0 C.toArray rfl rfl HTH.out HCT.out HCO.out ?_)
            refine hK _ _ (fun h => absurd rfl h) ?_
            clear hK K
            try simp only [Act.put]
            refine rg_done (by kernel_rfl) ?_
            generalize hw9 : World.setCells _ (W.heap.size + 1 + 1 + 1) 0 _ = w9
            rw [show World.setCells (w12.drew.setCell ⟨(W.heap.size + 1 + 1), 0, none⟩ (.slice A3 D.length c3)) (W.heap.size + 1 + 1 + 1) 0 C = w9 from hw9] at KW HB7 HB8
            clear hw9
            have y0 := HB7.out.cell 0
            have B9 := HB8.out
            rw [HCE.out] at B9
            have x0 := B9.cell 0
            have x1 := B9.cell 1
            have x2 := B9.cell 2
            have x3 := B9.cell 3
            have x4 := B9.cell 4
            have x5 := B9.cell 5
            have x6 := B9.cell 6
            have x7 := B9.cell 7
            have x8 := B9.cell 8
            have x9 := B9.cell 9
            have x10 := B9.cell 10
            have x11 := B9.cell 11
            have x12 := B9.cell 12
            have x13 := B9.cell 13
            have x14 := B9.cell 14
            have x15 := B9.cell 15
            simp only [mcells, List.getElem?_cons_zero, List.getElem?_cons_succ] at y0 x0 x1 x2 x3 x4 x5 x6 x7 x8 x9 x10 x11 x12 x13 x14 x15
            clear B9
            go_wp2
            refine bodyPost_ret (v := .tuple #[.agg #[.slice A3 D.length c3], .int .i64 2, .agg (mcells ym (.slice A5 ym.stamp.length c5)).toArray]) (by simp [results, Tryz.results18, go_sem, y0, x0, x1, x2, x3, x4, x5, x6, x7, x8, x9, x10, x11, x12, x13, x14, x15, mcells]) rfl ?_
            have K9 := Lib.hid (HKC.out.then_ KW.out fun i hi e => by rcases e with e | e <;> omega)
            have NI := Lib.hid (show ∀ g cs, Bk w12 g 3 cs → ¬ (g = (W.heap.size + 1 + 1) ∨ g = (W.heap.size + 1 + 1 + 1)) from fun g cs hb e => by
              rcases e with e | e
              · subst e; exact hb.ne_ HR2.out (by decide) rfl
              · subst e; exact hb.ne_ HR3.out (by decide) rfl)
            refine ⟨K9.out, .slice A3 D.length c3, D.set k xq, ym, .slice A5 ym.stamp.length c5, 2, rfl, HP.out.kp2 KW.out (fun g cs hb e => by
                rcases e with e | e
                · subst e; exact hb.ne_ HR2.out (by decide) rfl
                · subst e; exact hb.ne_ HR3.out (by decide) rfl) (fun z hz => ?_), by rw [List.length_set]; exact H8.out, HL9.out, by rw [HQ.out, HMS.out], by rw [HQ.out], HSL2.out.kp KW.out NI.out⟩
            rcases List.mem_or_eq_of_mem_set hz with h3 | rfl
            · exact (HH.out.2 z h3).no K9.out
            · rw [HXE.out]
              exact HX2.out.kpv KW.out (fun a e h => by have := HAG.out a e; rcases h with h | h <;> omega) NI.out
          · exfalso
            obtain ⟨cc, h1, h2⟩ := HE.out
            rw [HHQ.out] at h1
            injection h1 with h1
            obtain ⟨_, aa, h3⟩ := h2
            rw [← h1, hf] at h3
            cases h3
end Go.Proofs.YtaipbikbapjmjaaGreat
