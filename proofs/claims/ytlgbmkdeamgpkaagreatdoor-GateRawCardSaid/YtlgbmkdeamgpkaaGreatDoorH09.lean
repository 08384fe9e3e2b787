/- The document's Handle of an operation by contract. No condition beyond what each theorem states. -/
import Derived.Test.YtlgbmkdeamgpkaaGreatDoorH08
namespace Go.Proofs.YtlgbmkdeamgpkaaGreatDoor
open Go Go.RowKit Go.PlainAid

def RMd (gb rb : Nat) (v : Value) : Nat → Prop := fun q => q = gb ∨ q = rb ∨ v.ownBlock = some q
def RHandR (W : World) (B gb rb : Nat) (v : Value) (n : Int) (P : Nat → Prop) (g : Gat) (d : Dsk) (m : Msg) (e : Ending) (w' : World) : Prop :=
  e = .returned (.int .i64 (handleG n g d m).2.2) ∧ RgB w' (fun q => P q ∨ W.heap.size ≤ q) gb rb n (handleG n g d m).1 ∧ RdG w' B rb v (handleG n g d m).2.1 ∧ Kp (RMd gb rb v) W w'
set_option maxRecDepth 100000 in
set_option maxHeartbeats 8000000 in
theorem rhandle_op (B gb rb : Nat) (v : Value) (n : Int) (g : Gat) (d : Dsk) (P : Nat → Prop) (m : Msg) (A : Option Addr) (c : Nat) (W : World) (hG : RgB W P gb rb n g) (hD : RdG W B rb v d) (hI : GInv g d) (hs : ArgInts W (.slice A m.stamp.length c) m.stamp) (hsl1 : m.stamp.length ≤ maxLen) (hpl1 : m.path.length ≤ 140737488355328) (hn : m.kind = 5 ∧ m.dest = n ∧ mayS vpP m) (hw : d.wr < 4611686018427387904) (hBW : B ≤ W.heap.size) :
    Calls Tryz.prog 31 #[.pointer (some ⟨gb, 0, none⟩), .agg (mcells m (.slice A m.stamp.length c)).toArray] W (RHandR W B gb rb v n P g d m) := by
  have hvd := may_op hn.2.2 hn.1
  have HV := Lib.hid hvd; have HN := Lib.hid hn; have HI := Lib.hid hI; have HW := Lib.hid hw; have HD := Lib.hid hD; have HBW := Lib.hid hBW
  have hm4 := valid_len hvd
  have hq30 : g.seq ≤ 1073741824 := by have := start_len d.L; rw [hI.at_] at this; exact this.2
  have hh4 : g.high.length ≤ 4 := by have := start_len d.L; rw [hI.at_] at this; exact this.1
  obtain ⟨CM, hCM⟩ : ∃ C, C = (mcells m (.slice A m.stamp.length c)) := ⟨_, rfl⟩
  have HiM : Hid ((Tryz.prog.info? 38).map (·.size) = some CM.length) := Lib.hid (by rw [hCM]; kernel_rfl)
  have HM := Lib.hid (show Bk (W.alloc (.cells CM.toArray 38)) W.heap.size 38 CM from Bk.new' rfl rfl)
  have HK := Lib.hid ((Kp.refl No W).alloc (.cells CM.toArray 38))
  have HCM := Lib.hid hCM; have HG := Lib.hid hG; have HS := Lib.hid hs
  obtain ⟨hvv, hb, hsl, hp⟩ := hG
  have HB := Lib.hid (hb.no HK.out)
  have HSL := Lib.hid hsl
  have PV := Lib.hid (show ∀ W2, Kp No (W.alloc (.cells CM.toArray 38)) W2 → Calls Tryz.prog 49 #[.agg CM.toArray] W2 (fun e w' => e = .returned (.bool true) ∧ Kp No (W.alloc (.cells CM.toArray 38)) w') from fun W2 kk => by
    rw [hCM]
    exact (rvalid6_any m A c W2 ((hs.no HK.out).no (hCM ▸ kk)) hsl1 hpl1).mono fun e w' h => ⟨by rw [decide_eq_true hn.2.2] at h; exact h.1, hCM ▸ (kk.trans h.2)⟩)
  have hF : (fun W2 => W2.cell? ⟨W.heap.size, 0, none⟩ = some (.int .i64 m.kind) ∧ W2.cell? ⟨W.heap.size, 2, none⟩ = some (.int .i64 m.dest) ∧ W2.cell? ⟨gb, 0, none⟩ = some (.int .i64 n) ∧ W2.rangeAt W.heap.size 0 CM) (W.alloc (.cells CM.toArray 38)).drew := ⟨by rw [hCM]; exact (hCM ▸ HM.out).cell 0, by rw [hCM]; exact (hCM ▸ HM.out).cell 2, HB.out.cell 0, fun j v hv => by rw [Nat.zero_add]; exact (HM.out.cell j).trans hv⟩
  have HFK := Lib.hid (show ∀ w5, Kp No (W.alloc (.cells CM.toArray 38)) w5 → (fun W2 => W2.cell? ⟨W.heap.size, 0, none⟩ = some (.int .i64 m.kind) ∧ W2.cell? ⟨W.heap.size, 2, none⟩ = some (.int .i64 m.dest) ∧ W2.cell? ⟨gb, 0, none⟩ = some (.int .i64 n) ∧ W2.rangeAt W.heap.size 0 CM) w5 from fun w5 kk => ⟨by rw [((HM.out.no kk).cell 0), hCM]; rfl, by rw [((HM.out.no kk).cell 2), hCM]; rfl, (HB.out.no kk).cell 0, fun j v hv => by rw [Nat.zero_add]; exact ((HM.out.no kk).cell j).trans hv⟩)
  obtain ⟨AH, cH, rfl, _⟩ := id hsl
  have d1 : (m.kind != 5) = false := by rw [bne_eq_false_iff_eq]; exact hn.1
  have d2 : (m.dest != n) = false := by rw [bne_eq_false_iff_eq]; exact hn.2.1
  rw [← hCM]
  clear hCM hb hs hn hD hsl hp hvd hw hI hBW
  go_enter Tryz.func31, Tryz.ntmps31
  go_upto_region 1 with (fail)
  refine rg_begin (fun W2 => W2.cell? ⟨W.heap.size, 0, none⟩ = some (.int .i64 m.kind) ∧ W2.cell? ⟨W.heap.size, 2, none⟩ = some (.int .i64 m.dest) ∧ W2.cell? ⟨gb, 0, none⟩ = some (.int .i64 n) ∧ W2.rangeAt W.heap.size 0 CM) 17 (by kernel_rfl) ?_
  refine rg_take (i := 0) (v := ?va0) (by simp only [List.getElem?_toArray, List.getElem?_cons_zero]; rfl) (by kernel_rfl) (by exact fun _ _ _ h => h) (by rfl) ?ra0 hF ?sa0
  case ra0 => (intro W hW; clear hW; go_simp; try with_reducible rfl)
  try simp only [Act.put, List.setIfInBounds_toArray, List.set_cons_zero, List.set_cons_succ]
  refine rg_take (i := 1) (v := ?va1) (by simp only [List.getElem?_toArray, List.getElem?_cons_succ, List.getElem?_cons_zero]; rfl) (by kernel_rfl) (by exact fun _ _ _ h => h) (by rfl) ?ra1 hF ?sa1
  case ra1 => (intro W9 hW; obtain ⟨f1, f2, f3, f4⟩ := hW; go_simp; try with_reducible rfl)
  try simp only [Act.put, List.setIfInBounds_toArray, List.set_cons_zero, List.set_cons_succ]
  refine rg_take (i := 2) (v := ?va2) (by simp only [List.getElem?_toArray, List.getElem?_cons_succ, List.getElem?_cons_zero]; rfl) (by kernel_rfl) (by exact fun _ _ _ h => h) (by rfl) ?ra2 hF ?sa2
  case ra2 => (intro W hW; clear hW; go_simp; try with_reducible rfl)
  try simp only [Act.put, List.setIfInBounds_toArray, List.set_cons_zero, List.set_cons_succ]
  refine rg_take (i := 3) (v := ?va3) (by simp only [List.getElem?_toArray, List.getElem?_cons_succ, List.getElem?_cons_zero]; rfl) (by kernel_rfl) (by exact fun _ _ _ h => h) (by rfl) ?ra3 hF ?sa3
  case ra3 => (intro W hW; clear hW; go_simp; try with_reducible rfl)
  try simp only [Act.put, List.setIfInBounds_toArray, List.set_cons_zero, List.set_cons_succ]
  refine rg_take (i := 4) (v := ?va4) (by simp only [List.getElem?_toArray, List.getElem?_cons_succ, List.getElem?_cons_zero]; rfl) (by kernel_rfl) (by exact fun _ _ _ h => h) (by rfl) ?ra4 hF ?sa4
  case ra4 => (intro W9 hW; refine exec_load_mid W9 38 (.tmp 3) ?_ W.heap.size 0 ?_ CM _ hW.2.2.2 Tryz.underlying38 ?_ HiM.out; exact rfl; exact rfl; exact rfl)
  try simp only [Act.put, List.setIfInBounds_toArray, List.set_cons_zero, List.set_cons_succ]
  refine rg_one (i := 5) (oi := ?oa5) ?aa5 ?ba5 ?ca5 ?da5
  case aa5 => (simp only [List.getElem?_toArray, List.getElem?_cons_succ, List.getElem?_cons_zero]; rfl)
  case ba5 => kernel_rfl
  case ca5 => rfl
  intro K hK
  (go_simp; refine (PV.out _ (Kp.refl No (W.alloc (.cells CM.toArray 38))).drew).mono ?_; rintro e w5 ⟨rfl, k5⟩)
  refine rg_use hK (HFK.out _ k5) (fun hF => ?_)
  clear hK K
  try simp only [Act.put, List.setIfInBounds_toArray, List.set_cons_zero, List.set_cons_succ]
  refine rg_take (i := 6) (v := ?va6) (by simp only [List.getElem?_toArray, List.getElem?_cons_succ, List.getElem?_cons_zero]; rfl) (by kernel_rfl) (by exact fun _ _ _ h => h) (by rfl) ?ra6 hF ?sa6
  case ra6 => (intro W hW; clear hW; go_simp; try with_reducible rfl)
  try simp only [Act.put, List.setIfInBounds_toArray, List.set_cons_zero, List.set_cons_succ]
  refine rg_take (i := 7) (v := ?va7) (by simp only [List.getElem?_toArray, List.getElem?_cons_succ, List.getElem?_cons_zero]; rfl) (by kernel_rfl) (by exact fun _ _ _ h => h) (by rfl) ?ra7 hF ?sa7
  case ra7 => (intro W hW; clear hW; go_simp; try with_reducible rfl)
  try simp only [Act.put, List.setIfInBounds_toArray, List.set_cons_zero, List.set_cons_succ]
  refine rg_take (i := 8) (v := ?va8) (by simp only [List.getElem?_toArray, List.getElem?_cons_succ, List.getElem?_cons_zero]; rfl) (by kernel_rfl) (by exact fun _ _ _ h => h) (by rfl) ?ra8 hF ?sa8
  case ra8 => (intro W hW; clear hW; go_simp; try with_reducible rfl)
  try simp only [Act.put, List.setIfInBounds_toArray, List.set_cons_zero, List.set_cons_succ]
  refine rg_take (i := 9) (v := ?va9) (by simp only [List.getElem?_toArray, List.getElem?_cons_succ, List.getElem?_cons_zero]; rfl) (by kernel_rfl) (by exact fun _ _ _ h => h) (by rfl) ?ra9 hF ?sa9
  case ra9 => (intro W hW; clear hW; go_simp; try with_reducible rfl)
  try simp only [Act.put, List.setIfInBounds_toArray, List.set_cons_zero, List.set_cons_succ]
  refine rg_take (i := 10) (v := ?va10) (by simp only [List.getElem?_toArray, List.getElem?_cons_succ, List.getElem?_cons_zero]; rfl) (by kernel_rfl) (by exact fun _ _ _ h => h) (by rfl) ?ra10 hF ?sa10
  case ra10 => (intro W9 hW; obtain ⟨f1, f2, f3, f4⟩ := hW; go_simp; try with_reducible rfl)
  try simp only [Act.put, List.setIfInBounds_toArray, List.set_cons_zero, List.set_cons_succ]
  refine rg_take (i := 11) (v := ?va11) (by simp only [List.getElem?_toArray, List.getElem?_cons_succ, List.getElem?_cons_zero]; rfl) (by kernel_rfl) (by exact fun _ _ _ h => h) (by rfl) ?ra11 hF ?sa11
  case ra11 => (intro W hW; clear hW; go_simp; try with_reducible rfl)
  try simp only [Act.put, List.setIfInBounds_toArray, List.set_cons_zero, List.set_cons_succ]
  refine rg_take (i := 12) (v := ?va12) (by simp only [List.getElem?_toArray, List.getElem?_cons_succ, List.getElem?_cons_zero]; rfl) (by kernel_rfl) (by exact fun _ _ _ h => h) (by rfl) ?ra12 hF ?sa12
  case ra12 => (intro W hW; clear hW; go_simp; try with_reducible rfl)
  try simp only [Act.put, List.setIfInBounds_toArray, List.set_cons_zero, List.set_cons_succ]
  refine rg_take (i := 13) (v := ?va13) (by simp only [List.getElem?_toArray, List.getElem?_cons_succ, List.getElem?_cons_zero]; rfl) (by kernel_rfl) (by exact fun _ _ _ h => h) (by rfl) ?ra13 hF ?sa13
  case ra13 => (intro W hW; clear hW; go_simp; try with_reducible rfl)
  try simp only [Act.put, List.setIfInBounds_toArray, List.set_cons_zero, List.set_cons_succ]
  refine rg_take (i := 14) (v := ?va14) (by simp only [List.getElem?_toArray, List.getElem?_cons_succ, List.getElem?_cons_zero]; rfl) (by kernel_rfl) (by exact fun _ _ _ h => h) (by rfl) ?ra14 hF ?sa14
  case ra14 => (intro W9 hW; obtain ⟨f1, f2, f3, f4⟩ := hW; go_simp; try with_reducible rfl)
  try simp only [Act.put, List.setIfInBounds_toArray, List.set_cons_zero, List.set_cons_succ]
  refine rg_take (i := 15) (v := ?va15) (by simp only [List.getElem?_toArray, List.getElem?_cons_succ, List.getElem?_cons_zero]; rfl) (by kernel_rfl) (by exact fun _ _ _ h => h) (by rfl) ?ra15 hF ?sa15
  case ra15 => (intro W hW; clear hW; go_simp; try with_reducible rfl)
  try simp only [Act.put, List.setIfInBounds_toArray, List.set_cons_zero, List.set_cons_succ]
  refine rg_take (i := 16) (v := ?va16) (by simp only [List.getElem?_toArray, List.getElem?_cons_succ, List.getElem?_cons_zero]; rfl) (by kernel_rfl) (by exact fun _ _ _ h => h) (by rfl) ?ra16 hF ?sa16
  case ra16 => (intro W hW; clear hW; go_simp; try with_reducible rfl)
  try simp only [Act.put, List.setIfInBounds_toArray, List.set_cons_zero, List.set_cons_succ]
  refine rg_done (by kernel_rfl) ?_
  have HK5 := Lib.hid (HK.out.trans k5)
  have HB5 := Lib.hid (HB.out.no k5)
  have HM5 := Lib.hid (show Bk w5 W.heap.size 38 (mcells m (.slice A m.stamp.length c)) from by rw [← HCM.out]; exact HM.out.no k5)
  have HG5 := Lib.hid ((HG.out.no HK5.out).mono (Q := fun q => P q ∨ W.heap.size ≤ q) fun q h => .inl h)
  have HD5 := Lib.hid (HD.out.no HK5.out)
  have HH := Lib.hid (hand_op (g := g) (d := d) HN.out)
  clear HFK PV hF k5 d1 d2 HM HB HG HD
  have z4 : w5.cell? ⟨gb, 2, none⟩ = some (.bool g.dead) := HB5.out.cell 2
  cases hd : g.dead with
  | true =>
    rw [hd] at z4
    have HE := Lib.hid (show handleG n g d m = (g, d, 40) from by rw [HH.out, if_pos hd])
    have HF := Lib.hid (show RHandR W B gb rb v n P g d m (.returned (.int .i64 40)) w5 from ⟨by rw [HE.out], by rw [HE.out]; exact HG5.out, by rw [HE.out]; exact HD5.out, HK5.out.of_no⟩)
    clear hd
    go_wp2
    go_ret
    exact HF.out
  | false =>
    rw [hd] at z4
    have HDD := Lib.hid hd
    have PC := Lib.hid (show ∀ W2, Kp No w5 W2 → Calls Tryz.prog 50 #[.slice A m.stamp.length c, .slice AH g.high.length cH] W2 (fun e w' => e = .returned (.int .i64 (cmpS m.stamp g.high)) ∧ Kp No w5 w') from fun W2 kk =>
      (rcompareS_any (.slice A m.stamp.length c) (.slice AH g.high.length cH) m.stamp g.high W2 ((HS.out.no HK5.out).no kk) ((HSL.out.no HK5.out).no kk).arg (by unfold maxLen; omega) (by unfold maxLen; omega)).mono fun e w' h => ⟨h.1, kk.trans h.2⟩)
    obtain ⟨cc, hcc⟩ : ∃ cc, cc = cmpS m.stamp g.high := ⟨_, rfl⟩
    have HCC := Lib.hid hcc.symm
    have hF : (fun W2 => W2.cell? ⟨W.heap.size, 13, none⟩ = some (.slice A m.stamp.length c) ∧ W2.cell? ⟨gb, 3, none⟩ = some (.slice AH g.high.length cH)) w5.drew := ⟨HM5.out.cell 13, HB5.out.cell 3⟩
    clear hd hcc
    go_upto_region 5 with (fail)
    clear z4
    refine rg_begin (fun W2 => W2.cell? ⟨W.heap.size, 13, none⟩ = some (.slice A m.stamp.length c) ∧ W2.cell? ⟨gb, 3, none⟩ = some (.slice AH g.high.length cH)) 8 (by kernel_rfl) ?_
    refine rg_take (i := 0) (v := ?vk0) (by simp only [List.getElem?_toArray, List.getElem?_cons_zero]; rfl) (by kernel_rfl) (by exact fun _ _ _ h => h) (by rfl) ?rk0 hF ?sk0
    case rk0 => (intro W hW; clear hW; go_simp; try with_reducible rfl)
    try simp only [Act.put, List.setIfInBounds_toArray, List.set_cons_zero, List.set_cons_succ]
    refine rg_take (i := 1) (v := ?vk1) (by simp only [List.getElem?_toArray, List.getElem?_cons_succ, List.getElem?_cons_zero]; rfl) (by kernel_rfl) (by exact fun _ _ _ h => h) (by rfl) ?rk1 hF ?sk1
    case rk1 => (intro W9 hW; obtain ⟨f1, f2⟩ := hW; go_simp; try with_reducible rfl)
    try simp only [Act.put, List.setIfInBounds_toArray, List.set_cons_zero, List.set_cons_succ]
    refine rg_take (i := 2) (v := ?vk2) (by simp only [List.getElem?_toArray, List.getElem?_cons_succ, List.getElem?_cons_zero]; rfl) (by kernel_rfl) (by exact fun _ _ _ h => h) (by rfl) ?rk2 hF ?sk2
    case rk2 => (intro W hW; clear hW; go_simp; try with_reducible rfl)
    try simp only [Act.put, List.setIfInBounds_toArray, List.set_cons_zero, List.set_cons_succ]
    refine rg_take (i := 3) (v := ?vk3) (by simp only [List.getElem?_toArray, List.getElem?_cons_succ, List.getElem?_cons_zero]; rfl) (by kernel_rfl) (by exact fun _ _ _ h => h) (by rfl) ?rk3 hF ?sk3
    case rk3 => (intro W hW; clear hW; go_simp; try with_reducible rfl)
    try simp only [Act.put, List.setIfInBounds_toArray, List.set_cons_zero, List.set_cons_succ]
    refine rg_take (i := 4) (v := ?vk4) (by simp only [List.getElem?_toArray, List.getElem?_cons_succ, List.getElem?_cons_zero]; rfl) (by kernel_rfl) (by exact fun _ _ _ h => h) (by rfl) ?rk4 hF ?sk4
    case rk4 => (intro W hW; clear hW; go_simp; try with_reducible rfl)
    try simp only [Act.put, List.setIfInBounds_toArray, List.set_cons_zero, List.set_cons_succ]
    refine rg_take (i := 5) (v := ?vk5) (by simp only [List.getElem?_toArray, List.getElem?_cons_succ, List.getElem?_cons_zero]; rfl) (by kernel_rfl) (by exact fun _ _ _ h => h) (by rfl) ?rk5 hF ?sk5
    case rk5 => (intro W9 hW; obtain ⟨f1, f2⟩ := hW; go_simp; try with_reducible rfl)
    try simp only [Act.put, List.setIfInBounds_toArray, List.set_cons_zero, List.set_cons_succ]
    refine rg_one (i := 6) (oi := ?ok6) ?ak6 ?bk6 ?ck6 ?dk6
    case ak6 => (simp only [List.getElem?_toArray, List.getElem?_cons_succ, List.getElem?_cons_zero]; rfl)
    case bk6 => kernel_rfl
    case ck6 => rfl
    intro K hK
    (go_simp; refine (PC.out _ (Kp.refl No w5).drew).mono ?_; rintro e w6 ⟨he6, k6⟩; rw [HCC.out] at he6; subst he6)
    refine rg_use hK (⟨(HM5.out.no k6).cell 13, (HB5.out.no k6).cell 3⟩) (fun hF => ?_)
    clear hK K
    try simp only [Act.put, List.setIfInBounds_toArray, List.set_cons_zero, List.set_cons_succ]
    refine rg_take (i := 7) (v := ?vk7) (by simp only [List.getElem?_toArray, List.getElem?_cons_succ, List.getElem?_cons_zero]; rfl) (by kernel_rfl) (by exact fun _ _ _ h => h) (by rfl) ?rk7 hF ?sk7
    case rk7 => (intro W hW; clear hW; go_simp; try with_reducible rfl)
    try simp only [Act.put, List.setIfInBounds_toArray, List.set_cons_zero, List.set_cons_succ]
    refine rg_done (by kernel_rfl) ?_
    have HK6 := Lib.hid (HK5.out.trans k6)
    have HG6 := Lib.hid (HG5.out.no k6)
    have HD6 := Lib.hid (HD5.out.no k6)
    have HM6 := Lib.hid (HM5.out.no k6)
    have HB6 := Lib.hid (HB5.out.no k6)
    have HS6 := Lib.hid ((HS.out.no HK5.out).no k6)
    clear hF k6 HK5 HG5 HD5 HM5 HB5 PC
    by_cases c1 : cc < 0
    · have HE := Lib.hid (show handleG n g d m = (g, d, 65) from by rw [HH.out, if_neg (by rw [HDD.out]; decide), if_pos (by rw [HCC.out]; exact c1)])
      have HF := Lib.hid (show RHandR W B gb rb v n P g d m (.returned (.int .i64 65)) w6 from ⟨by rw [HE.out], by rw [HE.out]; exact HG6.out, by rw [HE.out]; exact HD6.out, HK6.out.of_no⟩)
      go_wp2
      go_ret
      exact HF.out
    · by_cases c2 : cc = 0
      · have HE := Lib.hid (show handleG n g d m = (g, d, 0) from by rw [HH.out, if_neg (by rw [HDD.out]; decide), if_neg (by rw [HCC.out]; exact c1), if_pos (by rw [HCC.out]; exact c2)])
        have HF := Lib.hid (show RHandR W B gb rb v n P g d m (.returned (.int .i64 0)) w6 from ⟨by rw [HE.out], by rw [HE.out]; exact HG6.out, by rw [HE.out]; exact HD6.out, HK6.out.of_no⟩)
        have c2b : (cc == 0) = true := by rw [c2]; rfl
        go_wp2
        go_ret
        exact HF.out
      · have c2b : (cc == 0) = false := by rw [beq_eq_false_iff_ne]; exact c2
        have z3 : w6.cell? ⟨gb, 4, none⟩ = some (.int .i64 (g.seq : Int)) := HB6.out.cell 4
        by_cases c3 : 1073741824 ≤ g.seq
        · have c3b : ((g.seq : Int) == 1073741824) = true := by rw [beq_iff_eq]; omega
          have HE := Lib.hid (show handleG n g d m = (g, d, 42) from by rw [HH.out, if_neg (by rw [HDD.out]; decide), if_neg (by rw [HCC.out]; exact c1), if_neg (by rw [HCC.out]; exact c2), if_pos c3])
          have HF := Lib.hid (show RHandR W B gb rb v n P g d m (.returned (.int .i64 42)) w6 from ⟨by rw [HE.out], by rw [HE.out]; exact HG6.out, by rw [HE.out]; exact HD6.out, HK6.out.of_no⟩)
          go_wp2
          go_ret
          exact HF.out
        · have c3b : ((g.seq : Int) == 1073741824) = false := by rw [beq_eq_false_iff_ne]; omega
          have HE := Lib.hid (show handleG n g d m = if (dwriteG d ((g.seq + 1) % 2) (sectG (g.seq + 1) m.stamp)).2 = 0 then (⟨m.stamp, g.seq + 1, false⟩, (dwriteG d ((g.seq + 1) % 2) (sectG (g.seq + 1) m.stamp)).1, 0) else ({ g with dead := true }, (dwriteG d ((g.seq + 1) % 2) (sectG (g.seq + 1) m.stamp)).1, 40) from by rw [HH.out, if_neg (by rw [HDD.out]; decide), if_neg (by rw [HCC.out]; exact c1), if_neg (by rw [HCC.out]; exact c2), if_neg c3])
          have HNE := Lib.hid (show m.stamp ≠ [] from fun e => by
            have h1 := HCC.out
            rw [e] at h1
            cases hh : g.high with
            | nil => rw [hh] at h1; exact c2 (by rw [← h1]; rfl)
            | cons a l => rw [hh] at h1; exact c1 (by rw [← h1]; show (-1 : Int) < 0; decide))
          have HX63 := Lib.hid (show ∀ y ∈ m.stamp, y < 9223372036854775808 from fun y hy => by
            have hv := HV.out
            unfold validS at hv
            rw [Bool.and_eq_true, List.all_eq_true] at hv
            have := hv.2 y hy
            unfold okN at this
            rw [decide_eq_true_iff] at this
            omega)
          have hwrp : IntKind.i64.wrap ((g.seq : Int) + 1) = (g.seq : Int) + 1 := IntWalk.i64_in _ (by omega)
          have PB := Lib.hid (show ∀ W2, Kp No w6 W2 → Calls Tryz.prog 52 #[.slice A m.stamp.length c] W2 (fun e w' => ∃ Ab cb, e = .returned (.slice Ab (bytesG m.stamp).length cb) ∧ OwnB w' W2.heap.size (.slice Ab (bytesG m.stamp).length cb) (bytesG m.stamp) ∧ Kp No W2 w') from fun W2 kk => by
            refine (rbytes_any (.slice A m.stamp.length c) m.stamp W2 (HS6.out.no kk) (by omega) HX63.out).mono ?_
            rintro e w' ⟨vb, rfl, ob, kb⟩
            obtain ⟨Ab, cb, rfl, _⟩ := own_len ob
            exact ⟨Ab, cb, rfl, ob, kb⟩)
          have PP := Lib.hid (show ∀ W2, Kp No w6 W2 → ∀ Ab cb, (∃ B0, OwnB W2 B0 (.slice Ab (bytesG m.stamp).length cb) (bytesG m.stamp)) → Calls Tryz.prog 51 #[.int .i64 1, .int .i64 ((g.seq : Int) + 1), .slice Ab (bytesG m.stamp).length cb] W2 (fun e w' => ∃ pg pc sg sc, e = .returned (.tuple #[.slice (some ⟨pg, 0, none⟩) 1 pc, .int .i64 0]) ∧ w'.cell? ⟨pg, 0, none⟩ = some (.slice (some ⟨sg, 0, none⟩) 64 sc) ∧ w'.rangeAt sg 0 (u8s (sectG (g.seq + 1) m.stamp)) ∧ W2.heap.size ≤ pg ∧ W2.heap.size ≤ sg ∧ Kp No W2 w') from fun W2 kk Ab cb ⟨B0, hob⟩ => by
            refine (rpack_any 1 ((g.seq : Int) + 1) Ab (bytesG m.stamp).length cb (bytesG m.stamp) W2 (own_argB hob)).mono ?_
            rintro e w' ⟨vp, rfl, hr6, kp6⟩
            have hpk := pack_sect (q := g.seq + 1) HV.out (by omega)
            have hpk : packS 1 ((g.seq : Int) + 1) (bytesG m.stamp) = ([(sectG (g.seq + 1) m.stamp)], 0) := by simpa using hpk
            rw [hpk] at hr6 ⊢
            obtain ⟨xs, hown, hrow⟩ := hr6
            obtain ⟨x9, hx9, hox⟩ := hrow 0 (by simp)
            have h64 : (sectG (g.seq + 1) m.stamp).length = 64 := sect_len HV.out
            have hox2 : w'.ownsRow W2.heap.size 5 1 x9 (sectG (g.seq + 1) m.stamp).length (u8s (sectG (g.seq + 1) m.stamp)) := hox
            rw [h64] at hox2
            obtain ⟨sg, sc, rfl, _, hsg, _⟩ := own_form hox2 (by omega)
            obtain ⟨pg, pc, rfl, _, hpg, _⟩ := own_form hown (by simp)
            have hp0 : w'.cell? ⟨pg, 0, none⟩ = some (.slice (some ⟨sg, 0, none⟩) 64 sc) := by
              have := hown.cells (g := pg) rfl 0 _ hx9
              rwa [Addr.add_mid] at this
            refine ⟨pg, pc, sg, sc, rfl, hp0, fun j y hy => ?_, hpg, hsg, kp6⟩
            have := hox2.cells (g := sg) rfl j y hy
            rwa [Addr.add_mid] at this)
          have hF : (fun W2 => W2.cell? ⟨gb, 4, none⟩ = some (.int .i64 (g.seq : Int)) ∧ W2.cell? ⟨W.heap.size, 13, none⟩ = some (.slice A m.stamp.length c)) w6.drew := ⟨HB6.out.cell 4, HM6.out.cell 13⟩
          clear c2 c3
          go_upto_region 12 with (fail)
          clear c1 c2b c3b z3
          refine rg_begin (fun W2 => W2.cell? ⟨gb, 4, none⟩ = some (.int .i64 (g.seq : Int)) ∧ W2.cell? ⟨W.heap.size, 13, none⟩ = some (.slice A m.stamp.length c)) 14 (by kernel_rfl) ?_
          refine rg_take (i := 0) (v := ?vp0) (by simp only [List.getElem?_toArray, List.getElem?_cons_zero]; rfl) (by kernel_rfl) (by exact fun _ _ _ h => h) (by rfl) ?rp0 hF ?sp0
          case rp0 => (intro W hW; clear hW; go_simp; try with_reducible rfl)
          try simp only [Act.put, List.setIfInBounds_toArray, List.set_cons_zero, List.set_cons_succ]
          refine rg_take (i := 1) (v := ?vp1) (by simp only [List.getElem?_toArray, List.getElem?_cons_succ, List.getElem?_cons_zero]; rfl) (by kernel_rfl) (by exact fun _ _ _ h => h) (by rfl) ?rp1 hF ?sp1
          case rp1 => (intro W hW; clear hW; go_simp; try with_reducible rfl)
          try simp only [Act.put, List.setIfInBounds_toArray, List.set_cons_zero, List.set_cons_succ]
          refine rg_take (i := 2) (v := ?vp2) (by simp only [List.getElem?_toArray, List.getElem?_cons_succ, List.getElem?_cons_zero]; rfl) (by kernel_rfl) (by exact fun _ _ _ h => h) (by rfl) ?rp2 hF ?sp2
          case rp2 => (intro W hW; clear hW; go_simp; try with_reducible rfl)
          try simp only [Act.put, List.setIfInBounds_toArray, List.set_cons_zero, List.set_cons_succ]
          refine rg_take (i := 3) (v := ?vp3) (by simp only [List.getElem?_toArray, List.getElem?_cons_succ, List.getElem?_cons_zero]; rfl) (by kernel_rfl) (by exact fun _ _ _ h => h) (by rfl) ?rp3 hF ?sp3
          case rp3 => (intro W9 hW; obtain ⟨f1, f2⟩ := hW; go_simp; try with_reducible rfl)
          try simp only [Act.put, List.setIfInBounds_toArray, List.set_cons_zero, List.set_cons_succ]
          refine rg_take (i := 4) (v := ?vp4) (by simp only [List.getElem?_toArray, List.getElem?_cons_succ, List.getElem?_cons_zero]; rfl) (by kernel_rfl) (by exact fun _ _ _ h => h) (by rfl) ?rp4 hF ?sp4
          case rp4 => (intro W hW; clear hW; go_simp; try with_reducible rfl)
          try simp only [Act.put, List.setIfInBounds_toArray, List.set_cons_zero, List.set_cons_succ]
          refine rg_take (i := 5) (v := ?vp5) (by simp only [List.getElem?_toArray, List.getElem?_cons_succ, List.getElem?_cons_zero]; rfl) (by kernel_rfl) (by exact fun _ _ _ h => h) (by rfl) ?rp5 hF ?sp5
          case rp5 => (intro W hW; clear hW; go_simp; try with_reducible rfl)
          try simp only [Act.put, List.setIfInBounds_toArray, List.set_cons_zero, List.set_cons_succ]
          refine rg_take (i := 6) (v := ?vp6) (by simp only [List.getElem?_toArray, List.getElem?_cons_succ, List.getElem?_cons_zero]; rfl) (by kernel_rfl) (by exact fun _ _ _ h => h) (by rfl) ?rp6 hF ?sp6
          case rp6 => (intro W9 hW; obtain ⟨f1, f2⟩ := hW; go_simp; try with_reducible rfl)
          try simp only [Act.put, List.setIfInBounds_toArray, List.set_cons_zero, List.set_cons_succ]
          refine rg_one (i := 7) (oi := ?op7) ?ap7 ?bp7 ?cp7 ?dp7
          case ap7 => (simp only [List.getElem?_toArray, List.getElem?_cons_succ, List.getElem?_cons_zero]; rfl)
          case bp7 => kernel_rfl
          case cp7 => rfl
          intro K hK
          (go_simp; refine (PB.out _ (Kp.refl No w6).drew).mono ?_; rintro e w7 ⟨Ab, cb, rfl, ob, kb⟩; have HOB := Lib.hid ob; have HK7 := Lib.hid ((Kp.refl No w6).drew.trans kb); clear ob kb)
          refine rg_use hK (⟨(HB6.out.no HK7.out).cell 4, (HM6.out.no HK7.out).cell 13⟩) (fun hF => ?_)
          clear hK K
          try simp only [Act.put, List.setIfInBounds_toArray, List.set_cons_zero, List.set_cons_succ]
          refine rg_one (i := 8) (oi := ?op8) ?ap8 ?bp8 ?cp8 ?dp8
          case ap8 => (simp only [List.getElem?_toArray, List.getElem?_cons_succ, List.getElem?_cons_zero]; rfl)
          case bp8 => kernel_rfl
          case cp8 => rfl
          intro K hK
          (go_simp; refine (PP.out w7 HK7.out Ab cb ⟨_, HOB.out⟩).mono ?_; rintro e w8 ⟨pg, pc, sg, sc, rfl, hp8⟩; have HP8 := Lib.hid hp8; have HK8 := Lib.hid (HK7.out.trans hp8.2.2.2.2); clear hp8)
          refine rg_use hK (⟨(HB6.out.no HK8.out).cell 4, (HM6.out.no HK8.out).cell 13⟩) (fun hF => ?_)
          clear hK K
          try simp only [Act.put, List.setIfInBounds_toArray, List.set_cons_zero, List.set_cons_succ]
          refine rg_take (i := 9) (v := ?vp9) (by simp only [List.getElem?_toArray, List.getElem?_cons_succ, List.getElem?_cons_zero]; rfl) (by kernel_rfl) (by exact fun _ _ _ h => h) (by rfl) ?rp9 hF ?sp9
          case rp9 => (intro W hW; clear hW; go_simp; try with_reducible rfl)
          try simp only [Act.put, List.setIfInBounds_toArray, List.set_cons_zero, List.set_cons_succ]
          refine rg_take (i := 10) (v := ?vp10) (by simp only [List.getElem?_toArray, List.getElem?_cons_succ, List.getElem?_cons_zero]; rfl) (by kernel_rfl) (by exact fun _ _ _ h => h) (by rfl) ?rp10 hF ?sp10
          case rp10 => (intro W hW; clear hW; go_simp; try with_reducible rfl)
          try simp only [Act.put, List.setIfInBounds_toArray, List.set_cons_zero, List.set_cons_succ]
          refine rg_take (i := 11) (v := ?vp11) (by simp only [List.getElem?_toArray, List.getElem?_cons_succ, List.getElem?_cons_zero]; rfl) (by kernel_rfl) (by exact fun _ _ _ h => h) (by rfl) ?rp11 hF ?sp11
          case rp11 => (intro W hW; clear hW; go_simp; try with_reducible rfl)
          try simp only [Act.put, List.setIfInBounds_toArray, List.set_cons_zero, List.set_cons_succ]
          refine rg_take (i := 12) (v := ?vp12) (by simp only [List.getElem?_toArray, List.getElem?_cons_succ, List.getElem?_cons_zero]; rfl) (by kernel_rfl) (by exact fun _ _ _ h => h) (by rfl) ?rp12 hF ?sp12
          case rp12 => (intro W hW; clear hW; go_simp; try with_reducible rfl)
          try simp only [Act.put, List.setIfInBounds_toArray, List.set_cons_zero, List.set_cons_succ]
          refine rg_take (i := 13) (v := ?vp13) (by simp only [List.getElem?_toArray, List.getElem?_cons_succ, List.getElem?_cons_zero]; rfl) (by kernel_rfl) (by exact fun _ _ _ h => h) (by rfl) ?rp13 hF ?sp13
          case rp13 => (intro W hW; clear hW; go_simp; try with_reducible rfl)
          try simp only [Act.put, List.setIfInBounds_toArray, List.set_cons_zero, List.set_cons_succ]
          refine rg_done (by kernel_rfl) ?_
          have HB8 := Lib.hid (HB6.out.no HK8.out); have HD8 := Lib.hid (HD6.out.no HK8.out); have HG8 := Lib.hid (HG6.out.no HK8.out); have HKW := Lib.hid (HK6.out.trans HK8.out)
          obtain ⟨hp0, hps, hpg, hsg, _⟩ := HP8.out
          have HPS := Lib.hid hps
          have h67 := HK7.out.size
          obtain ⟨gv, gcap, hgv, hob, _⟩ := rows_at HD8.out.1.ro (by have := HI.out.two; show 0 < d.L.length; omega)
          have hrb6 : rb < w6.heap.size := HD6.out.1.st.lt
          obtain ⟨vxs, hvo, _⟩ := HD6.out.1.ro
          obtain ⟨_, gcs, hgcs⟩ := own_bkD hvo hob
          have hgv6 : gv < w6.heap.size := hgcs.lt
          have HGV := Lib.hid (hgcs.no HK8.out)
          have HOBV := Lib.hid hob
          have HF9 := Lib.hid (show ∀ w9, Kp (fun q => q = rb ∨ v.ownBlock = some q) w8 w9 → (fun W2 => W2.cell? ⟨gb, 1, none⟩ = some (.pointer (some ⟨rb, 0, none⟩)) ∧ W2.cell? ⟨gb, 4, none⟩ = some (.int .i64 (g.seq : Int)) ∧ W2.cell? ⟨pg, 0, none⟩ = some (.slice (some ⟨sg, 0, none⟩) 64 sc)) w9 from fun w9 kk => by
            have hb9 := HB8.out.kp kk (fun e => by
              rcases e with e | e
              · exact HB8.out.ne_ HD8.out.1.st (by decide) e
              · rw [HOBV.out] at e
                injection e with e
                exact HB8.out.ne_ HGV.out (by decide) e.symm)
            refine ⟨hb9.cell 1, hb9.cell 4, ?_⟩
            rw [World.cell?_of_block (w := w8) (kk.block pg (World.block_lt_of_cell? w8 _ hp0) (fun e => by
              rcases e with e | e
              · omega
              · rw [HOBV.out] at e
                injection e with e
                omega))]
            exact hp0)
          have PW := Lib.hid (show ∀ W2, Kp No w8 W2 → Calls Tryz.prog 53 #[.pointer (some ⟨rb, 0, none⟩), .int .i64 (((g.seq : Int) + 1) % 2), .slice (some ⟨sg, 0, none⟩) 64 sc] W2 (fun e w' => e = .returned (.int .i64 (dwriteG d ((g.seq + 1) % 2) (sectG (g.seq + 1) m.stamp)).2) ∧ RdG w' B rb v (dwriteG d ((g.seq + 1) % 2) (sectG (g.seq + 1) m.stamp)).1 ∧ Kp (fun q => q = rb ∨ v.ownBlock = some q) W2 w') from fun W2 kk => by
            have e1 : ((g.seq : Int) + 1) % 2 = (((g.seq + 1) % 2 : Nat) : Int) := by omega
            rw [e1]
            exact rdwrite_any B rb ((g.seq + 1) % 2) sg 0 sc (sectG (g.seq + 1) m.stamp) v W2 d (HD8.out.no kk) (by have := HI.out.two; omega) (sect_len HV.out) (range_kp HPS.out kk (fun m => m)) (by omega) HW.out (Nat.le_trans HBW.out (HKW.out.trans kk).size))
          have hF : (fun W2 => W2.cell? ⟨gb, 1, none⟩ = some (.pointer (some ⟨rb, 0, none⟩)) ∧ W2.cell? ⟨gb, 4, none⟩ = some (.int .i64 (g.seq : Int)) ∧ W2.cell? ⟨pg, 0, none⟩ = some (.slice (some ⟨sg, 0, none⟩) 64 sc)) w8.drew := ⟨HB8.out.cell 1, HB8.out.cell 4, hp0⟩
          have hgbne : ∀ q, q = gb → ¬ (q = rb ∨ v.ownBlock = some q) := fun q e h => by
            subst e
            rcases h with h | h
            · exact HB8.out.ne_ HD8.out.1.st (by decide) h
            · rw [HOBV.out] at h
              injection h with h
              exact HB8.out.ne_ HGV.out (by decide) h.symm
          have HGNE := Lib.hid (hgbne gb rfl)
          have HINE := Lib.hid (show ∀ q cs, Bk w8 q 3 cs → ¬ (q = rb ∨ v.ownBlock = some q) from fun q cs hq h => by
            rcases h with h | h
            · exact hq.ne_ HD8.out.1.st (by decide) h
            · rw [HOBV.out] at h
              injection h with h
              exact hq.ne_ HGV.out (by decide) h.symm)
          clear hp0 hps hpg hsg hgv hob hrb6 hvo hgcs hgv6 hgbne h67 PB PP
          go_upto_region 13 with (fail)
          refine rg_begin (fun W2 => W2.cell? ⟨gb, 1, none⟩ = some (.pointer (some ⟨rb, 0, none⟩)) ∧ W2.cell? ⟨gb, 4, none⟩ = some (.int .i64 (g.seq : Int)) ∧ W2.cell? ⟨pg, 0, none⟩ = some (.slice (some ⟨sg, 0, none⟩) 64 sc)) 15 (by kernel_rfl) ?_
          refine rg_take (i := 0) (v := ?vw0) (by simp only [List.getElem?_toArray, List.getElem?_cons_zero]; rfl) (by kernel_rfl) (by exact fun _ _ _ h => h) (by rfl) ?rw0 hF ?sw0
          case rw0 => (intro W hW; clear hW; go_simp; try with_reducible rfl)
          try simp only [Act.put, List.setIfInBounds_toArray, List.set_cons_zero, List.set_cons_succ]
          refine rg_take (i := 1) (v := ?vw1) (by simp only [List.getElem?_toArray, List.getElem?_cons_succ, List.getElem?_cons_zero]; rfl) (by kernel_rfl) (by exact fun _ _ _ h => h) (by rfl) ?rw1 hF ?sw1
          case rw1 => (intro W hW; clear hW; go_simp; try with_reducible rfl)
          try simp only [Act.put, List.setIfInBounds_toArray, List.set_cons_zero, List.set_cons_succ]
          refine rg_take (i := 2) (v := ?vw2) (by simp only [List.getElem?_toArray, List.getElem?_cons_succ, List.getElem?_cons_zero]; rfl) (by kernel_rfl) (by exact fun _ _ _ h => h) (by rfl) ?rw2 hF ?sw2
          case rw2 => (intro W hW; clear hW; go_simp; try with_reducible rfl)
          try simp only [Act.put, List.setIfInBounds_toArray, List.set_cons_zero, List.set_cons_succ]
          refine rg_take (i := 3) (v := ?vw3) (by simp only [List.getElem?_toArray, List.getElem?_cons_succ, List.getElem?_cons_zero]; rfl) (by kernel_rfl) (by exact fun _ _ _ h => h) (by rfl) ?rw3 hF ?sw3
          case rw3 => (intro W9 hW; obtain ⟨f1, f2, f3⟩ := hW; go_simp; try with_reducible rfl)
          try simp only [Act.put, List.setIfInBounds_toArray, List.set_cons_zero, List.set_cons_succ]
          refine rg_take (i := 4) (v := ?vw4) (by simp only [List.getElem?_toArray, List.getElem?_cons_succ, List.getElem?_cons_zero]; rfl) (by kernel_rfl) (by exact fun _ _ _ h => h) (by rfl) ?rw4 hF ?sw4
          case rw4 => (intro W hW; clear hW; go_simp; try with_reducible rfl)
          try simp only [Act.put, List.setIfInBounds_toArray, List.set_cons_zero, List.set_cons_succ]
          refine rg_take (i := 5) (v := ?vw5) (by simp only [List.getElem?_toArray, List.getElem?_cons_succ, List.getElem?_cons_zero]; rfl) (by kernel_rfl) (by exact fun _ _ _ h => h) (by rfl) ?rw5 hF ?sw5
          case rw5 => (intro W hW; clear hW; go_simp; try with_reducible rfl)
          try simp only [Act.put, List.setIfInBounds_toArray, List.set_cons_zero, List.set_cons_succ]
          refine rg_take (i := 6) (v := ?vw6) (by simp only [List.getElem?_toArray, List.getElem?_cons_succ, List.getElem?_cons_zero]; rfl) (by kernel_rfl) (by exact fun _ _ _ h => h) (by rfl) ?rw6 hF ?sw6
          case rw6 => (intro W hW; clear hW; go_simp; try with_reducible rfl)
          try simp only [Act.put, List.setIfInBounds_toArray, List.set_cons_zero, List.set_cons_succ]
          refine rg_take (i := 7) (v := ?vw7) (by simp only [List.getElem?_toArray, List.getElem?_cons_succ, List.getElem?_cons_zero]; rfl) (by kernel_rfl) (by exact fun _ _ _ h => h) (by rfl) ?rw7 hF ?sw7
          case rw7 => (intro W9 hW; obtain ⟨f1, f2, f3⟩ := hW; go_simp; try with_reducible rfl)
          try simp only [Act.put, List.setIfInBounds_toArray, List.set_cons_zero, List.set_cons_succ]
          refine rg_take (i := 8) (v := ?vw8) (by simp only [List.getElem?_toArray, List.getElem?_cons_succ, List.getElem?_cons_zero]; rfl) (by kernel_rfl) (by exact fun _ _ _ h => h) (by rfl) ?rw8 hF ?sw8
          case rw8 => (intro W hW; clear hW; go_simp; try with_reducible rfl)
          try simp only [Act.put, List.setIfInBounds_toArray, List.set_cons_zero, List.set_cons_succ]
          refine rg_take (i := 9) (v := ?vw9) (by simp only [List.getElem?_toArray, List.getElem?_cons_succ, List.getElem?_cons_zero]; rfl) (by kernel_rfl) (by exact fun _ _ _ h => h) (by rfl) ?rw9 hF ?sw9
          case rw9 => (intro W hW; clear hW; go_simp; try with_reducible rfl)
          try simp only [Act.put, List.setIfInBounds_toArray, List.set_cons_zero, List.set_cons_succ]
          refine rg_take (i := 10) (v := ?vw10) (by simp only [List.getElem?_toArray, List.getElem?_cons_succ, List.getElem?_cons_zero]; rfl) (by kernel_rfl) (by exact fun _ _ _ h => h) (by rfl) ?rw10 hF ?sw10
          case rw10 => (intro W hW; clear hW; go_simp; try with_reducible rfl)
          try simp only [Act.put, List.setIfInBounds_toArray, List.set_cons_zero, List.set_cons_succ]
          refine rg_take (i := 11) (v := ?vw11) (by simp only [List.getElem?_toArray, List.getElem?_cons_succ, List.getElem?_cons_zero]; rfl) (by kernel_rfl) (by exact fun _ _ _ h => h) (by rfl) ?rw11 hF ?sw11
          case rw11 => (intro W hW; clear hW; go_simp; try with_reducible rfl)
          try simp only [Act.put, List.setIfInBounds_toArray, List.set_cons_zero, List.set_cons_succ]
          refine rg_take (i := 12) (v := ?vw12) (by simp only [List.getElem?_toArray, List.getElem?_cons_succ, List.getElem?_cons_zero]; rfl) (by kernel_rfl) (by exact fun _ _ _ h => h) (by rfl) ?rw12 hF ?sw12
          case rw12 => (intro W9 hW; obtain ⟨f1, f2, f3⟩ := hW; go_simp; try with_reducible rfl)
          try simp only [Act.put, List.setIfInBounds_toArray, List.set_cons_zero, List.set_cons_succ]
          refine rg_one (i := 13) (oi := ?ow13) ?aw13 ?bw13 ?cw13 ?dw13
          case aw13 => (simp only [List.getElem?_toArray, List.getElem?_cons_succ, List.getElem?_cons_zero]; rfl)
          case bw13 => kernel_rfl
          case cw13 => rfl
          intro K hK
          (go_simp; refine (PW.out _ (Kp.refl No w8).drew).mono ?_; rintro e w9 ⟨rfl, hd9, k9⟩; have HD9 := Lib.hid hd9; have HK9 := Lib.hid ((Kp.refl No w8).drew.of_no.trans k9); clear hd9 k9)
          refine rg_use hK (HF9.out w9 HK9.out) (fun hF => ?_)
          clear hK K
          try simp only [Act.put, List.setIfInBounds_toArray, List.set_cons_zero, List.set_cons_succ]
          refine rg_take (i := 14) (v := ?vw14) (by simp only [List.getElem?_toArray, List.getElem?_cons_succ, List.getElem?_cons_zero]; rfl) (by kernel_rfl) (by exact fun _ _ _ h => h) (by rfl) ?rw14 hF ?sw14
          case rw14 => (intro W hW; clear hW; go_simp; try with_reducible rfl)
          try simp only [Act.put, List.setIfInBounds_toArray, List.set_cons_zero, List.set_cons_succ]
          refine rg_done (by kernel_rfl) ?_
          have HG9 := Lib.hid (HG8.out.kp HK9.out HGNE.out fun q cs hq _ => HINE.out q cs hq)
          have HB9 := Lib.hid (HB8.out.kp HK9.out HGNE.out)
          have HK9W := Lib.hid (show Kp (RMd gb rb v) W w9 from HKW.out.of_no.trans (HK9.out.mono fun q _ e => .inr e))
          have HNO := Lib.hid (show (dwriteG d ((g.seq + 1) % 2) (sectG (g.seq + 1) m.stamp)).2 ≠ 0 → (dwriteG d ((g.seq + 1) % 2) (sectG (g.seq + 1) m.stamp)).2 = 40 from fun h => (dwrite_no h).1)
          have HGI := Lib.hid (HI.out.handle (n := n) (m := m) fun h1 h2 => may_op h1 h2)
          clear hF PW HF9
          generalize hrc : (dwriteG d ((g.seq + 1) % 2) (sectG (g.seq + 1) m.stamp)).2 = rc at *
          have HRC := Lib.hid hrc
          clear hrc
          by_cases hz : rc = 0
          · subst hz
            rw [if_pos rfl] at HE
            rw [HE.out] at HGI
            have h64 := HGI.out.len
            have hat := HGI.out.at_
            simp only at h64 hat
            have pr := gread_any gb rb B n g.dead (.slice AH g.high.length cH) g.seq (dwriteG d ((g.seq + 1) % 2) (sectG (g.seq + 1) m.stamp)).1.L v (dwriteG d ((g.seq + 1) % 2) (sectG (g.seq + 1) m.stamp)).1.wr (arS (dwriteG d ((g.seq + 1) % 2) (sectG (g.seq + 1) m.stamp)).1) (dwriteG d ((g.seq + 1) % 2) (sectG (g.seq + 1) m.stamp)).1.off w9 HB9.out HD9.out.1 HGI.out.two h64
            unfold GReadR at pr
            rw [hat] at pr
            clear h64 hat
            go_wp2_with fail
            refine pr.mono ?_
            rintro e w10 ⟨rfl, k10, hv10, hb10, ho10⟩
            have HF := Lib.hid (show RHandR W B gb rb v n P g d m (.returned (.int .i64 0)) w10 from by
              refine ⟨by rw [HE.out], ?_, ?_, HK9W.out.trans (k10.mono fun q _ e => .inl e)⟩
              · rw [HE.out]
                refine ⟨hv10, by rw [HDD.out] at hb10; exact hb10, own_slI ho10, fun q e => .inr ?_⟩
                obtain ⟨hq, _⟩ := own_bkD ho10 e
                exact Nat.le_trans HK9W.out.size hq
              · rw [HE.out]
                exact HD9.out.kp k10 fun q cs _ hq e => by
                  have e : q = gb := e
                  rcases hq with hq | hq | hq <;> exact hq.ne_ HB9.out (by decide) e)
            clear pr k10 hb10 ho10
            go_wp2
            go_ret
            exact HF.out
          · have hz40 := HNO.out hz
            subst hz40
            rw [if_neg (by decide)] at HE
            have z2 : w9.cell? ⟨gb, 2, none⟩ = some (.bool g.dead) := HB9.out.cell 2
            have f2 := HB9.out.frozen 2
            have k10 : Kp (One gb) w9 (w9.setCell ⟨gb, 2, none⟩ (.bool true)) := (Kp.refl _ _).set (.inl (One.self _)) _ _
            have HF := Lib.hid (show RHandR W B gb rb v n P g d m (.returned (.int .i64 40)) (w9.setCell ⟨gb, 2, none⟩ (.bool true)) from by
              refine ⟨by rw [HE.out], ?_, ?_, HK9W.out.trans (k10.mono fun q _ e => .inl e)⟩
              · rw [HE.out]
                obtain ⟨hv9, hb9, hs9, hp9⟩ := HG9.out
                refine ⟨hv9, hb9.set_ 2 (.bool true), ?_, hp9⟩
                obtain ⟨A', c', e', hc', hs'⟩ := hs9
                refine ⟨A', c', e', hc', fun hx => ?_⟩
                obtain ⟨q, o, cs, e2, hq, hr⟩ := hs' hx
                have hm : ¬ One gb q := fun e => by have e : q = gb := e; exact hq.ne_ HB9.out (by decide) e
                exact ⟨q, o, cs, e2, hq.kp k10 hm, range_kp hr k10 hm⟩
              · rw [HE.out]
                exact HD9.out.kp k10 fun q cs _ hq e => by
                  have e : q = gb := e
                  rcases hq with hq | hq | hq <;> exact hq.ne_ HB9.out (by decide) e)
            clear hz k10
            go_wp2
            go_ret
            exact HF.out
end Go.Proofs.YtlgbmkdeamgpkaaGreatDoor
