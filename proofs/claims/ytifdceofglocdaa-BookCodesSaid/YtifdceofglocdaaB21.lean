/- The law's grant and awake by contract. No condition beyond what each theorem states. -/
import Derived.Test.YtifdceofglocdaaB19
import Derived.Test.YtifdceofglocdaaB20
import Derived.StillTailTactics
import Derived.Deep.Cut
import Derived.Deep.CutRange
import Derived.Deep.DeepCutAuto
namespace Go.Proofs.Ytifdceofglocdaa
open Go Go.RowKit Go.PlainAid

def agR : Grt := { id := 1, holder := 2, path := [97], mode := 2, stamp := [1], term := 300 }
def agD : Grt := { id := 1, holder := 2, path := [97], mode := 2, stamp := [2], term := 300 }
theorem aw1 : applyB (bk 1 0 0 []) { kind := 7 } = (⟨1, 1, 0, []⟩, 0) := by kernel_rfl
theorem aw2 {l : List GP} (h : gsL l = []) : applyB (bk 1 1 0 l) { kind := 4, grant := agR } = (⟨2, 1, 0, [agR]⟩, 0) := by
  unfold bk; rw [h]; kernel_rfl
theorem aw3 {l : List GP} (h : gsL l = [agR]) : applyB (bk 2 1 0 l) { kind := 5, id := 1, stamp := [2] } = (⟨3, 1, 0, [agD]⟩, 0) := by
  unfold bk; rw [h]; kernel_rfl
theorem aw4 {l : List GP} (h : gsL l = [agR]) : applyB (bk 2 1 0 l) { kind := 4, grant := agR } = ({}, 43) := by
  unfold bk; rw [h]; kernel_rfl
theorem aw5 : encR { kind := 4, grant := agR } = some [4, 1, 2, 1, 97, 2, 172, 2, 1, 1] := by kernel_rfl
theorem aw6 : decR [6, 5] = some { kind := 6, id := 5 } := by kernel_rfl
theorem aw7 {l : List GP} (h : gsL l = [agD]) : validB (bk 3 1 0 l) := by
  unfold bk; rw [h]; decide
theorem aw8 : ¬ validB (bk 0 0 0 []) := by decide
theorem aw9 {l m : List GP} (_ : gsL l = [agR]) (_ : gsL m = [agD]) : ¬ bk 2 1 0 l = bk 3 1 0 m := by
  unfold bk
  intro e; injection e with e; cases e
theorem aw10 {l : List GP} (h : gsL l = [agD]) : (dumpB (bk 3 1 0 l)).length = 2 := by
  unfold bk; rw [h]; kernel_rfl
theorem gsL_one {l : List GP} {g : Grt} (h : gsL l = [g]) : ∃ v, l = [(g, v)] := by
  cases l with
  | nil => cases h
  | cons p l =>
    unfold gsL at h
    rw [List.map_cons] at h
    injection h with h1 h2
    obtain rfl : l = [] := by cases l with
      | nil => rfl
      | cons _ _ => cases h2
    exact ⟨p.2, by rw [← h1]⟩
theorem shL_own {l : List GP} (h : gsL l = [] ∨ gsL l = [agR] ∨ gsL l = [agD]) : ShL maxLen l := by
  have hs : ∀ g, g = agR ∨ g = agD → ShG maxLen g := by
    rintro g (rfl | rfl) <;> (unfold ShG maxLen; constructor <;> decide)
  rcases h with h | h | h
  · obtain rfl : l = [] := by cases l with
      | nil => rfl
      | cons _ _ => cases h
    exact ⟨Nat.zero_le _, fun p hp => by cases hp⟩
  · obtain ⟨v, rfl⟩ := gsL_one h
    exact ⟨by show 1 ≤ maxLen; unfold maxLen; decide, fun p hp => by rw [List.mem_singleton] at hp; subst hp; exact hs _ (.inl rfl)⟩
  · obtain ⟨v, rfl⟩ := gsL_one h
    exact ⟨by show 1 ≤ maxLen; unfold maxLen; decide, fun p hp => by rw [List.mem_singleton] at hp; subst hp; exact hs _ (.inr rfl)⟩
set_option maxHeartbeats 2000000 in
theorem grant_any (W : World) : Calls Try.prog 31 #[] W fun e w' => ∃ g, e = .returned (.agg #[.int .i64 1, .int .i64 2, .string ⟨#[97]⟩, .int .i64 2, .slice (some ⟨g, 0, none⟩) 1 1, .int .i64 300]) ∧ SlI w' (.slice (some ⟨g, 0, none⟩) 1 1) [1] ∧ Kp No W w' := by
  obtain ⟨w1, hw1⟩ : ∃ w1, w1 = (W.alloc (.cells #[.int .i64 1, .int .i64 2, .string ⟨#[97]⟩, .int .i64 2, .slice (some ⟨W.heap.size + 1, 0, none⟩) 1 1, .int .i64 300] 30)).alloc (.cells #[.int .i64 1] 3) := ⟨_, rfl⟩
  have HB := Lib.hid (show Bk w1 W.heap.size 30 [.int .i64 1, .int .i64 2, .string ⟨#[97]⟩, .int .i64 2, .slice (some ⟨W.heap.size + 1, 0, none⟩) 1 1, .int .i64 300] by rw [hw1]; exact (Bk.new' rfl rfl).alloc _)
  have HK := Lib.hid (show Kp No W w1 by rw [hw1]; exact ((Kp.refl No W).alloc _).alloc _)
  have HS := Lib.hid (show SlI w1 (.slice (some ⟨W.heap.size + 1, 0, none⟩) 1 1) [1] by rw [hw1]; exact sli_new (Bk.new' (by simp) rfl) rfl (Nat.le_refl _))
  have HW := Lib.hid hw1
  clear hw1
  go_enter Try.func31, Try.ntmps31
  go_wp2
  rw [← HW.out]
  have x0 := HB.out.cell 0; have x1 := HB.out.cell 1; have x2 := HB.out.cell 2; have x3 := HB.out.cell 3; have x4 := HB.out.cell 4; have x5 := HB.out.cell 5
  simp only [List.getElem?_cons_zero, List.getElem?_cons_succ] at x0 x1 x2 x3 x4 x5
  refine bodyPost_ret (v := .agg #[.int .i64 1, .int .i64 2, .string ⟨#[97]⟩, .int .i64 2, .slice (some ⟨W.heap.size + 1, 0, none⟩) 1 1, .int .i64 300]) (by simp [results, Try.results31, go_sem, x0, x1, x2, x3, x4, x5]) rfl ?_
  exact ⟨_, rfl, HS.out, HK.out⟩

/-- Apply at a book whose grants are known -/
theorem ap_1 (W : World) : Calls Try.prog 12 #[.agg #[.int .i64 1, .int .i64 0, .int .i64 0, .slice none 0 0], .agg #[.int .i64 7, .int .i64 0, .int .i64 0, .string ⟨#[]⟩, .int .i64 0, .slice none 0 0, .int .i64 0, .int .i64 0, .slice none 0 0, .int .i64 0, .int .i64 0, .int .i64 0]] W fun e w' => ∃ sv l, e = .returned (.tuple #[.agg #[.int .i64 1, .int .i64 1, .int .i64 0, sv], .int .i64 0]) ∧ gsL l = [] ∧ OwnG w' W.heap.size sv l ∧ Kp No W w' := by
  have h := apply_any 1 0 0 (.slice none 0 0) [] { kind := 7 } (.slice none 0 0) (.slice none 0 0) W (ArgG.nil _ _ _) ⟨Nat.zero_le _, fun p hp => by cases hp⟩ (ArgInts.nil _ _ _) (ArgInts.nil _ _ _) ⟨Nat.zero_le _, Nat.zero_le _⟩ (Nat.zero_le _)
  unfold ApplyR at h; rw [aw1] at h; exact h
theorem ap_2 (W : World) (v gv : Value) (l : List GP) (hv : ArgG W v l) (hl : gsL l = []) (hg : ArgInts W gv [1]) : Calls Try.prog 12 #[.agg #[.int .i64 1, .int .i64 1, .int .i64 0, v], .agg #[.int .i64 4, .int .i64 1, .int .i64 2, .string ⟨#[97]⟩, .int .i64 2, gv, .int .i64 300, .int .i64 0, .slice none 0 0, .int .i64 0, .int .i64 0, .int .i64 0]] W fun e w' => ∃ sv l, e = .returned (.tuple #[.agg #[.int .i64 2, .int .i64 1, .int .i64 0, sv], .int .i64 0]) ∧ gsL l = [agR] ∧ OwnG w' W.heap.size sv l ∧ Kp No W w' := by
  have h := apply_any 1 1 0 v l { kind := 4, grant := agR } gv (.slice none 0 0) W hv (shL_own (.inl hl)) hg (ArgInts.nil _ _ _) (by unfold ShG maxLen; constructor <;> decide) (Nat.zero_le _)
  unfold ApplyR at h; rw [aw2 hl] at h; exact h
theorem ap_3 (W : World) (v rv : Value) (l : List GP) (hv : ArgG W v l) (hl : gsL l = [agR]) (hg : ArgInts W rv [2]) : Calls Try.prog 12 #[.agg #[.int .i64 2, .int .i64 1, .int .i64 0, v], .agg #[.int .i64 5, .int .i64 0, .int .i64 0, .string ⟨#[]⟩, .int .i64 0, .slice none 0 0, .int .i64 0, .int .i64 1, rv, .int .i64 0, .int .i64 0, .int .i64 0]] W fun e w' => ∃ sv l, e = .returned (.tuple #[.agg #[.int .i64 3, .int .i64 1, .int .i64 0, sv], .int .i64 0]) ∧ gsL l = [agD] ∧ OwnG w' W.heap.size sv l ∧ Kp No W w' := by
  have h := apply_any 2 1 0 v l { kind := 5, id := 1, stamp := [2] } (.slice none 0 0) rv W hv (shL_own (.inr (.inl hl))) (ArgInts.nil _ _ _) hg ⟨Nat.zero_le _, Nat.zero_le _⟩ (by unfold maxLen; decide)
  unfold ApplyR at h; rw [aw3 hl] at h; exact h
theorem ap_4 (W : World) (v gv : Value) (l : List GP) (hv : ArgG W v l) (hl : gsL l = [agR]) (hg : ArgInts W gv [1]) : Calls Try.prog 12 #[.agg #[.int .i64 2, .int .i64 1, .int .i64 0, v], .agg #[.int .i64 4, .int .i64 1, .int .i64 2, .string ⟨#[97]⟩, .int .i64 2, gv, .int .i64 300, .int .i64 0, .slice none 0 0, .int .i64 0, .int .i64 0, .int .i64 0]] W fun e w' => ∃ sv l, e = .returned (.tuple #[.agg #[.int .i64 0, .int .i64 0, .int .i64 0, sv], .int .i64 43]) ∧ gsL l = [] ∧ OwnG w' W.heap.size sv l ∧ Kp No W w' := by
  have h := apply_any 2 1 0 v l { kind := 4, grant := agR } gv (.slice none 0 0) W hv (shL_own (.inr (.inl hl))) hg (ArgInts.nil _ _ _) (by unfold ShG maxLen; constructor <;> decide) (Nat.zero_le _)
  unfold ApplyR at h; rw [aw4 hl] at h; exact h
theorem en_5 (W : World) (gv : Value) (hg : SlI W gv [1]) : Calls Try.prog 23 #[.agg #[.int .i64 4, .int .i64 1, .int .i64 2, .string ⟨#[97]⟩, .int .i64 2, gv, .int .i64 300, .int .i64 0, .slice none 0 0, .int .i64 0, .int .i64 0, .int .i64 0]] W fun e w' => ∃ v, e = .returned (.tuple #[v, .int .i64 0]) ∧ OwnB w' W.heap.size v [4, 1, 2, 1, 97, 2, 172, 2, 1, 1] ∧ Kp No W w' := by
  refine (bencode_any { kind := 4, grant := agR } gv (.slice none 0 0) W hg (SlI.nil _ _ _) (by unfold ShG maxLen; constructor <;> decide) (Nat.zero_le _)).mono ?_
  rintro e w' ⟨h, k⟩
  rw [aw5] at h
  rcases h with ⟨h, _⟩ | ⟨v, b, h1, h2, h3⟩
  · cases h
  · injection h1 with h1; subst h1
    exact ⟨v, h2, h3, k⟩
theorem de_6 (W : World) (A : Option Addr) (c : Nat) (hv : ArgB W (.slice A 2 c) [6, 5]) : Calls Try.prog 25 #[.slice A 2 c] W fun e w' => ∃ gv rv, e = .returned (.tuple #[.agg #[.int .i64 6, .int .i64 0, .int .i64 0, .string ⟨#[]⟩, .int .i64 0, gv, .int .i64 0, .int .i64 5, rv, .int .i64 0, .int .i64 0, .int .i64 0], .int .i64 0]) ∧ (∃ A n c, gv = .slice A n c) ∧ (∃ A n c, rv = .slice A n c) ∧ Kp No W w' := by
  refine (bdecode_any A c [6, 5] W hv (by decide)).mono ?_
  rintro e w' ⟨gv, rv, h1, h2, h3, k⟩
  have e1 : decRec [6, 5] = { kind := 6, id := 5 } := by unfold decRec; rw [aw6]; rfl
  have e2 : decErr [6, 5] = 0 := by unfold decErr; rw [aw6]; rfl
  rw [e1, e2] at h1
  obtain ⟨A1, c1, e3, _⟩ := own_len h2
  obtain ⟨A2, c2, e4, _⟩ := own_len h3
  exact ⟨gv, rv, h1, ⟨_, _, _, e3⟩, ⟨_, _, _, e4⟩, k⟩

set_option maxRecDepth 100000 in
set_option maxHeartbeats 8000000 in
theorem awake_any (W : World) : Calls Try.prog 11 #[] W fun e w' => e = .returned (.bool true) ∧ Kp No W w' := by
  go_enter Try.func11, Try.ntmps11
  go_wp2_with fail
  refine (new_any W).mono ?_
  rintro e w1 ⟨rfl, k1⟩
  go_wp2_with fail
  refine (ap_1 w1).mono ?_
  rintro e w2 ⟨sv2, l2, rfl, hl2, ho2, k2⟩
  obtain ⟨A2, c2, rfl, _⟩ := own_len ho2.1
  obtain ⟨w3, hw3⟩ : ∃ w3, w3 = w2.alloc (.cells #[.int .i64 1, .int .i64 1, .int .i64 0, .slice A2 l2.length c2] 25) := ⟨_, rfl⟩
  have k3 : Kp No w2 w3 := by rw [hw3]; exact (Kp.refl No w2).alloc _
  have HB3 := Lib.hid (show Bk w3 w2.heap.size 25 [.int .i64 1, .int .i64 1, .int .i64 0, .slice A2 l2.length c2] by rw [hw3]; exact Bk.new' rfl rfl)
  have HO3 := Lib.hid (ho2.no k3); have HL2 := Lib.hid hl2
  have HK3 := Lib.hid ((k1.trans k2).trans k3)
  have HW3 := Lib.hid hw3
  clear k1 k2 k3 ho2 hl2 hw3
  go_upto_region 2 with (fail)
  rw [← HW3.out]
  clear HW3
  have sk : ∀ W2, Kp No w3 W2 → W2.cell? ⟨w2.heap.size, 0, none⟩ = some (.int .i64 1) ∧ W2.cell? ⟨w2.heap.size, 1, none⟩ = some (.int .i64 1) ∧ W2.cell? ⟨w2.heap.size, 2, none⟩ = some (.int .i64 0) ∧ W2.cell? ⟨w2.heap.size, 3, none⟩ = some (.slice A2 l2.length c2) := fun W2 kk => ⟨(HB3.out.no kk).cell 0, (HB3.out.no kk).cell 1, (HB3.out.no kk).cell 2, (HB3.out.no kk).cell 3⟩
  go_cut [3, 4] (fun s t wx => ∃ g A l c, s = .pointer (some ⟨g, 0, none⟩) ∧ t = .int .i64 0 ∧ Bk wx g 25 [.int .i64 2, .int .i64 1, .int .i64 0, .slice A l.length c] ∧ gsL l = [agR] ∧ OwnG wx w3.heap.size (.slice A l.length c) l ∧ Kp No w3 wx)
  case first =>
    have hF := sk _ (Kp.refl No w3).drew
    refine rg_begin (fun W2 => W2.cell? ⟨w2.heap.size, 0, none⟩ = some (.int .i64 1) ∧ W2.cell? ⟨w2.heap.size, 1, none⟩ = some (.int .i64 1) ∧ W2.cell? ⟨w2.heap.size, 2, none⟩ = some (.int .i64 0) ∧ W2.cell? ⟨w2.heap.size, 3, none⟩ = some (.slice A2 l2.length c2)) 10 (by kernel_rfl) ?_
    refine rg_take (i := 0) (v := ?vp0) (by simp only [List.getElem?_toArray, List.getElem?_cons_zero]; rfl) (by kernel_rfl) (by exact fun _ _ _ h => h) (by rfl) ?rp0 hF ?sp0
    case rp0 => (intro W9 hW9; obtain ⟨f1, f2, f3, f4⟩ := hW9; go_simp; try with_reducible rfl)
    try simp only [Act.put, List.setIfInBounds_toArray, List.set_cons_zero, List.set_cons_succ]
    refine rg_two (i := 1) (j := 7) (oi := ?op1) (oj := ?op7) ?ap1 ?ap7 ?bp1 ?cp1 ?cp7 ?dp1 ?dp7
    case ap1 => (simp only [List.getElem?_toArray, List.getElem?_cons_succ, List.getElem?_cons_zero]; rfl)
    case ap7 => (simp only [List.getElem?_toArray, List.getElem?_cons_succ, List.getElem?_cons_zero]; rfl)
    case bp1 => kernel_rfl
    case cp1 => rfl
    case cp7 => rfl
    case dp1 =>
      intro K hK
      (go_simp; refine (grant_any _).mono ?_; rintro e wg0 ⟨gg0, rfl, hs0, kg0⟩)
      refine rg_use hK (sk _ ((Kp.refl No w3).drew.trans kg0)) (fun hF => ?_)
      clear hK K
      try simp only [Act.put, List.setIfInBounds_toArray, List.set_cons_zero, List.set_cons_succ]
      refine rg_take (i := 2) (v := ?vpx1x2) (by simp only [List.getElem?_toArray, List.getElem?_cons_succ, List.getElem?_cons_zero]; rfl) (by kernel_rfl) (by exact fun _ _ _ h => h) (by rfl) ?rpx1x2 hF ?spx1x2
      case rpx1x2 => (intro W hW; clear hW; go_simp; try with_reducible rfl)
      try simp only [Act.put, List.setIfInBounds_toArray, List.set_cons_zero, List.set_cons_succ]
      refine rg_two (i := 3) (j := 7) (oi := ?opx1x3) (oj := ?opx1x7) ?apx1x3 ?apx1x7 ?bpx1x3 ?cpx1x3 ?cpx1x7 ?dpx1x3 ?dpx1x7
      case apx1x3 => (simp only [List.getElem?_toArray, List.getElem?_cons_succ, List.getElem?_cons_zero]; rfl)
      case apx1x7 => (simp only [List.getElem?_toArray, List.getElem?_cons_succ, List.getElem?_cons_zero]; rfl)
      case bpx1x3 => kernel_rfl
      case cpx1x3 => rfl
      case cpx1x7 => rfl
      case dpx1x3 =>
        intro K hK
        (go_simp; refine (ap_2 _ (.slice A2 l2.length c2) (.slice (some ⟨gg0, 0, none⟩) 1 1) l2 ((HO3.out.no ((Kp.refl No w3).drew.trans kg0)).arg) HL2.out hs0.arg).mono ?_; rintro e wg1 ⟨sv1, la1, rfl, hl1, ho1, kg1⟩; obtain ⟨Aa1, ca1, rfl, _⟩ := own_len ho1.1)
        refine rg_use hK (sk _ (((Kp.refl No w3).drew.trans kg0).trans kg1)) (fun hF => ?_)
        clear hK K
        try simp only [Act.put, List.setIfInBounds_toArray, List.set_cons_zero, List.set_cons_succ]
        refine rg_take (i := 4) (v := ?vpx1xx3x4) (by simp only [List.getElem?_toArray, List.getElem?_cons_succ, List.getElem?_cons_zero]; rfl) (by kernel_rfl) (by exact fun _ _ _ h => h) (by rfl) ?rpx1xx3x4 hF ?spx1xx3x4
        case rpx1xx3x4 => (intro W hW; clear hW; go_simp; try with_reducible rfl)
        try simp only [Act.put, List.setIfInBounds_toArray, List.set_cons_zero, List.set_cons_succ]
        refine rg_take (i := 5) (v := ?vpx1xx3x5) (by simp only [List.getElem?_toArray, List.getElem?_cons_succ, List.getElem?_cons_zero]; rfl) (by kernel_rfl) (by exact fun _ _ _ h => h) (by rfl) ?rpx1xx3x5 hF ?spx1xx3x5
        case rpx1xx3x5 => (intro W hW; clear hW; go_simp; try with_reducible rfl)
        try simp only [Act.put, List.setIfInBounds_toArray, List.set_cons_zero, List.set_cons_succ]
        refine rg_take (i := 6) (v := ?vpx1xx3x6) (by simp only [List.getElem?_toArray, List.getElem?_cons_succ, List.getElem?_cons_zero]; rfl) (by kernel_rfl) (by exact fun _ _ _ h => h) (by rfl) ?rpx1xx3x6 hF ?spx1xx3x6
        case rpx1xx3x6 => (intro W hW; clear hW; go_simp; try with_reducible rfl)
        try simp only [Act.put, List.setIfInBounds_toArray, List.set_cons_zero, List.set_cons_succ]
        refine rg_one (i := 7) (oi := ?opx1xx3x7) ?apx1xx3x7 ?bpx1xx3x7 ?cpx1xx3x7 ?dpx1xx3x7
        case apx1xx3x7 => (simp only [List.getElem?_toArray, List.getElem?_cons_succ, List.getElem?_cons_zero]; rfl)
        case bpx1xx3x7 => kernel_rfl
        case cpx1xx3x7 => rfl
        intro K hK
        go_simp
        refine rg_use hK (sk _ ((((Kp.refl No w3).drew.trans kg0).trans kg1).alloc (.cells #[.int .i64 0, .int .i64 0, .int .i64 0, .slice none 0 0] 25))) (fun hF => ?_)
        clear hK K
        try simp only [Act.put, List.setIfInBounds_toArray, List.set_cons_zero, List.set_cons_succ]
        refine rg_one (i := 8) (oi := ?opx1xx3x8) ?apx1xx3x8 ?bpx1xx3x8 ?cpx1xx3x8 ?dpx1xx3x8
        case apx1xx3x8 => (simp only [List.getElem?_toArray, List.getElem?_cons_succ, List.getElem?_cons_zero]; rfl)
        case bpx1xx3x8 => kernel_rfl
        case cpx1xx3x8 => rfl
        intro K hK
        go_simp
        refine rg_use hK (sk _ ((((Kp.refl No w3).drew.trans kg0).trans kg1).alloc (.cells #[.int .i64 2, .int .i64 1, .int .i64 0, .slice Aa1 la1.length ca1] 25))) (fun hF => ?_)
        clear hK K
        try simp only [Act.put, List.setIfInBounds_toArray, List.set_cons_zero, List.set_cons_succ]
        refine rg_take (i := 9) (v := ?vpx1xx3x9) (by simp only [List.getElem?_toArray, List.getElem?_cons_succ, List.getElem?_cons_zero]; rfl) (by kernel_rfl) (by exact fun _ _ _ h => h) (by rfl) ?rpx1xx3x9 hF ?spx1xx3x9
        case rpx1xx3x9 => (intro W hW; clear hW; go_simp; try with_reducible rfl)
        try simp only [Act.put, List.setIfInBounds_toArray, List.set_cons_zero, List.set_cons_succ]
        refine rg_done (by kernel_rfl) ?_
        go_wp2
        go_meet
        exact ⟨wg1.heap.size, Aa1, la1, ca1, rfl, rfl, (Bk.new' rfl rfl : Bk (wg1.alloc (.cells #[.int .i64 2, .int .i64 1, .int .i64 0, .slice Aa1 la1.length ca1] 25)) wg1.heap.size 25 [.int .i64 2, .int .i64 1, .int .i64 0, .slice Aa1 la1.length ca1]), hl1, ((OwnG.mono ho1 ((Kp.refl No w3).drew.trans kg0).size).no ((Kp.refl No _).alloc (.cells #[.int .i64 2, .int .i64 1, .int .i64 0, .slice Aa1 la1.length ca1] 25))), ((((Kp.refl No w3).drew.trans kg0).trans kg1).alloc (.cells #[.int .i64 2, .int .i64 1, .int .i64 0, .slice Aa1 la1.length ca1] 25))⟩
      case dpx1x7 =>
        intro K hK
        go_simp
        refine rg_use hK (sk _ (((Kp.refl No w3).drew.trans kg0).alloc (.cells #[.int .i64 0, .int .i64 0, .int .i64 0, .slice none 0 0] 25))) (fun hF => ?_)
        clear hK K
        try simp only [Act.put, List.setIfInBounds_toArray, List.set_cons_zero, List.set_cons_succ]
        refine rg_one (i := 3) (oi := ?opx1xx7x3) ?apx1xx7x3 ?bpx1xx7x3 ?cpx1xx7x3 ?dpx1xx7x3
        case apx1xx7x3 => (simp only [List.getElem?_toArray, List.getElem?_cons_succ, List.getElem?_cons_zero]; rfl)
        case bpx1xx7x3 => kernel_rfl
        case cpx1xx7x3 => rfl
        intro K hK
        (go_simp; refine (ap_2 _ (.slice A2 l2.length c2) (.slice (some ⟨gg0, 0, none⟩) 1 1) l2 ((HO3.out.no (((Kp.refl No w3).drew.trans kg0).alloc (.cells #[.int .i64 0, .int .i64 0, .int .i64 0, .slice none 0 0] 25))).arg) HL2.out (hs0.no ((Kp.refl No _).alloc (.cells #[.int .i64 0, .int .i64 0, .int .i64 0, .slice none 0 0] 25))).arg).mono ?_; rintro e wg1 ⟨sv1, la1, rfl, hl1, ho1, kg1⟩; obtain ⟨Aa1, ca1, rfl, _⟩ := own_len ho1.1)
        refine rg_use hK (sk _ ((((Kp.refl No w3).drew.trans kg0).alloc (.cells #[.int .i64 0, .int .i64 0, .int .i64 0, .slice none 0 0] 25)).trans kg1)) (fun hF => ?_)
        clear hK K
        try simp only [Act.put, List.setIfInBounds_toArray, List.set_cons_zero, List.set_cons_succ]
        refine rg_take (i := 4) (v := ?vpx1xx7x4) (by simp only [List.getElem?_toArray, List.getElem?_cons_succ, List.getElem?_cons_zero]; rfl) (by kernel_rfl) (by exact fun _ _ _ h => h) (by rfl) ?rpx1xx7x4 hF ?spx1xx7x4
        case rpx1xx7x4 => (intro W hW; clear hW; go_simp; try with_reducible rfl)
        try simp only [Act.put, List.setIfInBounds_toArray, List.set_cons_zero, List.set_cons_succ]
        refine rg_take (i := 5) (v := ?vpx1xx7x5) (by simp only [List.getElem?_toArray, List.getElem?_cons_succ, List.getElem?_cons_zero]; rfl) (by kernel_rfl) (by exact fun _ _ _ h => h) (by rfl) ?rpx1xx7x5 hF ?spx1xx7x5
        case rpx1xx7x5 => (intro W hW; clear hW; go_simp; try with_reducible rfl)
        try simp only [Act.put, List.setIfInBounds_toArray, List.set_cons_zero, List.set_cons_succ]
        refine rg_take (i := 6) (v := ?vpx1xx7x6) (by simp only [List.getElem?_toArray, List.getElem?_cons_succ, List.getElem?_cons_zero]; rfl) (by kernel_rfl) (by exact fun _ _ _ h => h) (by rfl) ?rpx1xx7x6 hF ?spx1xx7x6
        case rpx1xx7x6 => (intro W hW; clear hW; go_simp; try with_reducible rfl)
        try simp only [Act.put, List.setIfInBounds_toArray, List.set_cons_zero, List.set_cons_succ]
        refine rg_one (i := 8) (oi := ?opx1xx7x8) ?apx1xx7x8 ?bpx1xx7x8 ?cpx1xx7x8 ?dpx1xx7x8
        case apx1xx7x8 => (simp only [List.getElem?_toArray, List.getElem?_cons_succ, List.getElem?_cons_zero]; rfl)
        case bpx1xx7x8 => kernel_rfl
        case cpx1xx7x8 => rfl
        intro K hK
        (have bz2 := ((Bk.new' rfl rfl : Bk (wg0.alloc (.cells #[.int .i64 0, .int .i64 0, .int .i64 0, .slice none 0 0] 25)) wg0.heap.size 25 [.int .i64 0, .int .i64 0, .int .i64 0, .slice none 0 0]).no kg1); have q0 : wg1.cell? ⟨wg0.heap.size, 0, none⟩ = some (.int .i64 0) := bz2.cell 0; have q1 : wg1.cell? ⟨wg0.heap.size, 1, none⟩ = some (.int .i64 0) := bz2.cell 1; have q2 : wg1.cell? ⟨wg0.heap.size, 2, none⟩ = some (.int .i64 0) := bz2.cell 2; have q3 : wg1.cell? ⟨wg0.heap.size, 3, none⟩ = some (.slice none 0 0) := bz2.cell 3; have qf := bz2.frozen; go_simp)
        refine rg_use hK (sk _ (((((Kp.refl No w3).drew.trans kg0).alloc (.cells #[.int .i64 0, .int .i64 0, .int .i64 0, .slice none 0 0] 25)).trans kg1).then_ (((((Kp.refl (One wg0.heap.size) wg1).set (.inl (One.self _)) 0 (.int .i64 2)).set (.inl (One.self _)) 1 (.int .i64 1)).set (.inl (One.self _)) 2 (.int .i64 0)).set (.inl (One.self _)) 3 (.slice Aa1 la1.length ca1)) fun j hj m => by have h1 : j = wg0.heap.size := m; have h2 := (show w3.heap.size ≤ wg0.heap.size from ((Kp.refl No w3).drew.trans kg0).size); exact absurd hj (by omega))) (fun hF => ?_)
        clear hK K
        try simp only [Act.put, List.setIfInBounds_toArray, List.set_cons_zero, List.set_cons_succ]
        refine rg_take (i := 9) (v := ?vpx1xx7x9) (by simp only [List.getElem?_toArray, List.getElem?_cons_succ, List.getElem?_cons_zero]; rfl) (by kernel_rfl) (by exact fun _ _ _ h => h) (by rfl) ?rpx1xx7x9 hF ?spx1xx7x9
        case rpx1xx7x9 => (intro W hW; clear hW; go_simp; try with_reducible rfl)
        try simp only [Act.put, List.setIfInBounds_toArray, List.set_cons_zero, List.set_cons_succ]
        refine rg_done (by kernel_rfl) ?_
        go_wp2
        go_meet
        exact ⟨wg0.heap.size, Aa1, la1, ca1, rfl, rfl, ((((bz2.set_ 0 (.int .i64 2)).set_ 1 (.int .i64 1)).set_ 2 (.int .i64 0)).set_ 3 (.slice Aa1 la1.length ca1)), hl1, (OwnG.far (OwnG.mono ho1 (((Kp.refl No w3).drew.trans kg0).alloc (.cells #[.int .i64 0, .int .i64 0, .int .i64 0, .slice none 0 0] 25)).size) (((((Kp.refl (One wg0.heap.size) wg1).set (.inl (One.self _)) 0 (.int .i64 2)).set (.inl (One.self _)) 1 (.int .i64 1)).set (.inl (One.self _)) 2 (.int .i64 0)).set (.inl (One.self _)) 3 (.slice Aa1 la1.length ca1)) bz2 (by decide) (by decide)), (((((Kp.refl No w3).drew.trans kg0).alloc (.cells #[.int .i64 0, .int .i64 0, .int .i64 0, .slice none 0 0] 25)).trans kg1).then_ (((((Kp.refl (One wg0.heap.size) wg1).set (.inl (One.self _)) 0 (.int .i64 2)).set (.inl (One.self _)) 1 (.int .i64 1)).set (.inl (One.self _)) 2 (.int .i64 0)).set (.inl (One.self _)) 3 (.slice Aa1 la1.length ca1)) fun j hj m => by have h1 : j = wg0.heap.size := m; have h2 := (show w3.heap.size ≤ wg0.heap.size from ((Kp.refl No w3).drew.trans kg0).size); exact absurd hj (by omega))⟩
    case dp7 =>
      intro K hK
      go_simp
      refine rg_use hK (sk _ ((Kp.refl No w3).drew.alloc (.cells #[.int .i64 0, .int .i64 0, .int .i64 0, .slice none 0 0] 25))) (fun hF => ?_)
      clear hK K
      try simp only [Act.put, List.setIfInBounds_toArray, List.set_cons_zero, List.set_cons_succ]
      refine rg_one (i := 1) (oi := ?opx7x1) ?apx7x1 ?bpx7x1 ?cpx7x1 ?dpx7x1
      case apx7x1 => (simp only [List.getElem?_toArray, List.getElem?_cons_succ, List.getElem?_cons_zero]; rfl)
      case bpx7x1 => kernel_rfl
      case cpx7x1 => rfl
      intro K hK
      (go_simp; refine (grant_any _).mono ?_; rintro e wg0 ⟨gg0, rfl, hs0, kg0⟩)
      refine rg_use hK (sk _ (((Kp.refl No w3).drew.alloc (.cells #[.int .i64 0, .int .i64 0, .int .i64 0, .slice none 0 0] 25)).trans kg0)) (fun hF => ?_)
      clear hK K
      try simp only [Act.put, List.setIfInBounds_toArray, List.set_cons_zero, List.set_cons_succ]
      refine rg_take (i := 2) (v := ?vpx7x2) (by simp only [List.getElem?_toArray, List.getElem?_cons_succ, List.getElem?_cons_zero]; rfl) (by kernel_rfl) (by exact fun _ _ _ h => h) (by rfl) ?rpx7x2 hF ?spx7x2
      case rpx7x2 => (intro W hW; clear hW; go_simp; try with_reducible rfl)
      try simp only [Act.put, List.setIfInBounds_toArray, List.set_cons_zero, List.set_cons_succ]
      refine rg_one (i := 3) (oi := ?opx7x3) ?apx7x3 ?bpx7x3 ?cpx7x3 ?dpx7x3
      case apx7x3 => (simp only [List.getElem?_toArray, List.getElem?_cons_succ, List.getElem?_cons_zero]; rfl)
      case bpx7x3 => kernel_rfl
      case cpx7x3 => rfl
      intro K hK
      (go_simp; refine (ap_2 _ (.slice A2 l2.length c2) (.slice (some ⟨gg0, 0, none⟩) 1 1) l2 ((HO3.out.no (((Kp.refl No w3).drew.alloc (.cells #[.int .i64 0, .int .i64 0, .int .i64 0, .slice none 0 0] 25)).trans kg0)).arg) HL2.out hs0.arg).mono ?_; rintro e wg1 ⟨sv1, la1, rfl, hl1, ho1, kg1⟩; obtain ⟨Aa1, ca1, rfl, _⟩ := own_len ho1.1)
      refine rg_use hK (sk _ ((((Kp.refl No w3).drew.alloc (.cells #[.int .i64 0, .int .i64 0, .int .i64 0, .slice none 0 0] 25)).trans kg0).trans kg1)) (fun hF => ?_)
      clear hK K
      try simp only [Act.put, List.setIfInBounds_toArray, List.set_cons_zero, List.set_cons_succ]
      refine rg_take (i := 4) (v := ?vpx7x4) (by simp only [List.getElem?_toArray, List.getElem?_cons_succ, List.getElem?_cons_zero]; rfl) (by kernel_rfl) (by exact fun _ _ _ h => h) (by rfl) ?rpx7x4 hF ?spx7x4
      case rpx7x4 => (intro W hW; clear hW; go_simp; try with_reducible rfl)
      try simp only [Act.put, List.setIfInBounds_toArray, List.set_cons_zero, List.set_cons_succ]
      refine rg_take (i := 5) (v := ?vpx7x5) (by simp only [List.getElem?_toArray, List.getElem?_cons_succ, List.getElem?_cons_zero]; rfl) (by kernel_rfl) (by exact fun _ _ _ h => h) (by rfl) ?rpx7x5 hF ?spx7x5
      case rpx7x5 => (intro W hW; clear hW; go_simp; try with_reducible rfl)
      try simp only [Act.put, List.setIfInBounds_toArray, List.set_cons_zero, List.set_cons_succ]
      refine rg_take (i := 6) (v := ?vpx7x6) (by simp only [List.getElem?_toArray, List.getElem?_cons_succ, List.getElem?_cons_zero]; rfl) (by kernel_rfl) (by exact fun _ _ _ h => h) (by rfl) ?rpx7x6 hF ?spx7x6
      case rpx7x6 => (intro W hW; clear hW; go_simp; try with_reducible rfl)
      try simp only [Act.put, List.setIfInBounds_toArray, List.set_cons_zero, List.set_cons_succ]
      refine rg_one (i := 8) (oi := ?opx7x8) ?apx7x8 ?bpx7x8 ?cpx7x8 ?dpx7x8
      case apx7x8 => (simp only [List.getElem?_toArray, List.getElem?_cons_succ, List.getElem?_cons_zero]; rfl)
      case bpx7x8 => kernel_rfl
      case cpx7x8 => rfl
      intro K hK
      (have bz2 := (((Bk.new' rfl rfl : Bk (w3.drew.alloc (.cells #[.int .i64 0, .int .i64 0, .int .i64 0, .slice none 0 0] 25)) w3.heap.size 25 [.int .i64 0, .int .i64 0, .int .i64 0, .slice none 0 0]).no kg0).no kg1); have q0 : wg1.cell? ⟨w3.heap.size, 0, none⟩ = some (.int .i64 0) := bz2.cell 0; have q1 : wg1.cell? ⟨w3.heap.size, 1, none⟩ = some (.int .i64 0) := bz2.cell 1; have q2 : wg1.cell? ⟨w3.heap.size, 2, none⟩ = some (.int .i64 0) := bz2.cell 2; have q3 : wg1.cell? ⟨w3.heap.size, 3, none⟩ = some (.slice none 0 0) := bz2.cell 3; have qf := bz2.frozen; go_simp)
      refine rg_use hK (sk _ (((((Kp.refl No w3).drew.alloc (.cells #[.int .i64 0, .int .i64 0, .int .i64 0, .slice none 0 0] 25)).trans kg0).trans kg1).then_ (((((Kp.refl (One w3.heap.size) wg1).set (.inl (One.self _)) 0 (.int .i64 2)).set (.inl (One.self _)) 1 (.int .i64 1)).set (.inl (One.self _)) 2 (.int .i64 0)).set (.inl (One.self _)) 3 (.slice Aa1 la1.length ca1)) fun j hj m => by have h1 : j = w3.heap.size := m; have h2 := (show w3.heap.size ≤ w3.heap.size from (Kp.refl No w3).drew.size); exact absurd hj (by omega))) (fun hF => ?_)
      clear hK K
      try simp only [Act.put, List.setIfInBounds_toArray, List.set_cons_zero, List.set_cons_succ]
      refine rg_take (i := 9) (v := ?vpx7x9) (by simp only [List.getElem?_toArray, List.getElem?_cons_succ, List.getElem?_cons_zero]; rfl) (by kernel_rfl) (by exact fun _ _ _ h => h) (by rfl) ?rpx7x9 hF ?spx7x9
      case rpx7x9 => (intro W hW; clear hW; go_simp; try with_reducible rfl)
      try simp only [Act.put, List.setIfInBounds_toArray, List.set_cons_zero, List.set_cons_succ]
      refine rg_done (by kernel_rfl) ?_
      go_wp2
      go_meet
      exact ⟨w3.heap.size, Aa1, la1, ca1, rfl, rfl, ((((bz2.set_ 0 (.int .i64 2)).set_ 1 (.int .i64 1)).set_ 2 (.int .i64 0)).set_ 3 (.slice Aa1 la1.length ca1)), hl1, (OwnG.far (OwnG.mono ho1 (((Kp.refl No w3).drew.alloc (.cells #[.int .i64 0, .int .i64 0, .int .i64 0, .slice none 0 0] 25)).trans kg0).size) (((((Kp.refl (One w3.heap.size) wg1).set (.inl (One.self _)) 0 (.int .i64 2)).set (.inl (One.self _)) 1 (.int .i64 1)).set (.inl (One.self _)) 2 (.int .i64 0)).set (.inl (One.self _)) 3 (.slice Aa1 la1.length ca1)) bz2 (by decide) (by decide)), (((((Kp.refl No w3).drew.alloc (.cells #[.int .i64 0, .int .i64 0, .int .i64 0, .slice none 0 0] 25)).trans kg0).trans kg1).then_ (((((Kp.refl (One w3.heap.size) wg1).set (.inl (One.self _)) 0 (.int .i64 2)).set (.inl (One.self _)) 1 (.int .i64 1)).set (.inl (One.self _)) 2 (.int .i64 0)).set (.inl (One.self _)) 3 (.slice Aa1 la1.length ca1)) fun j hj m => by have h1 : j = w3.heap.size := m; have h2 := (show w3.heap.size ≤ w3.heap.size from (Kp.refl No w3).drew.size); exact absurd hj (by omega))⟩
  case rest =>
    obtain ⟨g5, A5, l5, c5, rfl, rfl, hb5, hl5, ho5, k5⟩ := hcut
    have HB5 := Lib.hid hb5; have HL5 := Lib.hid hl5; have HO5 := Lib.hid ho5; have HK5 := Lib.hid (HK3.out.trans k5)
    have HB3' := Lib.hid (HB3.out.no k5); have HO3' := Lib.hid (HO3.out.no k5)
    clear hb5 hl5 ho5 k5 sk HB3 HO3
    have y0 : wc.cell? ⟨g5, 0, none⟩ = some (.int .i64 2) := HB5.out.cell 0
    have y1 : wc.cell? ⟨g5, 1, none⟩ = some (.int .i64 1) := HB5.out.cell 1
    have y2 : wc.cell? ⟨g5, 2, none⟩ = some (.int .i64 0) := HB5.out.cell 2
    have y3 : wc.cell? ⟨g5, 3, none⟩ = some (.slice A5 l5.length c5) := HB5.out.cell 3
    obtain ⟨w6, hw6⟩ : ∃ w6, w6 = wc.alloc (.cells #[.int .i64 2] 3) := ⟨_, rfl⟩
    have k6 : Kp No wc w6 := by rw [hw6]; exact (Kp.refl No wc).alloc _
    have hs6 : SlI w6 (.slice (some ⟨wc.heap.size, 0, none⟩) 1 1) [2] := by rw [hw6]; exact sli_new (Bk.new' rfl rfl) rfl (Nat.le_refl _)
    have pa := ap_3 w6 (.slice A5 l5.length c5) (.slice (some ⟨wc.heap.size, 0, none⟩) 1 1) l5 ((HO5.out.no k6).arg) HL5.out hs6.arg
    have HW6 := Lib.hid hw6; have HN6 := Lib.hid k6
    clear hw6 k6 hs6
    go_wp2_with fail
    rw [← HW6.out]
    refine pa.mono ?_
    rintro e w7 ⟨sv7, l7, rfl, hl7, ho7, k7⟩
    obtain ⟨A7, c7, rfl, _⟩ := own_len ho7.1
    clear y0 y1 y2 y3 pa HW6
    obtain ⟨w8, hw8⟩ : ∃ w8, w8 = w7.alloc (.cells #[.int .i64 3, .int .i64 1, .int .i64 0, .slice A7 l7.length c7] 25) := ⟨_, rfl⟩
    have k8 : Kp No wc w8 := by rw [hw8]; exact (HN6.out.trans k7).alloc _
    have HB8 := Lib.hid (show Bk w8 w7.heap.size 25 [.int .i64 3, .int .i64 1, .int .i64 0, .slice A7 l7.length c7] by rw [hw8]; exact Bk.new' rfl rfl)
    have HO8 := Lib.hid (show OwnG w8 w6.heap.size (.slice A7 l7.length c7) l7 by rw [hw8]; exact ho7.no ((Kp.refl No w7).alloc _))
    have HL7 := Lib.hid hl7; have HK8 := Lib.hid (HK5.out.trans k8)
    have HB38 := Lib.hid (HB3'.out.no k8); have HB58 := Lib.hid (HB5.out.no k8); have HO58 := Lib.hid (HO5.out.no k8)
    have HW8 := Lib.hid hw8
    clear hl7 ho7 k7 k8 hw8 HN6 HB3' HO3' HB5 HO5 HK5 HK3
    go_upto_region 4 with (fail)
    rw [← HW8.out]
    clear HW8
    have sk : ∀ W2, Kp No w8 W2 → W2.cell? ⟨g5, 0, none⟩ = some (.int .i64 2) ∧ W2.cell? ⟨g5, 1, none⟩ = some (.int .i64 1) ∧ W2.cell? ⟨g5, 2, none⟩ = some (.int .i64 0) ∧ W2.cell? ⟨g5, 3, none⟩ = some (.slice A5 l5.length c5) := fun W2 kk => ⟨(HB58.out.no kk).cell 0, (HB58.out.no kk).cell 1, (HB58.out.no kk).cell 2, (HB58.out.no kk).cell 3⟩
    go_cut [7, 8] (fun s t wx => ∃ g A l c, s = .pointer (some ⟨g, 0, none⟩) ∧ t = .int .i64 43 ∧ Bk wx g 25 [.int .i64 0, .int .i64 0, .int .i64 0, .slice A l.length c] ∧ gsL l = [] ∧ OwnG wx w8.heap.size (.slice A l.length c) l ∧ Kp No w8 wx)
    case first =>
      have hF := sk _ (Kp.refl No w8).drew
      refine rg_begin (fun W2 => W2.cell? ⟨g5, 0, none⟩ = some (.int .i64 2) ∧ W2.cell? ⟨g5, 1, none⟩ = some (.int .i64 1) ∧ W2.cell? ⟨g5, 2, none⟩ = some (.int .i64 0) ∧ W2.cell? ⟨g5, 3, none⟩ = some (.slice A5 l5.length c5)) 10 (by kernel_rfl) ?_
      refine rg_take (i := 0) (v := ?vq0) (by simp only [List.getElem?_toArray, List.getElem?_cons_zero]; rfl) (by kernel_rfl) (by exact fun _ _ _ h => h) (by rfl) ?rq0 hF ?sq0
      case rq0 => (intro W9 hW9; obtain ⟨f1, f2, f3, f4⟩ := hW9; go_simp; try with_reducible rfl)
      try simp only [Act.put, List.setIfInBounds_toArray, List.set_cons_zero, List.set_cons_succ]
      refine rg_two (i := 1) (j := 7) (oi := ?oq1) (oj := ?oq7) ?aq1 ?aq7 ?bq1 ?cq1 ?cq7 ?dq1 ?dq7
      case aq1 => (simp only [List.getElem?_toArray, List.getElem?_cons_succ, List.getElem?_cons_zero]; rfl)
      case aq7 => (simp only [List.getElem?_toArray, List.getElem?_cons_succ, List.getElem?_cons_zero]; rfl)
      case bq1 => kernel_rfl
      case cq1 => rfl
      case cq7 => rfl
      case dq1 =>
        intro K hK
        (go_simp; refine (grant_any _).mono ?_; rintro e wg0 ⟨gg0, rfl, hs0, kg0⟩)
        refine rg_use hK (sk _ ((Kp.refl No w8).drew.trans kg0)) (fun hF => ?_)
        clear hK K
        try simp only [Act.put, List.setIfInBounds_toArray, List.set_cons_zero, List.set_cons_succ]
        refine rg_take (i := 2) (v := ?vqx1x2) (by simp only [List.getElem?_toArray, List.getElem?_cons_succ, List.getElem?_cons_zero]; rfl) (by kernel_rfl) (by exact fun _ _ _ h => h) (by rfl) ?rqx1x2 hF ?sqx1x2
        case rqx1x2 => (intro W hW; clear hW; go_simp; try with_reducible rfl)
        try simp only [Act.put, List.setIfInBounds_toArray, List.set_cons_zero, List.set_cons_succ]
        refine rg_two (i := 3) (j := 7) (oi := ?oqx1x3) (oj := ?oqx1x7) ?aqx1x3 ?aqx1x7 ?bqx1x3 ?cqx1x3 ?cqx1x7 ?dqx1x3 ?dqx1x7
        case aqx1x3 => (simp only [List.getElem?_toArray, List.getElem?_cons_succ, List.getElem?_cons_zero]; rfl)
        case aqx1x7 => (simp only [List.getElem?_toArray, List.getElem?_cons_succ, List.getElem?_cons_zero]; rfl)
        case bqx1x3 => kernel_rfl
        case cqx1x3 => rfl
        case cqx1x7 => rfl
        case dqx1x3 =>
          intro K hK
          (go_simp; refine (ap_4 _ (.slice A5 l5.length c5) (.slice (some ⟨gg0, 0, none⟩) 1 1) l5 ((HO58.out.no ((Kp.refl No w8).drew.trans kg0)).arg) HL5.out hs0.arg).mono ?_; rintro e wg1 ⟨sv1, la1, rfl, hl1, ho1, kg1⟩; obtain ⟨Aa1, ca1, rfl, _⟩ := own_len ho1.1)
          refine rg_use hK (sk _ (((Kp.refl No w8).drew.trans kg0).trans kg1)) (fun hF => ?_)
          clear hK K
          try simp only [Act.put, List.setIfInBounds_toArray, List.set_cons_zero, List.set_cons_succ]
          refine rg_take (i := 4) (v := ?vqx1xx3x4) (by simp only [List.getElem?_toArray, List.getElem?_cons_succ, List.getElem?_cons_zero]; rfl) (by kernel_rfl) (by exact fun _ _ _ h => h) (by rfl) ?rqx1xx3x4 hF ?sqx1xx3x4
          case rqx1xx3x4 => (intro W hW; clear hW; go_simp; try with_reducible rfl)
          try simp only [Act.put, List.setIfInBounds_toArray, List.set_cons_zero, List.set_cons_succ]
          refine rg_take (i := 5) (v := ?vqx1xx3x5) (by simp only [List.getElem?_toArray, List.getElem?_cons_succ, List.getElem?_cons_zero]; rfl) (by kernel_rfl) (by exact fun _ _ _ h => h) (by rfl) ?rqx1xx3x5 hF ?sqx1xx3x5
          case rqx1xx3x5 => (intro W hW; clear hW; go_simp; try with_reducible rfl)
          try simp only [Act.put, List.setIfInBounds_toArray, List.set_cons_zero, List.set_cons_succ]
          refine rg_take (i := 6) (v := ?vqx1xx3x6) (by simp only [List.getElem?_toArray, List.getElem?_cons_succ, List.getElem?_cons_zero]; rfl) (by kernel_rfl) (by exact fun _ _ _ h => h) (by rfl) ?rqx1xx3x6 hF ?sqx1xx3x6
          case rqx1xx3x6 => (intro W hW; clear hW; go_simp; try with_reducible rfl)
          try simp only [Act.put, List.setIfInBounds_toArray, List.set_cons_zero, List.set_cons_succ]
          refine rg_one (i := 7) (oi := ?oqx1xx3x7) ?aqx1xx3x7 ?bqx1xx3x7 ?cqx1xx3x7 ?dqx1xx3x7
          case aqx1xx3x7 => (simp only [List.getElem?_toArray, List.getElem?_cons_succ, List.getElem?_cons_zero]; rfl)
          case bqx1xx3x7 => kernel_rfl
          case cqx1xx3x7 => rfl
          intro K hK
          go_simp
          refine rg_use hK (sk _ ((((Kp.refl No w8).drew.trans kg0).trans kg1).alloc (.cells #[.int .i64 0, .int .i64 0, .int .i64 0, .slice none 0 0] 25))) (fun hF => ?_)
          clear hK K
          try simp only [Act.put, List.setIfInBounds_toArray, List.set_cons_zero, List.set_cons_succ]
          refine rg_one (i := 8) (oi := ?oqx1xx3x8) ?aqx1xx3x8 ?bqx1xx3x8 ?cqx1xx3x8 ?dqx1xx3x8
          case aqx1xx3x8 => (simp only [List.getElem?_toArray, List.getElem?_cons_succ, List.getElem?_cons_zero]; rfl)
          case bqx1xx3x8 => kernel_rfl
          case cqx1xx3x8 => rfl
          intro K hK
          go_simp
          refine rg_use hK (sk _ ((((Kp.refl No w8).drew.trans kg0).trans kg1).alloc (.cells #[.int .i64 0, .int .i64 0, .int .i64 0, .slice Aa1 la1.length ca1] 25))) (fun hF => ?_)
          clear hK K
          try simp only [Act.put, List.setIfInBounds_toArray, List.set_cons_zero, List.set_cons_succ]
          refine rg_take (i := 9) (v := ?vqx1xx3x9) (by simp only [List.getElem?_toArray, List.getElem?_cons_succ, List.getElem?_cons_zero]; rfl) (by kernel_rfl) (by exact fun _ _ _ h => h) (by rfl) ?rqx1xx3x9 hF ?sqx1xx3x9
          case rqx1xx3x9 => (intro W hW; clear hW; go_simp; try with_reducible rfl)
          try simp only [Act.put, List.setIfInBounds_toArray, List.set_cons_zero, List.set_cons_succ]
          refine rg_done (by kernel_rfl) ?_
          go_wp2
          go_meet
          exact ⟨wg1.heap.size, Aa1, la1, ca1, rfl, rfl, (Bk.new' rfl rfl : Bk (wg1.alloc (.cells #[.int .i64 0, .int .i64 0, .int .i64 0, .slice Aa1 la1.length ca1] 25)) wg1.heap.size 25 [.int .i64 0, .int .i64 0, .int .i64 0, .slice Aa1 la1.length ca1]), hl1, ((OwnG.mono ho1 ((Kp.refl No w8).drew.trans kg0).size).no ((Kp.refl No _).alloc (.cells #[.int .i64 0, .int .i64 0, .int .i64 0, .slice Aa1 la1.length ca1] 25))), ((((Kp.refl No w8).drew.trans kg0).trans kg1).alloc (.cells #[.int .i64 0, .int .i64 0, .int .i64 0, .slice Aa1 la1.length ca1] 25))⟩
        case dqx1x7 =>
          intro K hK
          go_simp
          refine rg_use hK (sk _ (((Kp.refl No w8).drew.trans kg0).alloc (.cells #[.int .i64 0, .int .i64 0, .int .i64 0, .slice none 0 0] 25))) (fun hF => ?_)
          clear hK K
          try simp only [Act.put, List.setIfInBounds_toArray, List.set_cons_zero, List.set_cons_succ]
          refine rg_one (i := 3) (oi := ?oqx1xx7x3) ?aqx1xx7x3 ?bqx1xx7x3 ?cqx1xx7x3 ?dqx1xx7x3
          case aqx1xx7x3 => (simp only [List.getElem?_toArray, List.getElem?_cons_succ, List.getElem?_cons_zero]; rfl)
          case bqx1xx7x3 => kernel_rfl
          case cqx1xx7x3 => rfl
          intro K hK
          (go_simp; refine (ap_4 _ (.slice A5 l5.length c5) (.slice (some ⟨gg0, 0, none⟩) 1 1) l5 ((HO58.out.no (((Kp.refl No w8).drew.trans kg0).alloc (.cells #[.int .i64 0, .int .i64 0, .int .i64 0, .slice none 0 0] 25))).arg) HL5.out (hs0.no ((Kp.refl No _).alloc (.cells #[.int .i64 0, .int .i64 0, .int .i64 0, .slice none 0 0] 25))).arg).mono ?_; rintro e wg1 ⟨sv1, la1, rfl, hl1, ho1, kg1⟩; obtain ⟨Aa1, ca1, rfl, _⟩ := own_len ho1.1)
          refine rg_use hK (sk _ ((((Kp.refl No w8).drew.trans kg0).alloc (.cells #[.int .i64 0, .int .i64 0, .int .i64 0, .slice none 0 0] 25)).trans kg1)) (fun hF => ?_)
          clear hK K
          try simp only [Act.put, List.setIfInBounds_toArray, List.set_cons_zero, List.set_cons_succ]
          refine rg_take (i := 4) (v := ?vqx1xx7x4) (by simp only [List.getElem?_toArray, List.getElem?_cons_succ, List.getElem?_cons_zero]; rfl) (by kernel_rfl) (by exact fun _ _ _ h => h) (by rfl) ?rqx1xx7x4 hF ?sqx1xx7x4
          case rqx1xx7x4 => (intro W hW; clear hW; go_simp; try with_reducible rfl)
          try simp only [Act.put, List.setIfInBounds_toArray, List.set_cons_zero, List.set_cons_succ]
          refine rg_take (i := 5) (v := ?vqx1xx7x5) (by simp only [List.getElem?_toArray, List.getElem?_cons_succ, List.getElem?_cons_zero]; rfl) (by kernel_rfl) (by exact fun _ _ _ h => h) (by rfl) ?rqx1xx7x5 hF ?sqx1xx7x5
          case rqx1xx7x5 => (intro W hW; clear hW; go_simp; try with_reducible rfl)
          try simp only [Act.put, List.setIfInBounds_toArray, List.set_cons_zero, List.set_cons_succ]
          refine rg_take (i := 6) (v := ?vqx1xx7x6) (by simp only [List.getElem?_toArray, List.getElem?_cons_succ, List.getElem?_cons_zero]; rfl) (by kernel_rfl) (by exact fun _ _ _ h => h) (by rfl) ?rqx1xx7x6 hF ?sqx1xx7x6
          case rqx1xx7x6 => (intro W hW; clear hW; go_simp; try with_reducible rfl)
          try simp only [Act.put, List.setIfInBounds_toArray, List.set_cons_zero, List.set_cons_succ]
          refine rg_one (i := 8) (oi := ?oqx1xx7x8) ?aqx1xx7x8 ?bqx1xx7x8 ?cqx1xx7x8 ?dqx1xx7x8
          case aqx1xx7x8 => (simp only [List.getElem?_toArray, List.getElem?_cons_succ, List.getElem?_cons_zero]; rfl)
          case bqx1xx7x8 => kernel_rfl
          case cqx1xx7x8 => rfl
          intro K hK
          (have bz2 := ((Bk.new' rfl rfl : Bk (wg0.alloc (.cells #[.int .i64 0, .int .i64 0, .int .i64 0, .slice none 0 0] 25)) wg0.heap.size 25 [.int .i64 0, .int .i64 0, .int .i64 0, .slice none 0 0]).no kg1); have q0 : wg1.cell? ⟨wg0.heap.size, 0, none⟩ = some (.int .i64 0) := bz2.cell 0; have q1 : wg1.cell? ⟨wg0.heap.size, 1, none⟩ = some (.int .i64 0) := bz2.cell 1; have q2 : wg1.cell? ⟨wg0.heap.size, 2, none⟩ = some (.int .i64 0) := bz2.cell 2; have q3 : wg1.cell? ⟨wg0.heap.size, 3, none⟩ = some (.slice none 0 0) := bz2.cell 3; have qf := bz2.frozen; go_simp)
          refine rg_use hK (sk _ (((((Kp.refl No w8).drew.trans kg0).alloc (.cells #[.int .i64 0, .int .i64 0, .int .i64 0, .slice none 0 0] 25)).trans kg1).then_ (((((Kp.refl (One wg0.heap.size) wg1).set (.inl (One.self _)) 0 (.int .i64 0)).set (.inl (One.self _)) 1 (.int .i64 0)).set (.inl (One.self _)) 2 (.int .i64 0)).set (.inl (One.self _)) 3 (.slice Aa1 la1.length ca1)) fun j hj m => by have h1 : j = wg0.heap.size := m; have h2 := (show w8.heap.size ≤ wg0.heap.size from ((Kp.refl No w8).drew.trans kg0).size); exact absurd hj (by omega))) (fun hF => ?_)
          clear hK K
          try simp only [Act.put, List.setIfInBounds_toArray, List.set_cons_zero, List.set_cons_succ]
          refine rg_take (i := 9) (v := ?vqx1xx7x9) (by simp only [List.getElem?_toArray, List.getElem?_cons_succ, List.getElem?_cons_zero]; rfl) (by kernel_rfl) (by exact fun _ _ _ h => h) (by rfl) ?rqx1xx7x9 hF ?sqx1xx7x9
          case rqx1xx7x9 => (intro W hW; clear hW; go_simp; try with_reducible rfl)
          try simp only [Act.put, List.setIfInBounds_toArray, List.set_cons_zero, List.set_cons_succ]
          refine rg_done (by kernel_rfl) ?_
          go_wp2
          go_meet
          exact ⟨wg0.heap.size, Aa1, la1, ca1, rfl, rfl, ((((bz2.set_ 0 (.int .i64 0)).set_ 1 (.int .i64 0)).set_ 2 (.int .i64 0)).set_ 3 (.slice Aa1 la1.length ca1)), hl1, (OwnG.far (OwnG.mono ho1 (((Kp.refl No w8).drew.trans kg0).alloc (.cells #[.int .i64 0, .int .i64 0, .int .i64 0, .slice none 0 0] 25)).size) (((((Kp.refl (One wg0.heap.size) wg1).set (.inl (One.self _)) 0 (.int .i64 0)).set (.inl (One.self _)) 1 (.int .i64 0)).set (.inl (One.self _)) 2 (.int .i64 0)).set (.inl (One.self _)) 3 (.slice Aa1 la1.length ca1)) bz2 (by decide) (by decide)), (((((Kp.refl No w8).drew.trans kg0).alloc (.cells #[.int .i64 0, .int .i64 0, .int .i64 0, .slice none 0 0] 25)).trans kg1).then_ (((((Kp.refl (One wg0.heap.size) wg1).set (.inl (One.self _)) 0 (.int .i64 0)).set (.inl (One.self _)) 1 (.int .i64 0)).set (.inl (One.self _)) 2 (.int .i64 0)).set (.inl (One.self _)) 3 (.slice Aa1 la1.length ca1)) fun j hj m => by have h1 : j = wg0.heap.size := m; have h2 := (show w8.heap.size ≤ wg0.heap.size from ((Kp.refl No w8).drew.trans kg0).size); exact absurd hj (by omega))⟩
      case dq7 =>
        intro K hK
        go_simp
        refine rg_use hK (sk _ ((Kp.refl No w8).drew.alloc (.cells #[.int .i64 0, .int .i64 0, .int .i64 0, .slice none 0 0] 25))) (fun hF => ?_)
        clear hK K
        try simp only [Act.put, List.setIfInBounds_toArray, List.set_cons_zero, List.set_cons_succ]
        refine rg_one (i := 1) (oi := ?oqx7x1) ?aqx7x1 ?bqx7x1 ?cqx7x1 ?dqx7x1
        case aqx7x1 => (simp only [List.getElem?_toArray, List.getElem?_cons_succ, List.getElem?_cons_zero]; rfl)
        case bqx7x1 => kernel_rfl
        case cqx7x1 => rfl
        intro K hK
        (go_simp; refine (grant_any _).mono ?_; rintro e wg0 ⟨gg0, rfl, hs0, kg0⟩)
        refine rg_use hK (sk _ (((Kp.refl No w8).drew.alloc (.cells #[.int .i64 0, .int .i64 0, .int .i64 0, .slice none 0 0] 25)).trans kg0)) (fun hF => ?_)
        clear hK K
        try simp only [Act.put, List.setIfInBounds_toArray, List.set_cons_zero, List.set_cons_succ]
        refine rg_take (i := 2) (v := ?vqx7x2) (by simp only [List.getElem?_toArray, List.getElem?_cons_succ, List.getElem?_cons_zero]; rfl) (by kernel_rfl) (by exact fun _ _ _ h => h) (by rfl) ?rqx7x2 hF ?sqx7x2
        case rqx7x2 => (intro W hW; clear hW; go_simp; try with_reducible rfl)
        try simp only [Act.put, List.setIfInBounds_toArray, List.set_cons_zero, List.set_cons_succ]
        refine rg_one (i := 3) (oi := ?oqx7x3) ?aqx7x3 ?bqx7x3 ?cqx7x3 ?dqx7x3
        case aqx7x3 => (simp only [List.getElem?_toArray, List.getElem?_cons_succ, List.getElem?_cons_zero]; rfl)
        case bqx7x3 => kernel_rfl
        case cqx7x3 => rfl
        intro K hK
        (go_simp; refine (ap_4 _ (.slice A5 l5.length c5) (.slice (some ⟨gg0, 0, none⟩) 1 1) l5 ((HO58.out.no (((Kp.refl No w8).drew.alloc (.cells #[.int .i64 0, .int .i64 0, .int .i64 0, .slice none 0 0] 25)).trans kg0)).arg) HL5.out hs0.arg).mono ?_; rintro e wg1 ⟨sv1, la1, rfl, hl1, ho1, kg1⟩; obtain ⟨Aa1, ca1, rfl, _⟩ := own_len ho1.1)
        refine rg_use hK (sk _ ((((Kp.refl No w8).drew.alloc (.cells #[.int .i64 0, .int .i64 0, .int .i64 0, .slice none 0 0] 25)).trans kg0).trans kg1)) (fun hF => ?_)
        clear hK K
        try simp only [Act.put, List.setIfInBounds_toArray, List.set_cons_zero, List.set_cons_succ]
        refine rg_take (i := 4) (v := ?vqx7x4) (by simp only [List.getElem?_toArray, List.getElem?_cons_succ, List.getElem?_cons_zero]; rfl) (by kernel_rfl) (by exact fun _ _ _ h => h) (by rfl) ?rqx7x4 hF ?sqx7x4
        case rqx7x4 => (intro W hW; clear hW; go_simp; try with_reducible rfl)
        try simp only [Act.put, List.setIfInBounds_toArray, List.set_cons_zero, List.set_cons_succ]
        refine rg_take (i := 5) (v := ?vqx7x5) (by simp only [List.getElem?_toArray, List.getElem?_cons_succ, List.getElem?_cons_zero]; rfl) (by kernel_rfl) (by exact fun _ _ _ h => h) (by rfl) ?rqx7x5 hF ?sqx7x5
        case rqx7x5 => (intro W hW; clear hW; go_simp; try with_reducible rfl)
        try simp only [Act.put, List.setIfInBounds_toArray, List.set_cons_zero, List.set_cons_succ]
        refine rg_take (i := 6) (v := ?vqx7x6) (by simp only [List.getElem?_toArray, List.getElem?_cons_succ, List.getElem?_cons_zero]; rfl) (by kernel_rfl) (by exact fun _ _ _ h => h) (by rfl) ?rqx7x6 hF ?sqx7x6
        case rqx7x6 => (intro W hW; clear hW; go_simp; try with_reducible rfl)
        try simp only [Act.put, List.setIfInBounds_toArray, List.set_cons_zero, List.set_cons_succ]
        refine rg_one (i := 8) (oi := ?oqx7x8) ?aqx7x8 ?bqx7x8 ?cqx7x8 ?dqx7x8
        case aqx7x8 => (simp only [List.getElem?_toArray, List.getElem?_cons_succ, List.getElem?_cons_zero]; rfl)
        case bqx7x8 => kernel_rfl
        case cqx7x8 => rfl
        intro K hK
        (have bz2 := (((Bk.new' rfl rfl : Bk (w8.drew.alloc (.cells #[.int .i64 0, .int .i64 0, .int .i64 0, .slice none 0 0] 25)) w8.heap.size 25 [.int .i64 0, .int .i64 0, .int .i64 0, .slice none 0 0]).no kg0).no kg1); have q0 : wg1.cell? ⟨w8.heap.size, 0, none⟩ = some (.int .i64 0) := bz2.cell 0; have q1 : wg1.cell? ⟨w8.heap.size, 1, none⟩ = some (.int .i64 0) := bz2.cell 1; have q2 : wg1.cell? ⟨w8.heap.size, 2, none⟩ = some (.int .i64 0) := bz2.cell 2; have q3 : wg1.cell? ⟨w8.heap.size, 3, none⟩ = some (.slice none 0 0) := bz2.cell 3; have qf := bz2.frozen; go_simp)
        refine rg_use hK (sk _ (((((Kp.refl No w8).drew.alloc (.cells #[.int .i64 0, .int .i64 0, .int .i64 0, .slice none 0 0] 25)).trans kg0).trans kg1).then_ (((((Kp.refl (One w8.heap.size) wg1).set (.inl (One.self _)) 0 (.int .i64 0)).set (.inl (One.self _)) 1 (.int .i64 0)).set (.inl (One.self _)) 2 (.int .i64 0)).set (.inl (One.self _)) 3 (.slice Aa1 la1.length ca1)) fun j hj m => by have h1 : j = w8.heap.size := m; have h2 := (show w8.heap.size ≤ w8.heap.size from (Kp.refl No w8).drew.size); exact absurd hj (by omega))) (fun hF => ?_)
        clear hK K
        try simp only [Act.put, List.setIfInBounds_toArray, List.set_cons_zero, List.set_cons_succ]
        refine rg_take (i := 9) (v := ?vqx7x9) (by simp only [List.getElem?_toArray, List.getElem?_cons_succ, List.getElem?_cons_zero]; rfl) (by kernel_rfl) (by exact fun _ _ _ h => h) (by rfl) ?rqx7x9 hF ?sqx7x9
        case rqx7x9 => (intro W hW; clear hW; go_simp; try with_reducible rfl)
        try simp only [Act.put, List.setIfInBounds_toArray, List.set_cons_zero, List.set_cons_succ]
        refine rg_done (by kernel_rfl) ?_
        go_wp2
        go_meet
        exact ⟨w8.heap.size, Aa1, la1, ca1, rfl, rfl, ((((bz2.set_ 0 (.int .i64 0)).set_ 1 (.int .i64 0)).set_ 2 (.int .i64 0)).set_ 3 (.slice Aa1 la1.length ca1)), hl1, (OwnG.far (OwnG.mono ho1 (((Kp.refl No w8).drew.alloc (.cells #[.int .i64 0, .int .i64 0, .int .i64 0, .slice none 0 0] 25)).trans kg0).size) (((((Kp.refl (One w8.heap.size) wg1).set (.inl (One.self _)) 0 (.int .i64 0)).set (.inl (One.self _)) 1 (.int .i64 0)).set (.inl (One.self _)) 2 (.int .i64 0)).set (.inl (One.self _)) 3 (.slice Aa1 la1.length ca1)) bz2 (by decide) (by decide)), (((((Kp.refl No w8).drew.alloc (.cells #[.int .i64 0, .int .i64 0, .int .i64 0, .slice none 0 0] 25)).trans kg0).trans kg1).then_ (((((Kp.refl (One w8.heap.size) wg1).set (.inl (One.self _)) 0 (.int .i64 0)).set (.inl (One.self _)) 1 (.int .i64 0)).set (.inl (One.self _)) 2 (.int .i64 0)).set (.inl (One.self _)) 3 (.slice Aa1 la1.length ca1)) fun j hj m => by have h1 : j = w8.heap.size := m; have h2 := (show w8.heap.size ≤ w8.heap.size from (Kp.refl No w8).drew.size); exact absurd hj (by omega))⟩
    case rest =>
      obtain ⟨g9, A9, l9, c9, rfl, rfl, _, _, _, k9⟩ := hcut
      have HK9 := Lib.hid (HK8.out.trans k9)
      have HB3 := Lib.hid (HB38.out.no k9); have HB5 := Lib.hid (HB58.out.no k9); have HB8' := Lib.hid (HB8.out.no k9); have HO5 := Lib.hid (HO58.out.no k9); have HO8' := Lib.hid (HO8.out.no k9)
      clear k9 sk HK8 HB38 HB58 HO58 HB8 HO8
      go_wp2_with fail
      refine (grant_any wc).mono ?_
      rintro e w10 ⟨g10, rfl, hs10, k10⟩
      go_wp2_with fail
      refine (en_5 w10 _ hs10).mono ?_
      rintro e w11 ⟨v11, rfl, hx11, k11⟩
      obtain ⟨A11, c11, e11, _⟩ := own_len hx11
      replace e11 : v11 = .slice A11 10 c11 := e11
      subst e11
      have HX11 := Lib.hid hx11
      obtain ⟨w12, hw12⟩ : ∃ w12, w12 = w11.alloc (.cells #[.int .u8 6, .int .u8 5] 5) := ⟨_, rfl⟩
      have k12 : Kp No w11 w12 := by rw [hw12]; exact (Kp.refl No w11).alloc _
      have hbb12 : Bk w12 w11.heap.size 5 (u8s [6, 5]) := by rw [hw12]; exact Bk.new' rfl rfl
      have hb12 : ArgB w12 (.slice (some ⟨w11.heap.size, 0, none⟩) 2 2) [6, 5] := bk_argB' hbb12 (Nat.le_refl 2)
      have pd := de_6 w12 _ 2 hb12
      have HW12 := Lib.hid hw12
      have HK12 := Lib.hid ((k10.trans k11).trans k12); have HN12 := Lib.hid k12
      clear hw12 k12 hb12 k10 k11 hs10 hx11
      go_wp2_with fail
      rw [← HW12.out]
      refine pd.mono ?_
      rintro e w13 ⟨gv13, rv13, rfl, ⟨a1, a2, a3, rfl⟩, ⟨b1, b2, b3, rfl⟩, k13⟩
      have HK13 := Lib.hid (HK12.out.trans k13); have HX13 := Lib.hid ((HX11.out.no HN12.out).no k13)
      clear pd k13 HW12 HN12 HK12 HX11
      obtain ⟨v7, hl7⟩ := gsL_one HL7.out
      subst hl7
      obtain ⟨q, cap7, eq1, _, _, _⟩ := own_form HO8'.out.1 (by simp)
      injection eq1 with eq1 _ eq2
      subst eq1 eq2
      obtain ⟨w14, hw14⟩ : ∃ w14, w14 = w13.alloc (.cells #[.int .i64 6, .int .i64 0, .int .i64 0, .string ⟨#[]⟩, .int .i64 0, .slice a1 a2 a3, .int .i64 0, .int .i64 5, .slice b1 b2 b3, .int .i64 0, .int .i64 0, .int .i64 0] 32) := ⟨_, rfl⟩
      have k14 : Kp No wc w14 := by rw [hw14]; exact HK13.out.alloc _
      have HR14 := Lib.hid (show Bk w14 w13.heap.size 32 [.int .i64 6, .int .i64 0, .int .i64 0, .string ⟨#[]⟩, .int .i64 0, .slice a1 a2 a3, .int .i64 0, .int .i64 5, .slice b1 b2 b3, .int .i64 0, .int .i64 0, .int .i64 0] by rw [hw14]; exact Bk.new' rfl rfl)
      have HX14 := Lib.hid (show OwnB w14 w10.heap.size (.slice A11 10 c11) [4, 1, 2, 1, 97, 2, 172, 2, 1, 1] by rw [hw14]; exact HX13.out.alloc _)
      have HKF := Lib.hid (HK9.out.trans k14)
      have HB3 := Lib.hid (HB3.out.no k14); have HB5 := Lib.hid (HB5.out.no k14); have HB8' := Lib.hid (HB8'.out.no k14); have HO5 := Lib.hid (HO5.out.no k14); have HO8' := Lib.hid (HO8'.out.no k14)
      have HW14 := Lib.hid hw14
      clear hw14 k14 HX13 HK13 HK9
      go_upto_region 7 with (fail)
      rw [← HW14.out]
      clear HW14
      have c1 : w14.cell? ⟨w2.heap.size, 1, none⟩ = some (.int .i64 1) := HB3.out.cell 1
      have r0 : w14.cell? ⟨w13.heap.size, 0, none⟩ = some (.int .i64 6) := HR14.out.cell 0
      have r7 : w14.cell? ⟨w13.heap.size, 7, none⟩ = some (.int .i64 5) := HR14.out.cell 7
      have y0' : w14.cell? ⟨g5, 0, none⟩ = some (.int .i64 2) := HB5.out.cell 0
      have y1' : w14.cell? ⟨g5, 1, none⟩ = some (.int .i64 1) := HB5.out.cell 1
      have y2' : w14.cell? ⟨g5, 2, none⟩ = some (.int .i64 0) := HB5.out.cell 2
      have y3' : w14.cell? ⟨g5, 3, none⟩ = some (.slice A5 l5.length c5) := HB5.out.cell 3
      have z0' : w14.cell? ⟨w7.heap.size, 0, none⟩ = some (.int .i64 3) := HB8'.out.cell 0
      have z1' : w14.cell? ⟨w7.heap.size, 1, none⟩ = some (.int .i64 1) := HB8'.out.cell 1
      have z2' : w14.cell? ⟨w7.heap.size, 2, none⟩ = some (.int .i64 0) := HB8'.out.cell 2
      have z3' : w14.cell? ⟨w7.heap.size, 3, none⟩ = some (.slice (some ⟨q, 0, none⟩) 1 c7) := HB8'.out.cell 3
      obtain ⟨g', o', gid, hol, path, mode, st, term, B, d, eA, el, ha, _, _, _, _, _, x4, _⟩ := HO8'.out.arg.cells (show 0 < [(agD, v7)].length by simp)
      injection eA with eA
      injection eA with e1 e2 _
      subst e1 e2
      have el2 : agD = ⟨gid, hol, path, mode, st, term⟩ := (Prod.mk.inj el).1
      unfold agD at el2
      injection el2 with i1 i2 i3 i4 i5 i6
      subst i1 i2 i3 i4 i5 i6
      obtain ⟨gs, os, cs, eB, hx⟩ := ha.at_ (show 0 < [(2 : Int)].length by simp)
      injection eB with eB _ _
      subst eB
      have s0 : w14.cell? ⟨gs, os, none⟩ = some (.int .i64 2) := hx 0 2 rfl
      have x4 : w14.cell? ⟨q, 4, none⟩ = some (.slice (some ⟨gs, os, none⟩) 1 d) := x4
      have hcv := conv_any (own_argB HX14.out) (by simp)
      clear hx ha el
      have pv1 := bvalid_any 3 1 0 (.slice (some ⟨q, 0, none⟩) 1 c7) [(agD, v7)] w14 HO8'.out.arg (shL_own (.inr (.inr HL7.out)))
      rw [decide_eq_true (aw7 HL7.out)] at pv1
      go_wp2_with fail
      refine pv1.mono ?_
      rintro e w15 ⟨rfl, k15⟩
      clear pv1 c1 hcv s0 x4 y0' y1' y2' y3' z0' z1' z2' z3'
      have HB5 := Lib.hid (HB5.out.no k15); have HB8' := Lib.hid (HB8'.out.no k15); have HO5 := Lib.hid (HO5.out.no k15); have HO8' := Lib.hid (HO8'.out.no k15); have HKF := Lib.hid (HKF.out.trans k15)
      have pv2 := bvalid_any 0 0 0 (.slice none 0 0) [] w15 (ArgG.nil _ _ _) ⟨Nat.zero_le _, fun p hp => by cases hp⟩
      rw [decide_eq_false aw8] at pv2
      clear k15
      go_wp2_with fail
      refine pv2.mono ?_
      rintro e w16 ⟨rfl, k16⟩
      clear pv2
      have HB5 := Lib.hid (HB5.out.no k16); have HB8' := Lib.hid (HB8'.out.no k16); have HO5 := Lib.hid (HO5.out.no k16); have HO8' := Lib.hid (HO8'.out.no k16); have HKF := Lib.hid (HKF.out.trans k16)
      have y0' : w16.cell? ⟨g5, 0, none⟩ = some (.int .i64 2) := HB5.out.cell 0
      have y1' : w16.cell? ⟨g5, 1, none⟩ = some (.int .i64 1) := HB5.out.cell 1
      have y2' : w16.cell? ⟨g5, 2, none⟩ = some (.int .i64 0) := HB5.out.cell 2
      have y3' : w16.cell? ⟨g5, 3, none⟩ = some (.slice A5 l5.length c5) := HB5.out.cell 3
      have z0' : w16.cell? ⟨w7.heap.size, 0, none⟩ = some (.int .i64 3) := HB8'.out.cell 0
      have z1' : w16.cell? ⟨w7.heap.size, 1, none⟩ = some (.int .i64 1) := HB8'.out.cell 1
      have z2' : w16.cell? ⟨w7.heap.size, 2, none⟩ = some (.int .i64 0) := HB8'.out.cell 2
      have z3' : w16.cell? ⟨w7.heap.size, 3, none⟩ = some (.slice (some ⟨q, 0, none⟩) 1 c7) := HB8'.out.cell 3
      have ps := sameB_any 2 1 0 3 1 0 (.slice A5 l5.length c5) (.slice (some ⟨q, 0, none⟩) 1 c7) l5 [(agD, v7)] w16 HO5.out.arg HO8'.out.arg (shL_own (.inr (.inl HL5.out))) (shL_own (.inr (.inr HL7.out)))
      rw [decide_eq_false (aw9 HL5.out HL7.out)] at ps
      clear k16
      go_wp2_with fail
      refine ps.mono ?_
      rintro e w17 ⟨rfl, k17⟩
      clear ps y0' y1' y2' y3' z0' z1' z2' z3'
      have HB5 := Lib.hid (HB5.out.no k17); have HB8' := Lib.hid (HB8'.out.no k17); have HO5 := Lib.hid (HO5.out.no k17); have HO8' := Lib.hid (HO8'.out.no k17); have HKF := Lib.hid (HKF.out.trans k17)
      have y0' : w17.cell? ⟨g5, 0, none⟩ = some (.int .i64 2) := HB5.out.cell 0
      have y1' : w17.cell? ⟨g5, 1, none⟩ = some (.int .i64 1) := HB5.out.cell 1
      have y2' : w17.cell? ⟨g5, 2, none⟩ = some (.int .i64 0) := HB5.out.cell 2
      have y3' : w17.cell? ⟨g5, 3, none⟩ = some (.slice A5 l5.length c5) := HB5.out.cell 3
      have z0' : w17.cell? ⟨w7.heap.size, 0, none⟩ = some (.int .i64 3) := HB8'.out.cell 0
      have z1' : w17.cell? ⟨w7.heap.size, 1, none⟩ = some (.int .i64 1) := HB8'.out.cell 1
      have z2' : w17.cell? ⟨w7.heap.size, 2, none⟩ = some (.int .i64 0) := HB8'.out.cell 2
      have z3' : w17.cell? ⟨w7.heap.size, 3, none⟩ = some (.slice (some ⟨q, 0, none⟩) 1 c7) := HB8'.out.cell 3
      have pdp := dump_any 3 1 0 (.slice (some ⟨q, 0, none⟩) 1 c7) [(agD, v7)] w17 HO8'.out.arg (shL_own (.inr (.inr HL7.out)))
      clear k17
      go_wp2_with fail
      refine pdp.mono ?_
      rintro e w18 ⟨sv, rl, rfl, hrl, hor, k18⟩
      have hlen : rl.length = 2 := by
        have := congrArg List.length hrl
        rw [List.length_map] at this
        rw [this, aw10 HL7.out]
      obtain ⟨A18, c18, e18, _⟩ := own_len hor.1
      rw [hlen] at e18
      subst e18
      have HKE := Lib.hid (HKF.out.trans k18)
      clear pdp hrl hor k18 hlen y0' y1' y2' y3' z0' z1' z2' z3'
      go_wp2
      go_ret
      exact ⟨rfl, HKE.out⟩
end Go.Proofs.Ytifdceofglocdaa
