/- DiskOwn returns true for every number and byte: bytes that are handed in stay and are not kept, sectors that are answered share no memory, and a nil disk does nothing. No condition. -/
import Derived.Test.YtaohaofjbgghgaaKx
import Derived.Test.YtaohaofjbgghgaaR5
import Derived.Test.YtaohaofjbgghgaaO
import Derived.Deep.Cut
import Derived.Deep.CutRange
import Derived.Deep.DeepCutAuto
import Derived.IntWalk
import Derived.ProofKit
import Derived.OpenShut
import Derived.ShutString
import Derived.ChangeOld
import Derived.SizedLaws
import Derived.Below
namespace Go.Proofs.Ytaohaofjbgghgaa.diskOwn
open Go.ChangeShapes Go.WideShapes Go.ChangeAt Go.RowKit
open Go.ChangeMaps (open_string shut_string)

theorem own : ownKnob Try.prog.godebug = none := by kernel_rfl
theorem laidOut : laidOutB Try.prog = true := by kernel_rfl

theorem tmod3 (i : Int) : -3 < i.tmod 3 ∧ i.tmod 3 < 3 := by
  rcases Int.le_total 0 i with h | h
  · rw [Int.tmod_eq_emod_of_nonneg h]; omega
  · have e : i = -(-i) := by omega
    rw [e, Int.neg_tmod, Int.tmod_eq_emod_of_nonneg (by omega)]; omega
theorem slice_to64 (g n c : Nat) (h1 : 64 ≤ c) (W : World) : (Instr.slice 33 (.slice (some ⟨g, 0, none⟩) n c) none (some (.int .i64 64)) none).run Try.prog W = .ok (.slice (some ⟨g, 0, none⟩) 64 c) W := by
  rw [run_slice_h (P := Try.prog) W 33 (some ⟨g, 0, none⟩) n c Try.underlying33 .i64 (64 : Int) (by omega) (by omega)]
  have hs : (sizeOf (Try.prog.elem 33)).run Try.prog W = .ok 1 W := by kernel_rfl
  rw [hs]
  simp [Result.andThen, sliced, show ¬ c = 0 by omega, Addr.add]
theorem cs_newK {w : World} {g : Nat} {t : TypeId} {xs : List Value} {C : Array Value} (hg : g = w.heap.size) (hC : C = xs.toArray) : Cs (w.alloc (.cells C t)) (some ⟨g, 0, none⟩) xs := fun _ => ⟨g, 0, rfl, fun j v hv => by
  rw [(Bk.new' hg hC : Bk _ g t xs).cell, Nat.zero_add]; exact hv⟩
/-- the head of an own row of bytes -/
theorem own_head {w : World} {B g n c : Nat} {l : List UInt8} (h : w.ownsRow B 5 1 (.slice (some ⟨g, 0, none⟩) n c) n (u8s l)) (k : Nat) (hk : k ≤ l.length) : ArgBytes w (.slice (some ⟨g, 0, none⟩) k c) (l.take k) := by
  refine ⟨_, c, by rw [List.length_take, Nat.min_eq_left hk], fun _ => ⟨g, 0, rfl, fun j v hv => ?_⟩⟩
  have hj : j < k := by
    have := (List.getElem?_eq_some_iff.1 hv).1
    simp [u8s] at this; omega
  have e : (u8s (l.take k))[j]? = (u8s l)[j]? := by
    simp only [u8s, List.getElem?_map, List.getElem?_take, if_pos hj]
  rw [e] at hv
  have := World.ownsRow.cells h (g := g) rfl j v hv
  rwa [Addr.add_mid] at this
set_option maxRecDepth 100000 in
set_option maxHeartbeats 8000000 in
theorem walk (i : Int) (f : UInt8) (w : World) (hi : -9223372036854775808 ≤ i ∧ i ≤ 9223372036854775807) :
    Calls Try.prog 7 #[.int .i64 i, .int .u8 (f.toNat : Int)] w fun e w' => e = .returned (.bool true) ∧ Below w.heap.size w w' := by
  obtain ⟨S, hS, hSl⟩ : ∃ S, fillB f 64 = S ∧ S.length = 64 := ⟨_, rfl, fillB_len _ _⟩
  have pf : ∀ W, Calls Try.prog 20 #[.int .u8 (f.toNat : Int), .int .i64 64] W fun e w' => ∃ g, e = .returned (.slice (some ⟨g, 0, none⟩) 64 64) ∧ Bk w' g 5 (u8s S) ∧ W.heap.size ≤ g ∧ Kp No W w' := fun W => by
    have := filled64 f _ rfl W
    rw [hS] at this; exact this
  clear hS
  have PF := Lib.hid pf; clear pf
  have HSL := Lib.hid hSl; clear hSl
  obtain ⟨r, hr, hr1, hr2⟩ : ∃ r, i.tmod 3 = r ∧ -3 < r ∧ r < 3 := ⟨_, rfl, (tmod3 i).1, (tmod3 i).2⟩
  obtain ⟨j, hj, hj3⟩ : ∃ j : Nat, (r + 3).tmod 3 = (j : Int) ∧ j < 3 := ⟨((r + 3).tmod 3).toNat, by rw [Int.tmod_eq_emod_of_nonneg (by omega)]; omega, by rw [Int.tmod_eq_emod_of_nonneg (by omega)]; omega⟩
  have hj1 : (j : Int) < 3 := by omega
  have hj0 : (0 : Int) ≤ (j : Int) := by omega
  obtain ⟨c, hc⟩ : ∃ c : Int, (f.toNat : Int) = c := ⟨_, rfl⟩
  have hcb : 0 ≤ c ∧ c < 256 := by have := f.toNat_lt; omega
  rw [hc] at PF ⊢
  clear hc
  go_enter Try.func7, Try.ntmps7
  go_wp2_with fail
  refine (awake_any _).mono ?_
  rintro e w1 ⟨rfl, k⟩
  have K1 := Lib.hid k; clear k
  go_wp2_with fail
  refine (PF.out _).mono ?_
  rintro e w2 ⟨g2, rfl, hb2, hg2, k2⟩
  have K2 := Lib.hid k2; clear k2
  have HO2 := Lib.hid (show (w2.alloc (.cells #[.int .u8 91, .int .u8 92] 5)).ownsRow w1.heap.size 5 1 (.slice (some ⟨g2, 0, none⟩) 64 64) 64 (u8s S) from by
    have hb := hb2.no ((Kp.refl No w2).alloc (.cells #[.int .u8 91, .int .u8 92] 5))
    exact ⟨by rw [u8s_length, HSL.out], .inr ⟨g2, 64, (u8s S).toArray, rfl, hg2, hb, by omega, by unfold maxLen; omega, by simp [u8s_length, HSL.out], by rw [List.take_of_length_le (by simp [u8s_length, HSL.out])]⟩⟩)
  have hsz : w1.heap.size ≤ (w2.alloc (.cells #[.int .u8 91, .int .u8 92] 5)).heap.size := Nat.le_trans K2.out.size ((Kp.refl No w2).alloc _).size
  clear hb2 hg2
  go_upto_region 5 with (at_builtin; refine wpList_appN _ rfl _ _ 33 rfl w1.heap.size 5 _ 1 Try.underlying33 Try.info5 rfl g2 64 64 (u8s S) rfl HO2.out (some ⟨w2.heap.size, 0, none⟩) 2 2 [.int .u8 91, .int .u8 92] rfl rfl (cs_newK rfl rfl) (by intro u hu; cases hu with | head => rfl | tail _ h => (cases h with | head => rfl | tail _ h => cases h)) (by omega) (by omega) hsz ?_; intro gf cf w3 o3 k3 n3)
  have K3 := Lib.hid (show Kp No w1 w3 from (K2.out.alloc _).then_ k3 (fun i hi e => by have e : i = g2 := e; have := (World.ownsRow.lt HO2.out g2 rfl).1; omega))
  have HO3 := Lib.hid (show w3.ownsRow w1.heap.size 5 1 (.slice (some ⟨gf, 0, none⟩) 66 cf) 66 (u8s (S ++ [91, 92])) by rw [u8s_append]; exact o3)
  have hcf : 66 ≤ cf := (by obtain ⟨_, _, e, h⟩ := own_lenK HO3.out; injection e with _ _ e; omega)
  clear o3 k3 n3 hsz
  have hsl := slice_to64 gf 66 cf (by omega)
  have HS3 := Lib.hid (show ArgBytes w3 (.slice (some ⟨gf, 0, none⟩) 64 cf) S by
    have h := own_head HO3.out 64 (by rw [List.length_append, HSL.out]; omega)
    rwa [List.take_left' HSL.out] at h)
  have HGF := Lib.hid (World.ownsRow.lt HO3.out gf rfl)
  obtain ⟨sl, hsl2⟩ : ∃ sl, Value.slice (some ⟨gf, 0, none⟩) 64 cf = sl := ⟨_, rfl⟩
  have hr3 : ArgRows (w3.alloc (.cells #[.slice (some ⟨gf, 0, none⟩) 64 cf, .slice (some ⟨gf, 0, none⟩) 64 cf, .slice (some ⟨gf, 0, none⟩) 64 cf] 33)) (.slice (some ⟨w3.heap.size, 0, none⟩) 3 3) [S, S, S] := by
    have ha := HS3.out.no ((Kp.refl No w3).alloc (.cells #[.slice (some ⟨gf, 0, none⟩) 64 cf, .slice (some ⟨gf, 0, none⟩) 64 cf, .slice (some ⟨gf, 0, none⟩) 64 cf] 33))
    rw [hsl2] at ha ⊢
    refine ⟨_, 3, [sl, sl, sl], rfl, rfl, cs_newK rfl rfl, fun i hi => ?_⟩
    match i, hi with
    | 0, _ => exact ⟨sl, rfl, ha⟩
    | 1, _ => exact ⟨sl, rfl, ha⟩
    | 2, _ => exact ⟨sl, rfl, ha⟩
    | n + 3, hi => simp at hi; omega
  have HR3 := Lib.hid hr3
  clear hr3 hsl2 sl
  go_wp2_with fail
  refine (from_any _ [S, S, S] _ HR3.out (by simp) (by simp)).mono ?_
  rintro e w4 ⟨k4, _, hg⟩
  obtain ⟨bx, sx, cx, rfl, hbx, hsx, dx⟩ := hg (by intro l hl; simp at hl; rw [hl]; exact HSL.out)
  have DX := Lib.hid dx; have K14 := Lib.hid (show Kp No w1 w4 from (K3.out.alloc _).trans k4); have HBX := Lib.hid (show w3.heap.size < bx ∧ w3.heap.size < sx by simp at hbx hsx; omega); have K34 := Lib.hid (show Kp No w3 w4 from ((Kp.refl No w3).alloc _).trans k4)
  clear hg dx k4 hbx hsx HR3
  go_wp2_with fail
  refine (new_all 3 (by omega) (by omega) _).mono ?_
  rintro e w5 ⟨b2, s2, rfl, dy, hb2, hs2, k5⟩
  have DY := Lib.hid (show DkS w5 b2 s2 3 ⟨List.replicate 3 zeroB, 0, false, 0, false⟩ from dy); have HB2 := Lib.hid (show w4.heap.size ≤ b2 ∧ w4.heap.size ≤ s2 from ⟨hb2, hs2⟩)
  have DX5 := Lib.hid (DX.out.no k5); have K15 := Lib.hid (K14.out.trans k5); have HS5 := Lib.hid (HS3.out.no (K34.out.trans k5)); have HO5 := Lib.hid (show w5.ownsRow w1.heap.size 5 1 (.slice (some ⟨gf, 0, none⟩) 66 cf) 66 (u8s (S ++ [91, 92])) from own_kp HO3.out (K34.out.trans k5) (fun _ _ m => m))
  have HXL := Lib.hid (show bx < w4.heap.size ∧ sx < w4.heap.size from ⟨DX.out.st.lt, DX.out.se.elim fun _ h => h.lt⟩)
  have HW35 := Lib.hid (show w3.heap.size ≤ w4.heap.size from K34.out.size)
  clear dy hb2 hs2 k5 DX K14 K34 HS3 HO3
  have hf1 := HGF.out; have hx1 := HBX.out; have hx2 := HXL.out; have hy1 := HB2.out; have hw35 := HW35.out
  have HNE := Lib.hid (show gf ≠ bx ∧ gf ≠ sx ∧ gf ≠ b2 ∧ gf ≠ s2 ∧ bx ≠ b2 ∧ bx ≠ s2 ∧ sx ≠ b2 ∧ sx ≠ s2 by omega)
  clear hf1 hx1 hx2 hy1 hw35
  have PX := Lib.hid (fun (W : World) (k : Kp No w5 W) => (show Calls Try.prog 19 #[.pointer (some ⟨bx, 0, none⟩), .int .i64 (j : Int), .slice (some ⟨gf, 0, none⟩) 64 cf] W fun e w' => e = .returned (.int .i64 0) ∧ DkS w' bx sx cx ⟨[S, S, S].set j S, 0 + 1, false, 0, false⟩ ∧ Kp (Two bx sx) w5 w' from by
    have c := write_all bx sx cx (j : Int) (.slice (some ⟨gf, 0, none⟩) 64 cf) S W ⟨[S, S, S], 0, false, 0, false⟩ (DX5.out.no k) (free_ok _ _ (by omega)) (by show (0 : Int) < _; omega) (HS5.out.no k) (fun g o c e => by
      injection e with e _ _
      injection e with e
      injection e with e _ _
      subst e
      exact ⟨HNE.out.2.1, HNE.out.1⟩)
    rw [(free_write (j := j) (by simpa using hj3) HSL.out).1, (free_write (j := j) (by simpa using hj3) HSL.out).2] at c
    exact c.mono fun e w' ⟨h1, h2, h3⟩ => ⟨h1, h2, k.of_no.trans h3⟩))
  have hst : ∀ W, Kp (Two bx sx) w5 W → ArgBytes W (.slice (some ⟨gf, 0, none⟩) 64 cf) S ∧ W.ownsRow w1.heap.size 5 1 (.slice (some ⟨gf, 0, none⟩) 66 cf) 66 (u8s (S ++ [91, 92])) ∧ DkS W b2 s2 3 ⟨List.replicate 3 zeroB, 0, false, 0, false⟩ := fun W k => by
    have ho := own_kp HO5.out k (fun g hg m => by
      have e : gf = g := by simpa [Value.ownBlock] using hg
      rcases m with m | m
      · exact HNE.out.1 (e.trans m)
      · exact HNE.out.2.1 (e.trans m))
    refine ⟨?_, ho, DY.out.far2 k (fun m => ?_) (fun m => ?_)⟩
    · have h := own_head ho 64 (by rw [List.length_append, HSL.out]; omega)
      rwa [List.take_left' HSL.out] at h
    · rcases m with m | m
      · exact HNE.out.2.2.2.2.1 m.symm
      · exact HNE.out.2.2.2.2.2.2.1 m.symm
    · rcases m with m | m
      · exact HNE.out.2.2.2.2.2.1 m.symm
      · exact HNE.out.2.2.2.2.2.2.2 m.symm
  have HST := Lib.hid hst; clear hst
  have PY := Lib.hid (fun (W : World) (k : Kp (Two bx sx) w5 W) => (show Calls Try.prog 19 #[.pointer (some ⟨b2, 0, none⟩), .int .i64 (j : Int), .slice (some ⟨gf, 0, none⟩) 64 cf] W fun e w' => e = .returned (.int .i64 0) ∧ DkS w' b2 s2 3 ⟨(List.replicate 3 zeroB).set j S, 0 + 1, false, 0, false⟩ ∧ Kp (Two b2 s2) W w' from by
    have c := write_all b2 s2 3 (j : Int) (.slice (some ⟨gf, 0, none⟩) 64 cf) S W ⟨List.replicate 3 zeroB, 0, false, 0, false⟩ (HST.out W k).2.2 (free_ok _ _ (by omega)) (by decide) (HST.out W k).1 (fun g o c e => by
      injection e with e _ _
      injection e with e
      injection e with e _ _
      subst e
      exact ⟨HNE.out.2.2.2.1, HNE.out.2.2.1⟩)
    rw [(free_write (j := j) (by simpa using hj3) HSL.out).1, (free_write (j := j) (by simpa using hj3) HSL.out).2] at c
    exact c))
  obtain ⟨z, hz⟩ : ∃ z : ByteArray, (⟨(S ++ [91, 92]).toArray⟩ : ByteArray) = z := ⟨_, rfl⟩
  obtain ⟨z0, hz0⟩ : ∃ z : ByteArray, (⟨S.toArray⟩ : ByteArray) = z := ⟨_, rfl⟩
  have HZZ := Lib.hid (show z0 ++ ⟨#[91, 92]⟩ = z by rw [← hz, ← hz0]; exact str_injK (by simp))
  have HZS := Lib.hid (show z0.size = 64 by rw [← hz0]; exact HSL.out)
  have HZC := Lib.hid (show ∀ W, Kp (Two bx sx) w5 W ∨ (∃ W1, Kp (Two bx sx) w5 W1 ∧ Kp (Two b2 s2) W1 W) → (convert 33 9 (.slice (some ⟨gf, 0, none⟩) 66 cf)).run Try.prog W = .ok (.string z) W ∧ W.ownsRow w1.heap.size 5 1 (.slice (some ⟨gf, 0, none⟩) 66 cf) 66 (u8s (S ++ [91, 92])) from fun W h => by
    have ho : W.ownsRow w1.heap.size 5 1 (.slice (some ⟨gf, 0, none⟩) 66 cf) 66 (u8s (S ++ [91, 92])) := by
      rcases h with h | ⟨W1, h1, h2⟩
      · exact (HST.out W h).2.1
      · exact own_kp (HST.out W1 h1).2.1 h2 (fun g hg m => by
          have e : gf = g := by simpa [Value.ownBlock] using hg
          rcases m with m | m
          · exact HNE.out.2.2.1 (e.trans m)
          · exact HNE.out.2.2.2.1 (e.trans m))
    have ha := own_head ho 66 (by rw [List.length_append, HSL.out]; decide)
    rw [List.take_of_length_le (by rw [List.length_append, HSL.out]; decide)] at ha
    have hs := ha.str (P := Try.prog) 33 5 9 Try.underlying33 Try.underlying5 Try.underlying9
    rw [hz] at hs
    exact ⟨hs, ho⟩)
  have HZ0 := Lib.hid hz0
  clear hz hz0
  go_wp2
  have hcat := HZZ.out
  have hzl : ¬ 9223372036854775807 < z0.size + 2 := by rw [HZS.out]; omega
  have hF := (HZC.out w5.drew (.inl (Kp.refl _ _).drew)).1
  refine rg_begin (fun W => (convert 33 9 (.slice (some ⟨gf, 0, none⟩) 66 cf)).run Try.prog W = .ok (.string z) W) 29 (by kernel_rfl) ?_
  refine rg_take (i := 0) (v := ?va0) (by simp only [List.getElem?_toArray, List.getElem?_cons_zero]; rfl) (by kernel_rfl) (by exact fun _ _ _ h => h) (by rfl) ?ra0 hF ?sa0
  case ra0 => (intro W hW; clear hW; go_simp; try with_reducible rfl)
  try simp only [Act.put, List.setIfInBounds_toArray, List.set_cons_zero, List.set_cons_succ]
  refine rg_take (i := 1) (v := ?va1) (by simp only [List.getElem?_toArray, List.getElem?_cons_succ, List.getElem?_cons_zero]; rfl) (by kernel_rfl) (by exact fun _ _ _ h => h) (by rfl) ?ra1 hF ?sa1
  case ra1 => (intro W hW; clear hW; go_simp; try with_reducible rfl)
  try simp only [Act.put, List.setIfInBounds_toArray, List.set_cons_zero, List.set_cons_succ]
  refine rg_take (i := 2) (v := ?va2) (by simp only [List.getElem?_toArray, List.getElem?_cons_succ, List.getElem?_cons_zero]; rfl) (by kernel_rfl) (by exact fun _ _ _ h => h) (by rfl) ?ra2 hF ?sa2
  case ra2 => (intro W hW; clear hW; go_simp; try with_reducible rfl)
  try simp only [Act.put, List.setIfInBounds_toArray, List.set_cons_zero, List.set_cons_succ]
  refine rg_take (i := 3) (v := ?va3) (by simp only [List.getElem?_toArray, List.getElem?_cons_succ, List.getElem?_cons_zero]; rfl) (by kernel_rfl) (by exact fun _ _ _ h => h) (by rfl) ?ra3 hF ?sa3
  case ra3 => (intro W hW; clear hW; go_simp; try with_reducible rfl)
  try simp only [Act.put, List.setIfInBounds_toArray, List.set_cons_zero, List.set_cons_succ]
  refine rg_take (i := 4) (v := ?va4) (by simp only [List.getElem?_toArray, List.getElem?_cons_succ, List.getElem?_cons_zero]; rfl) (by kernel_rfl) (by exact fun _ _ _ h => h) (by rfl) ?ra4 hF ?sa4
  case ra4 => (intro W hW; clear hW; go_simp; try with_reducible rfl)
  try simp only [Act.put, List.setIfInBounds_toArray, List.set_cons_zero, List.set_cons_succ]
  refine rg_take (i := 5) (v := ?va5) (by simp only [List.getElem?_toArray, List.getElem?_cons_succ, List.getElem?_cons_zero]; rfl) (by kernel_rfl) (by exact fun _ _ _ h => h) (by rfl) ?ra5 hF ?sa5
  case ra5 => (intro W hW; clear hW; go_simp; try with_reducible rfl)
  try simp only [Act.put, List.setIfInBounds_toArray, List.set_cons_zero, List.set_cons_succ]
  refine rg_take (i := 6) (v := ?va6) (by simp only [List.getElem?_toArray, List.getElem?_cons_succ, List.getElem?_cons_zero]; rfl) (by kernel_rfl) (by exact fun _ _ _ h => h) (by rfl) ?ra6 hF ?sa6
  case ra6 => (intro W hW; clear hW; go_simp; try with_reducible rfl)
  try simp only [Act.put, List.setIfInBounds_toArray, List.set_cons_zero, List.set_cons_succ]
  refine rg_take (i := 7) (v := ?va7) (by simp only [List.getElem?_toArray, List.getElem?_cons_succ, List.getElem?_cons_zero]; rfl) (by kernel_rfl) (by exact fun _ _ _ h => h) (by rfl) ?ra7 hF ?sa7
  case ra7 => (intro W hW; clear hW; go_simp; try with_reducible rfl)
  try simp only [Act.put, List.setIfInBounds_toArray, List.set_cons_zero, List.set_cons_succ]
  refine rg_take (i := 8) (v := ?va8) (by simp only [List.getElem?_toArray, List.getElem?_cons_succ, List.getElem?_cons_zero]; rfl) (by kernel_rfl) (by exact fun _ _ _ h => h) (by rfl) ?ra8 hF ?sa8
  case ra8 => (intro W hW; clear hW; go_simp; try with_reducible rfl)
  try simp only [Act.put, List.setIfInBounds_toArray, List.set_cons_zero, List.set_cons_succ]
  refine rg_take (i := 9) (v := ?va9) (by simp only [List.getElem?_toArray, List.getElem?_cons_succ, List.getElem?_cons_zero]; rfl) (by kernel_rfl) (by exact fun _ _ _ h => h) (by rfl) ?ra9 hF ?sa9
  case ra9 => (intro W hW; clear hW; go_simp; try with_reducible rfl)
  try simp only [Act.put, List.setIfInBounds_toArray, List.set_cons_zero, List.set_cons_succ]
  refine rg_one (i := 10) (oi := ?oa10) ?aa10 ?ba10 ?ca10 ?da10
  case aa10 => (simp only [List.getElem?_toArray, List.getElem?_cons_succ, List.getElem?_cons_zero]; rfl)
  case ba10 => kernel_rfl
  case ca10 => rfl
  intro K hK
  (go_simp; refine (PX.out _ (Kp.refl No w5).drew).mono ?_; rintro e w6 ⟨rfl, d6, k6⟩)
  refine rg_use hK ((HZC.out _ (.inl k6)).1) (fun hF => ?_)
  clear hK K
  try simp only [Act.put, List.setIfInBounds_toArray, List.set_cons_zero, List.set_cons_succ]
  refine rg_take (i := 11) (v := ?va11) (by simp only [List.getElem?_toArray, List.getElem?_cons_succ, List.getElem?_cons_zero]; rfl) (by kernel_rfl) (by exact fun _ _ _ h => h) (by rfl) ?ra11 hF ?sa11
  case ra11 => (intro W hW; clear hW; go_simp; try with_reducible rfl)
  try simp only [Act.put, List.setIfInBounds_toArray, List.set_cons_zero, List.set_cons_succ]
  refine rg_take (i := 12) (v := ?va12) (by simp only [List.getElem?_toArray, List.getElem?_cons_succ, List.getElem?_cons_zero]; rfl) (by kernel_rfl) (by exact fun _ _ _ h => h) (by rfl) ?ra12 hF ?sa12
  case ra12 => (intro W hW; clear hW; go_simp; try with_reducible rfl)
  try simp only [Act.put, List.setIfInBounds_toArray, List.set_cons_zero, List.set_cons_succ]
  refine rg_take (i := 13) (v := ?va13) (by simp only [List.getElem?_toArray, List.getElem?_cons_succ, List.getElem?_cons_zero]; rfl) (by kernel_rfl) (by exact fun _ _ _ h => h) (by rfl) ?ra13 hF ?sa13
  case ra13 => (intro W hW; clear hW; go_simp; try with_reducible rfl)
  try simp only [Act.put, List.setIfInBounds_toArray, List.set_cons_zero, List.set_cons_succ]
  refine rg_take (i := 14) (v := ?va14) (by simp only [List.getElem?_toArray, List.getElem?_cons_succ, List.getElem?_cons_zero]; rfl) (by kernel_rfl) (by exact fun _ _ _ h => h) (by rfl) ?ra14 hF ?sa14
  case ra14 => (intro W hW; clear hW; go_simp; try with_reducible rfl)
  try simp only [Act.put, List.setIfInBounds_toArray, List.set_cons_zero, List.set_cons_succ]
  refine rg_take (i := 15) (v := ?va15) (by simp only [List.getElem?_toArray, List.getElem?_cons_succ, List.getElem?_cons_zero]; rfl) (by kernel_rfl) (by exact fun _ _ _ h => h) (by rfl) ?ra15 hF ?sa15
  case ra15 => (intro W hW; clear hW; go_simp; try with_reducible rfl)
  try simp only [Act.put, List.setIfInBounds_toArray, List.set_cons_zero, List.set_cons_succ]
  refine rg_take (i := 16) (v := ?va16) (by simp only [List.getElem?_toArray, List.getElem?_cons_succ, List.getElem?_cons_zero]; rfl) (by kernel_rfl) (by exact fun _ _ _ h => h) (by rfl) ?ra16 hF ?sa16
  case ra16 => (intro W hW; clear hW; go_simp; try with_reducible rfl)
  try simp only [Act.put, List.setIfInBounds_toArray, List.set_cons_zero, List.set_cons_succ]
  refine rg_one (i := 17) (oi := ?oa17) ?aa17 ?ba17 ?ca17 ?da17
  case aa17 => (simp only [List.getElem?_toArray, List.getElem?_cons_succ, List.getElem?_cons_zero]; rfl)
  case ba17 => kernel_rfl
  case ca17 => rfl
  intro K hK
  (go_simp; refine (PY.out _ k6).mono ?_; rintro e w7 ⟨rfl, d7, k7⟩)
  refine rg_use hK ((HZC.out _ (.inr ⟨_, k6, k7⟩)).1) (fun hF => ?_)
  clear hK K
  try simp only [Act.put, List.setIfInBounds_toArray, List.set_cons_zero, List.set_cons_succ]
  refine rg_take (i := 18) (v := ?va18) (by simp only [List.getElem?_toArray, List.getElem?_cons_succ, List.getElem?_cons_zero]; rfl) (by kernel_rfl) (by exact fun _ _ _ h => h) (by rfl) ?ra18 hF ?sa18
  case ra18 => (intro W hW; clear hW; go_simp; try with_reducible rfl)
  try simp only [Act.put, List.setIfInBounds_toArray, List.set_cons_zero, List.set_cons_succ]
  refine rg_take (i := 19) (v := ?va19) (by simp only [List.getElem?_toArray, List.getElem?_cons_succ, List.getElem?_cons_zero]; rfl) (by kernel_rfl) (by exact fun _ _ _ h => h) (by rfl) ?ra19 hF ?sa19
  case ra19 => (intro W hW; clear hW; go_simp; try with_reducible rfl)
  try simp only [Act.put, List.setIfInBounds_toArray, List.set_cons_zero, List.set_cons_succ]
  refine rg_take (i := 20) (v := ?va20) (by simp only [List.getElem?_toArray, List.getElem?_cons_succ, List.getElem?_cons_zero]; rfl) (by kernel_rfl) (by exact fun _ _ _ h => h) (by rfl) ?ra20 hF ?sa20
  case ra20 => (intro W hW; clear hW; go_simp; try with_reducible rfl)
  try simp only [Act.put, List.setIfInBounds_toArray, List.set_cons_zero, List.set_cons_succ]
  refine rg_take (i := 21) (v := ?va21) (by simp only [List.getElem?_toArray, List.getElem?_cons_succ, List.getElem?_cons_zero]; rfl) (by kernel_rfl) (by exact fun _ _ _ h => h) (by rfl) ?ra21 hF ?sa21
  case ra21 => (intro W hW; clear hW; go_simp; try with_reducible rfl)
  try simp only [Act.put, List.setIfInBounds_toArray, List.set_cons_zero, List.set_cons_succ]
  refine rg_take (i := 22) (v := ?va22) (by simp only [List.getElem?_toArray, List.getElem?_cons_succ, List.getElem?_cons_zero]; rfl) (by kernel_rfl) (by exact fun _ _ _ h => h) (by rfl) ?ra22 hF ?sa22
  case ra22 => (intro W hW; (try dsimp only at hW); go_simp; try with_reducible rfl)
  try simp only [Act.put, List.setIfInBounds_toArray, List.set_cons_zero, List.set_cons_succ]
  refine rg_take (i := 23) (v := ?va23) (by simp only [List.getElem?_toArray, List.getElem?_cons_succ, List.getElem?_cons_zero]; rfl) (by kernel_rfl) (by exact fun _ _ _ h => h) (by rfl) ?ra23 hF ?sa23
  case ra23 => (intro W hW; clear hW; go_simp; try with_reducible rfl)
  try simp only [Act.put, List.setIfInBounds_toArray, List.set_cons_zero, List.set_cons_succ]
  refine rg_one (i := 24) (oi := ?oa24) ?aa24 ?ba24 ?ca24 ?da24
  case aa24 => (simp only [List.getElem?_toArray, List.getElem?_cons_succ, List.getElem?_cons_zero]; rfl)
  case ba24 => kernel_rfl
  case ca24 => rfl
  intro K hK
  (go_simp; refine (PF.out _).mono ?_; rintro e w8 ⟨g8, rfl, hb8, hg8, k8⟩)
  have s8 := (hb8.arg64 HSL.out).str (P := Try.prog) 33 5 9 Try.underlying33 Try.underlying5 Try.underlying9
  rw [HZ0.out] at s8
  refine rg_use hK ((HZC.out _ (.inr ⟨_, k6, k7.trans k8.of_no⟩)).1) (fun hF => ?_)
  clear hK K
  try simp only [Act.put, List.setIfInBounds_toArray, List.set_cons_zero, List.set_cons_succ]
  refine rg_one (i := 25) (oi := ?oa25) ?aa25 ?ba25 ?ca25 ?da25
  case aa25 => (simp only [List.getElem?_toArray, List.getElem?_cons_succ, List.getElem?_cons_zero]; rfl)
  case ba25 => kernel_rfl
  case ca25 => rfl
  intro K hK
  go_simp
  refine rg_use hK hF (fun hF => ?_)
  clear hK K
  try simp only [Act.put, List.setIfInBounds_toArray, List.set_cons_zero, List.set_cons_succ]
  refine rg_take (i := 26) (v := ?va26) (by simp only [List.getElem?_toArray, List.getElem?_cons_succ, List.getElem?_cons_zero]; rfl) (by kernel_rfl) (by exact fun _ _ _ h => h) (by rfl) ?ra26 hF ?sa26
  case ra26 => (intro W hW; clear hW; go_simp; try with_reducible rfl)
  try simp only [Act.put, List.setIfInBounds_toArray, List.set_cons_zero, List.set_cons_succ]
  refine rg_take (i := 27) (v := ?va27) (by simp only [List.getElem?_toArray, List.getElem?_cons_succ, List.getElem?_cons_zero]; rfl) (by kernel_rfl) (by exact fun _ _ _ h => h) (by rfl) ?ra27 hF ?sa27
  case ra27 => (intro W hW; clear hW; go_simp; try with_reducible rfl)
  try simp only [Act.put, List.setIfInBounds_toArray, List.set_cons_zero, List.set_cons_succ]
  refine rg_take (i := 28) (v := ?va28) (by simp only [List.getElem?_toArray, List.getElem?_cons_succ, List.getElem?_cons_zero]; rfl) (by kernel_rfl) (by exact fun _ _ _ h => h) (by rfl) ?ra28 hF ?sa28
  case ra28 => (intro W hW; clear hW; go_simp; try with_reducible rfl)
  try simp only [Act.put, List.setIfInBounds_toArray, List.set_cons_zero, List.set_cons_succ]
  refine rg_done (by kernel_rfl) ?_
  have HO8 := Lib.hid (HZC.out _ (.inr ⟨_, k6, k7.trans k8.of_no⟩)).2
  have DX8 := Lib.hid ((d6.far2 k7 (fun m => Or.elim m HNE.out.2.2.2.2.1 HNE.out.2.2.2.2.2.1) (fun m => Or.elim m HNE.out.2.2.2.2.2.2.1 HNE.out.2.2.2.2.2.2.2)).no k8)
  have DY8 := Lib.hid (d7.no k8)
  have K18 := Lib.hid (((K15.out.then_ k6 (fun i hi m => by have := HGF.out; have := HBX.out; have m' : i = bx ∨ i = sx := m; omega)).then_ k7 (fun i hi m => by have := HGF.out; have := HB2.out; have := HW35.out; have m' : i = b2 ∨ i = s2 := m; omega)).trans k8)
  clear d6 d7 k6 k7 k8 hb8 hg8 s8 hF hcat hzl hsl hr hj HST PX PY HZC HZZ K15 HS5 HO5 DX5 DY K3 HO2 hcf
  have hset : [S, S, S].set j S = [S, S, S] := by
    match j, hj3 with
    | 0, _ => rfl
    | 1, _ => rfl
    | 2, _ => rfl
    | n + 3, h => omega
  rw [hset] at DX8
  clear hset
  go_wp2
  go_loopw [81] (fun kv wr => ∃ k : Nat, k ≤ 66 ∧ kv = .int .i64 k ∧ Kp (One gf) w8 wr ∧ ∃ cs, Bk wr gf 5 cs ∧ 66 ≤ cs.length) (fun kv _ => 66 - (intOf kv).toNat)
  case atStart =>
    refine ⟨0, Nat.zero_le _, rfl, Kp.refl _ _, ?_⟩
    rcases HO8.out.2 with ⟨hb, _⟩ | ⟨g', cap', cur, hv, _, hh, hnc, _, hcs, _⟩
    · cases hb
    · injection hv with h1 _ h3
      injection h1 with h1
      injection h1 with h1
      subst h1 h3
      exact ⟨cur.toList, by unfold Bk; simpa using hh, by simp; omega⟩
  case round =>
    obtain ⟨k, hk, rfl, hkp, cs, hb, hcl⟩ := hrel
    have HKP := Lib.hid hkp; have HB := Lib.hid hb; clear hkp hb
    have hk0 : (0 : Int) ≤ (k : Int) := by omega
    by_cases hlt : k < 66
    · have hk1 : (k : Int) < 66 := by omega
      have hc : wr.cell? ⟨gf, k, none⟩ = some (cs[k]'(by omega)) := by rw [HB.out.cell]; exact List.getElem?_eq_getElem _
      generalize cs[k]'(by omega) = u0 at hc
      have hfz := HB.out.frozen k
      go_wp2
      go_roundw
      case rel => exact ⟨k + 1, by omega, by go_num, HKP.out.set (.inl (One.self _)) _ _, _, HB.out.set_ k _, by rw [List.length_set]; exact hcl⟩
      case measure => simp [intOf]; omega
    · have hk1 : ¬ (k : Int) < 66 := by omega
      clear hlt hk HB hcl cs
      obtain ⟨w9, hw⟩ : ∃ w9 : World, w9 = wr := ⟨_, rfl⟩
      subst hw
      have DX9 := Lib.hid (DX8.out.far2 HKP.out (fun m => HNE.out.1 m.symm) (fun m => HNE.out.2.1 m.symm))
      have DY9 := Lib.hid (DY8.out.far2 HKP.out (fun m => HNE.out.2.2.1 m.symm) (fun m => HNE.out.2.2.2.1 m.symm))
      have K19 := Lib.hid (K18.out.then_ HKP.out (fun i hi m => by have := HGF.out; have m' : i = gf := m; omega))
      clear HKP DX8 DY8 K18 HO8
      have h3S : ∀ (i : Nat) (h : i < [S, S, S].length), [S, S, S][i] = S := fun i h => by
        match i, h with
        | 0, _ => rfl
        | 1, _ => rfl
        | 2, _ => rfl
        | n + 3, h => simp at h; omega
      have H3S := Lib.hid h3S; clear h3S
      have hff : St.fault ⟨[S, S, S], 0 + 1, false, 0, false⟩ (j : Int) = 0 := free_fault (by simpa using hj3)
      have pr := fun W (h : DkS W bx sx cx ⟨[S, S, S], 0 + 1, false, 0, false⟩) => read_all bx sx cx (j : Int) W ⟨[S, S, S], 0 + 1, false, 0, false⟩ h
      rw [hff] at pr
      have PR := Lib.hid pr; clear pr hff
      go_wp2_with fail
      refine (PR.out _ DX9.out).mono ?_
      rintro e w10 ⟨x, rfl, k10, _, hx⟩
      obtain ⟨hi', _, ga, rfl, hga, hba⟩ := hx trivial
      rw [H3S.out _ hi'] at hba
      have HBA := Lib.hid hba; have K10 := Lib.hid k10; have HGA := Lib.hid hga
      clear hba k10 hx hi' hga
      go_wp2_with fail
      refine (PR.out _ (DX9.out.no K10.out)).mono ?_
      rintro e w11 ⟨x, rfl, k11, _, hx⟩
      obtain ⟨hi', _, gb, rfl, hgb, hbb⟩ := hx trivial
      rw [H3S.out _ hi'] at hbb
      have HBB := Lib.hid hbb; have K11 := Lib.hid k11; have HGB := Lib.hid hgb
      clear hbb k11 hx hi' hgb PR
      go_wp2_with fail
      refine (image_x bx sx cx _ _ _ _ _ _ (DX9.out.no (K10.out.trans K11.out))).mono ?_
      rintro e w12 ⟨vp, rfl, hp, k12⟩
      have HP12 := Lib.hid hp; have K12 := Lib.hid k12; clear hp k12
      go_wp2_with fail
      refine (image_x bx sx cx _ _ _ _ _ _ (DX9.out.no ((K10.out.trans K11.out).trans K12.out))).mono ?_
      rintro e w13 ⟨vq, rfl, hq, k13⟩
      have HQ13 := Lib.hid hq; have K13 := Lib.hid k13; clear hq k13
      obtain ⟨xs, hxo, hxr⟩ := HP12.out.ex
      have hxo' : w12.ownsRow w11.heap.size 33 1 vp 3 xs := hxo
      obtain ⟨gp, cp, hvp, hcp, hgp1, hgp2⟩ := own_formK hxo' (by omega)
      subst hvp
      obtain ⟨x0, hx0, g0, e0, hb0, ha0, hk0⟩ := hxr 0 (by simp)
      obtain ⟨x1, hx1, g1, e1, hb1, ha1, hk1'⟩ := hxr 1 (by simp)
      obtain ⟨x2, hx2, g2', e2, hb2', ha2, hk2⟩ := hxr 2 (by simp)
      subst e0 e1 e2
      have HB0 := Lib.hid (show Bk w12 g0 61 (u8s S) from hk0); have HB1 := Lib.hid (show Bk w12 g1 61 (u8s S) from hk1'); have HB2' := Lib.hid (show Bk w12 g2' 61 (u8s S) from hk2)
      have hn0 : gp ≠ g0 := fun e => ha0 (by rw [e]; rfl)
      have hn1 : gp ≠ g1 := fun e => ha1 (by rw [e]; rfl)
      have hn2 : gp ≠ g2' := fun e => ha2 (by rw [e]; rfl)
      have hc0 := World.ownsRow.cells hxo' (g := gp) rfl 0 _ hx0
      have hc1 := World.ownsRow.cells hxo' (g := gp) rfl 1 _ hx1
      have hc2 := World.ownsRow.cells hxo' (g := gp) rfl 2 _ hx2
      rw [Addr.add_mid, Nat.zero_add] at hc0 hc1 hc2
      obtain ⟨_, csp, hbp⟩ := own_bk hxo' (g := gp) rfl
      have q0 : csp[0]? = some (.slice (some ⟨g0, 0, none⟩) 64 64) := by rw [← hbp.cell]; exact hc0
      have q1 : csp[1]? = some (.slice (some ⟨g1, 0, none⟩) 64 64) := by rw [← hbp.cell]; exact hc1
      have q2 : csp[2]? = some (.slice (some ⟨g2', 0, none⟩) 64 64) := by rw [← hbp.cell]; exact hc2
      have s9 := K10.out.size; have s10 := K11.out.size; have s11 := K12.out.size; have s12 := K13.out.size
      have la := HBA.out.lt; have lb := HBB.out.lt; have l0 := HB0.out.lt; have l1 := HB1.out.lt; have l2 := HB2'.out.lt
      have hga := HGA.out; have hgb := HGB.out
      obtain ⟨Z, hZ⟩ : ∃ Z : Nat → Prop, Z = fun g => g = ga ∨ (g = g0 ∨ g = g1 ∨ g = g2') ∨ w13.heap.size ≤ g := ⟨_, rfl⟩
      have HGZ := Lib.hid (show ¬ Z gp by rw [hZ]; show ¬ (_ ∨ _); omega)
      have HGB' := Lib.hid (show ¬ Z gb by rw [hZ]; show ¬ (_ ∨ _); omega)
      have HZQ := Lib.hid (show ∀ g, w12.heap.size ≤ g → g < w13.heap.size → ¬ (Z g ∨ g = gp) by intro g h1 h2; rw [hZ]; show ¬ ((_ ∨ _) ∨ _); omega)
      have HZ9 := Lib.hid (show ∀ g, g < w9.heap.size → ¬ (Z g ∨ g = gp) by intro g h1; rw [hZ]; show ¬ ((_ ∨ _) ∨ _); omega)
      have HPB := Lib.hid (show gp ≠ gb by omega)
      have HZB := Lib.hid (show ∀ W : World, w13.heap.size ≤ W.heap.size → ∀ g, W.heap.size ≤ g → Z g by intro W h g hg; rw [hZ]; show _ ∨ _; omega)
      have za : Z ga := by rw [hZ]; exact .inl rfl
      have z0' : Z g0 := by rw [hZ]; exact .inr (.inl (.inl rfl))
      have z1' : Z g1 := by rw [hZ]; exact .inr (.inl (.inr (.inl rfl)))
      have z2' : Z g2' := by rw [hZ]; exact .inr (.inl (.inr (.inr rfl)))
      clear hZ s9 s10 s11 s12 la lb l0 l1 l2 hga hgb hn0 hn1 hn2 ha0 ha1 ha2 hb0 hb1 hb2' hk0 hk1' hk2 hx0 hx1 hx2 hgp1 hgp2 hcp hxr
      have hu8 : (u8s S).length = 64 := by rw [u8s_length]; exact HSL.out
      have mk : ∀ (w : World) (g : Nat), Z g → Bk w g 61 (u8s S) → OkRow w Z 64 (.slice (some ⟨g, 0, none⟩) 64 64) := fun w g hz hb => ⟨g, 64, _, rfl, Nat.le_refl _, by rw [hu8]; exact Nat.le_refl _, hz, SB.of hb (u8s_one S)⟩
      have K12x := Lib.hid (K11.out.trans (K12.out.trans K13.out)); have K1213 := Lib.hid (K12.out.trans K13.out)
      have OA := Lib.hid (mk w13 ga za (HBA.out.no K12x.out))
      have O0 := Lib.hid (mk w13 g0 z0' (HB0.out.no K13.out)); have O1 := Lib.hid (mk w13 g1 z1' (HB1.out.no K13.out)); have O2 := Lib.hid (mk w13 g2' z2' (HB2'.out.no K13.out))
      have HBP := Lib.hid (hbp.no K13.out); have HBB13 := Lib.hid (HBB.out.no (K12.out.trans K13.out))
      have HFB0 := Lib.hid (show FB Z gp 64 w13 false false false w13 from ⟨Kp.refl _ _, csp, HBP.out, ⟨_, q0, O0.out⟩, ⟨_, q1, O1.out⟩, ⟨_, q2, O2.out⟩⟩)
      have HCC := Lib.hid (show ∀ W, Stp Z w13 W → W.cell? ⟨gp, 0, none⟩ = some (.slice (some ⟨g0, 0, none⟩) 64 64) ∧ W.cell? ⟨gp, 1, none⟩ = some (.slice (some ⟨g1, 0, none⟩) 64 64) ∧ W.cell? ⟨gp, 2, none⟩ = some (.slice (some ⟨g2', 0, none⟩) 64 64) from fun W h => by
        have hb := HBP.out.kp h.kp HGZ.out
        exact ⟨by rw [hb.cell]; exact q0, by rw [hb.cell]; exact q1, by rw [hb.cell]; exact q2⟩)
      have K1x := Lib.hid (K19.out.trans (K10.out.trans (K11.out.trans (K12.out.trans K13.out))))
      clear mk hu8 hbp q0 q1 q2 hc0 hc1 hc2 hxo hxo' za z0' z1' z2' HB0 HB1 HB2' HBA HBB HGA HGB K12 K12x HP12 xs
      go_wp2
      go_loopw [114] (fun kv wr => ∃ k : Nat, k ≤ 64 ∧ kv = .int .i64 k ∧ Stp Z w13 wr) (fun kv _ => 64 - (intOf kv).toNat)
      case atStart => exact ⟨0, Nat.zero_le _, rfl, Stp.refl _ _⟩
      case round =>
        obtain ⟨k, hk, rfl, hkp⟩ := hrel
        have HKP := Lib.hid hkp; clear hkp
        have hk0 : (0 : Int) ≤ (k : Int) := by omega
        by_cases hlt : k < 64
        · have hk1 : (k : Int) < 64 := by omega
          have mkc : ∀ (g : Nat), OkRow w13 Z 64 (.slice (some ⟨g, 0, none⟩) 64 64) → ∀ W, Stp Z w13 W → (∃ u, W.cell? ⟨g, k, none⟩ = some u) ∧ W.frozen? ⟨g, k, none⟩ = false ∧ Z g := fun g ho W hs => by
            obtain ⟨g', c', e, h1, h2, h3⟩ := (ho.stp hs).cell hlt
            injection e with e
            injection e with e
            injection e with e
            subst e
            exact ⟨h2, h3, h1⟩
          have HCA := Lib.hid (mkc ga OA.out); have HC0 := Lib.hid (mkc g0 O0.out); have HC1 := Lib.hid (mkc g1 O1.out); have HC2 := Lib.hid (mkc g2' O2.out)
          clear mkc
          obtain ⟨⟨ua, hua⟩, hfa, hza⟩ := HCA.out wr HKP.out
          have HZA := Lib.hid hza; clear hza
          go_wp2
          have HFK := Lib.hid (show ∀ W, Stp Z w13 W → Stp Z w13 W ∧ W.cell? ⟨gp, 0, none⟩ = some (.slice (some ⟨g0, 0, none⟩) 64 64) ∧ W.cell? ⟨gp, 1, none⟩ = some (.slice (some ⟨g1, 0, none⟩) 64 64) ∧ W.cell? ⟨gp, 2, none⟩ = some (.slice (some ⟨g2', 0, none⟩) 64 64) from fun W h => ⟨h, HCC.out W h⟩)
          have hF := HFK.out _ (HKP.out.set HZA.out k (u := .int .u8 97) rfl).drew
          clear hua hfa
          refine rg_begin (fun W => Stp Z w13 W ∧ W.cell? ⟨gp, 0, none⟩ = some (.slice (some ⟨g0, 0, none⟩) 64 64) ∧ W.cell? ⟨gp, 1, none⟩ = some (.slice (some ⟨g1, 0, none⟩) 64 64) ∧ W.cell? ⟨gp, 2, none⟩ = some (.slice (some ⟨g2', 0, none⟩) 64 64)) 18 (by kernel_rfl) ?_
          refine rg_take (i := 0) (v := ?vb0) (by simp only [List.getElem?_toArray, List.getElem?_cons_zero]; rfl) (by kernel_rfl) (by exact fun _ _ _ h => h) (by rfl) ?rb0 hF ?sb0
          case rb0 => (intro W hW; clear hW; go_simp; try with_reducible rfl)
          try simp only [Act.put, List.setIfInBounds_toArray, List.set_cons_zero, List.set_cons_succ]
          refine rg_take (i := 1) (v := ?vb1) (by simp only [List.getElem?_toArray, List.getElem?_cons_succ, List.getElem?_cons_zero]; rfl) (by kernel_rfl) (by exact fun _ _ _ h => h) (by rfl) ?rb1 hF ?sb1
          case rb1 => (intro W hW; clear hW; go_simp; try with_reducible rfl)
          try simp only [Act.put, List.setIfInBounds_toArray, List.set_cons_zero, List.set_cons_succ]
          refine rg_take (i := 2) (v := ?vb2) (by simp only [List.getElem?_toArray, List.getElem?_cons_succ, List.getElem?_cons_zero]; rfl) (by kernel_rfl) (by exact fun _ _ _ h => h) (by rfl) ?rb2 hF ?sb2
          case rb2 => (intro W hW; obtain ⟨f0, f1, f2, f3⟩ := hW; go_simp; try with_reducible rfl)
          try simp only [Act.put, List.setIfInBounds_toArray, List.set_cons_zero, List.set_cons_succ]
          refine rg_take (i := 3) (v := ?vb3) (by simp only [List.getElem?_toArray, List.getElem?_cons_succ, List.getElem?_cons_zero]; rfl) (by kernel_rfl) (by exact fun _ _ _ h => h) (by rfl) ?rb3 hF ?sb3
          case rb3 => (intro W hW; clear hW; go_simp; try with_reducible rfl)
          try simp only [Act.put, List.setIfInBounds_toArray, List.set_cons_zero, List.set_cons_succ]
          refine rg_take (i := 4) (v := ?vb4) (by simp only [List.getElem?_toArray, List.getElem?_cons_succ, List.getElem?_cons_zero]; rfl) (by kernel_rfl) (by exact fun _ _ _ h => h) (by rfl) ?rb4 hF ?sb4
          case rb4 => (intro W hW; clear hW; go_simp; try with_reducible rfl)
          try simp only [Act.put, List.setIfInBounds_toArray, List.set_cons_zero, List.set_cons_succ]
          refine rg_take (i := 5) (v := ?vb5) (by simp only [List.getElem?_toArray, List.getElem?_cons_succ, List.getElem?_cons_zero]; rfl) (by kernel_rfl) (by exact fun _ _ _ h => h) (by rfl) ?rb5 hF ?sb5
          case rb5 => (intro W hW; clear hW; go_simp; try with_reducible rfl)
          try simp only [Act.put, List.setIfInBounds_toArray, List.set_cons_zero, List.set_cons_succ]
          refine rg_take (i := 6) (v := ?vb6) (by simp only [List.getElem?_toArray, List.getElem?_cons_succ, List.getElem?_cons_zero]; rfl) (by kernel_rfl) (by exact fun _ _ _ h => h) (by rfl) ?rb6 hF ?sb6
          case rb6 => (intro W hW; obtain ⟨f0, f1, f2, f3⟩ := hW; go_simp; try with_reducible rfl)
          try simp only [Act.put, List.setIfInBounds_toArray, List.set_cons_zero, List.set_cons_succ]
          refine rg_take (i := 7) (v := ?vb7) (by simp only [List.getElem?_toArray, List.getElem?_cons_succ, List.getElem?_cons_zero]; rfl) (by kernel_rfl) (by exact fun _ _ _ h => h) (by rfl) ?rb7 hF ?sb7
          case rb7 => (intro W hW; clear hW; go_simp; try with_reducible rfl)
          try simp only [Act.put, List.setIfInBounds_toArray, List.set_cons_zero, List.set_cons_succ]
          refine rg_take (i := 8) (v := ?vb8) (by simp only [List.getElem?_toArray, List.getElem?_cons_succ, List.getElem?_cons_zero]; rfl) (by kernel_rfl) (by exact fun _ _ _ h => h) (by rfl) ?rb8 hF ?sb8
          case rb8 => (intro W hW; clear hW; go_simp; try with_reducible rfl)
          try simp only [Act.put, List.setIfInBounds_toArray, List.set_cons_zero, List.set_cons_succ]
          refine rg_take (i := 9) (v := ?vb9) (by simp only [List.getElem?_toArray, List.getElem?_cons_succ, List.getElem?_cons_zero]; rfl) (by kernel_rfl) (by exact fun _ _ _ h => h) (by rfl) ?rb9 hF ?sb9
          case rb9 => (intro W hW; clear hW; go_simp; try with_reducible rfl)
          try simp only [Act.put, List.setIfInBounds_toArray, List.set_cons_zero, List.set_cons_succ]
          refine rg_take (i := 10) (v := ?vb10) (by simp only [List.getElem?_toArray, List.getElem?_cons_succ, List.getElem?_cons_zero]; rfl) (by kernel_rfl) (by exact fun _ _ _ h => h) (by rfl) ?rb10 hF ?sb10
          case rb10 => (intro W hW; obtain ⟨f0, f1, f2, f3⟩ := hW; go_simp; try with_reducible rfl)
          try simp only [Act.put, List.setIfInBounds_toArray, List.set_cons_zero, List.set_cons_succ]
          refine rg_take (i := 11) (v := ?vb11) (by simp only [List.getElem?_toArray, List.getElem?_cons_succ, List.getElem?_cons_zero]; rfl) (by kernel_rfl) (by exact fun _ _ _ h => h) (by rfl) ?rb11 hF ?sb11
          case rb11 => (intro W hW; clear hW; go_simp; try with_reducible rfl)
          try simp only [Act.put, List.setIfInBounds_toArray, List.set_cons_zero, List.set_cons_succ]
          refine rg_take (i := 12) (v := ?vb12) (by simp only [List.getElem?_toArray, List.getElem?_cons_succ, List.getElem?_cons_zero]; rfl) (by kernel_rfl) (by exact fun _ _ _ h => h) (by rfl) ?rb12 hF ?sb12
          case rb12 => (intro W hW; clear hW; go_simp; try with_reducible rfl)
          try simp only [Act.put, List.setIfInBounds_toArray, List.set_cons_zero, List.set_cons_succ]
          refine rg_one (i := 13) (oi := ?ob13) ?ab13 ?bb13 ?cb13 ?db13
          case ab13 => (simp only [List.getElem?_toArray, List.getElem?_cons_succ, List.getElem?_cons_zero]; rfl)
          case bb13 => kernel_rfl
          case cb13 => rfl
          intro K hK
          (have q := HC0.out _ hF.1; obtain ⟨⟨u, hu⟩, hfz, _⟩ := q; go_simp)
          refine rg_use hK ((HFK.out _ (hF.1.set (HC0.out _ hF.1).2.2 k (u := .int .u8 112) rfl))) (fun hF => ?_)
          clear hK K
          try simp only [Act.put, List.setIfInBounds_toArray, List.set_cons_zero, List.set_cons_succ]
          refine rg_take (i := 14) (v := ?vb14) (by simp only [List.getElem?_toArray, List.getElem?_cons_succ, List.getElem?_cons_zero]; rfl) (by kernel_rfl) (by exact fun _ _ _ h => h) (by rfl) ?rb14 hF ?sb14
          case rb14 => (intro W hW; clear hW; go_simp; try with_reducible rfl)
          try simp only [Act.put, List.setIfInBounds_toArray, List.set_cons_zero, List.set_cons_succ]
          refine rg_one (i := 15) (oi := ?ob15) ?ab15 ?bb15 ?cb15 ?db15
          case ab15 => (simp only [List.getElem?_toArray, List.getElem?_cons_succ, List.getElem?_cons_zero]; rfl)
          case bb15 => kernel_rfl
          case cb15 => rfl
          intro K hK
          (have q := HC1.out _ hF.1; obtain ⟨⟨u, hu⟩, hfz, _⟩ := q; go_simp)
          refine rg_use hK ((HFK.out _ (hF.1.set (HC1.out _ hF.1).2.2 k (u := .int .u8 113) rfl))) (fun hF => ?_)
          clear hK K
          try simp only [Act.put, List.setIfInBounds_toArray, List.set_cons_zero, List.set_cons_succ]
          refine rg_take (i := 16) (v := ?vb16) (by simp only [List.getElem?_toArray, List.getElem?_cons_succ, List.getElem?_cons_zero]; rfl) (by kernel_rfl) (by exact fun _ _ _ h => h) (by rfl) ?rb16 hF ?sb16
          case rb16 => (intro W hW; clear hW; go_simp; try with_reducible rfl)
          try simp only [Act.put, List.setIfInBounds_toArray, List.set_cons_zero, List.set_cons_succ]
          refine rg_one (i := 17) (oi := ?ob17) ?ab17 ?bb17 ?cb17 ?db17
          case ab17 => (simp only [List.getElem?_toArray, List.getElem?_cons_succ, List.getElem?_cons_zero]; rfl)
          case bb17 => kernel_rfl
          case cb17 => rfl
          intro K hK
          (have q := HC2.out _ hF.1; obtain ⟨⟨u, hu⟩, hfz, _⟩ := q; go_simp)
          refine rg_use hK ((HFK.out _ (hF.1.set (HC2.out _ hF.1).2.2 k (u := .int .u8 114) rfl))) (fun hF => ?_)
          clear hK K
          try simp only [Act.put, List.setIfInBounds_toArray, List.set_cons_zero, List.set_cons_succ]
          refine rg_done (by kernel_rfl) ?_
          have HKN := Lib.hid hF.1
          clear hF
          go_wp2
          go_roundw
          case rel => exact ⟨k + 1, by omega, by go_num, HKN.out⟩
          case measure => simp [intOf]; omega
        · have hk1 : ¬ (k : Int) < 64 := by omega
          clear hlt hk
          go_wp2
          obtain ⟨w14, hw⟩ : ∃ w14 : World, w14 = wr := ⟨_, rfl⟩
          subst hw
          have OA14 := Lib.hid (OA.out.stp HKP.out); have FB14 := Lib.hid (HFB0.out.stp HGZ.out HKP.out)
          have HZ1 := Lib.hid (show ∀ x ∈ (Value.int .u8 0).cells, x.oneCell' = true from fun x hx => by
            simp [Value.cells] at hx; subst hx; rfl)
          clear HKP OA O0 O1 O2 HFB0 HCC
          go_loopw [19, 12] (fun kv av wr => ∃ k : Nat, k ≤ 70 ∧ kv = .int .i64 k ∧ OkRow wr Z (64 + k) av ∧ FB Z gp (64 + k) w13 false false false wr) (fun kv _ _ => 70 - (intOf kv).toNat)
          case atStart => exact ⟨0, Nat.zero_le _, rfl, OA14.out, FB14.out⟩
          case round =>
            clear OA14 FB14
            obtain ⟨k, hk, rfl, hav, hfb⟩ := hrel
            have HFB := Lib.hid hfb; clear hfb
            by_cases hlt : k < 70
            · have hk1 : (k : Int) < 70 := by omega
              obtain ⟨n, hn⟩ : ∃ n, 64 + k = n := ⟨_, rfl⟩
              rw [hn] at hav HFB
              have hnl : n ≤ 134 := by omega
              have HN := Lib.hid hn; clear hn
              obtain ⟨gy, cy, sy, ey, y1, y2, y3, y4⟩ := hav
              subst ey
              have HAV := Lib.hid (show OkRow (wr.alloc (.cells #[.int .u8 122] 5)) Z n (.slice (some ⟨gy, 0, none⟩) n cy) from ⟨gy, cy, sy, rfl, y1, y2, y3, y4.alloc _⟩)
              have hnc : (wr.alloc (.cells #[.int .u8 122] 5)).cell? ⟨wr.heap.size, 0, none⟩ = some (.int .u8 122) := (Bk.new' (cs := [.int .u8 122]) rfl rfl).cell 0
              have HNC := Lib.hid hnc
              have HFA := Lib.hid (HFB.out.stp HGZ.out ((Stp.refl _ _).alloc (.cells #[.int .u8 122] 5)))
              clear y1 y2 y3 y4 hnc HFB
              go_upto_region 30 with (at_builtin; refine wpList_appK _ rfl _ _ 33 rfl Z (fun g h => HZB.out _ HFA.out.1.size g h) 5 (.int .u8 0) 1 Try.underlying33 Try.info5 rfl HZ1.out (.slice (some ⟨gy, 0, none⟩) n cy) n rfl HAV.out ⟨wr.heap.size, 0, none⟩ 1 (.int .u8 122) rfl HNC.out rfl (by omega) (by omega) ?_; intro v' w15 hv' hs')
              have hfb := HFA.out.stp HGZ.out hs'
              have HV := Lib.hid hv'
              clear hv' hs' HFA HAV HNC
              refine rg_all2 [0, 1, 2, 3, 4, 5, 6, 7, 8, 9, 10, 11, 12, 13, 14, 15, 16, 17, 18, 19, 20, 21, 22, 23] (by rfl) ?fr ?hfr (fun j x w => match j with | 0 => (x 0 = .slice (some ⟨gp, 0, none⟩) 3 cp) | 1 => (x 1 = .slice (some ⟨gp, 0, none⟩) 3 cp) | 2 => (x 2 = .slice (some ⟨gp, 0, none⟩) 3 cp) | 3 => (x 3 = .slice (some ⟨gp, 0, none⟩) 3 cp) | 4 => (x 4 = .pointer (some ⟨gp, 0, none⟩)) | 5 => (OkRow w Z n (x 5)) | 6 => (NewC w (x 6)) | 7 => (OkRow w Z (n + 1) (x 7)) | 8 => (x 8 = .slice (some ⟨gp, 0, none⟩) 3 cp) | 9 => (x 9 = .pointer (some ⟨gp, 1, none⟩)) | 10 => (OkRow w Z n (x 10)) | 11 => (NewC w (x 11)) | 12 => (OkRow w Z (n + 1) (x 12)) | 13 => (x 13 = .slice (some ⟨gp, 0, none⟩) 3 cp) | 14 => (x 14 = .pointer (some ⟨gp, 2, none⟩)) | 15 => (OkRow w Z n (x 15)) | 16 => (NewC w (x 16)) | 17 => (OkRow w Z (n + 1) (x 17)) | 18 => (x 18 = .pointer (some ⟨gp, 0, none⟩)) | 19 => (True) | 20 => (x 20 = .pointer (some ⟨gp, 1, none⟩)) | 21 => (True) | 22 => (x 22 = .pointer (some ⟨gp, 2, none⟩)) | 23 => (True) | _ => True) (fun l w => FB Z gp n w13 (l 19) (l 21) (l 23) w ∧ OkRow w Z (n + 1) v') (fun _ w w' => ∀ g s, SB w g s → SB w' g s) (by kernel_rfl) (by kernel_rfl) ?hF ?mono ?step ?hend
              case hfr =>
                intro x
                simp only [puts, dstOf, List.getElem?_toArray, List.getElem?_cons_succ, List.getElem?_cons_zero, Option.bind_some, Act.put, List.setIfInBounds_toArray, List.set_cons_zero, List.set_cons_succ]
                exact rfl
              case hF =>
                exact ⟨hfb.stp HGZ.out (Stp.refl _ _).drew, HV.out.stp (Stp.refl Z _).drew⟩
              case mono =>
                intro i j x v w w' hij hca hr hp
                match j, hij, hca, hp with
                | 0, hij, hca, hp =>
                  replace hp : x 0 = .slice (some ⟨gp, 0, none⟩) 3 cp := hp
                  (have e : upd x i v 0 = x 0 := upd_ne x v hij; exact e.trans hp)
                | 1, hij, hca, hp =>
                  replace hp : x 1 = .slice (some ⟨gp, 0, none⟩) 3 cp := hp
                  (have e : upd x i v 1 = x 1 := upd_ne x v hij; exact e.trans hp)
                | 2, hij, hca, hp =>
                  replace hp : x 2 = .slice (some ⟨gp, 0, none⟩) 3 cp := hp
                  (have e : upd x i v 2 = x 2 := upd_ne x v hij; exact e.trans hp)
                | 3, hij, hca, hp =>
                  replace hp : x 3 = .slice (some ⟨gp, 0, none⟩) 3 cp := hp
                  (have e : upd x i v 3 = x 3 := upd_ne x v hij; exact e.trans hp)
                | 4, hij, hca, hp =>
                  replace hp : x 4 = .pointer (some ⟨gp, 0, none⟩) := hp
                  (have e : upd x i v 4 = x 4 := upd_ne x v hij; exact e.trans hp)
                | 5, hij, hca, hp =>
                  replace hp : OkRow w Z n (x 5) := hp
                  show OkRow w' Z n (upd x i v 5)
                  rw [upd_ne x v hij]
                  exact hp.sb hr
                | 6, hij, hca, hp =>
                  replace hp : NewC w (x 6) := hp
                  show NewC w' (upd x i v 6)
                  rw [upd_ne x v hij]
                  exact hp.sb hr
                | 7, hij, hca, hp =>
                  replace hp : OkRow w Z (n + 1) (x 7) := hp
                  show OkRow w' Z (n + 1) (upd x i v 7)
                  rw [upd_ne x v hij]
                  exact hp.sb hr
                | 8, hij, hca, hp =>
                  replace hp : x 8 = .slice (some ⟨gp, 0, none⟩) 3 cp := hp
                  (have e : upd x i v 8 = x 8 := upd_ne x v hij; exact e.trans hp)
                | 9, hij, hca, hp =>
                  replace hp : x 9 = .pointer (some ⟨gp, 1, none⟩) := hp
                  (have e : upd x i v 9 = x 9 := upd_ne x v hij; exact e.trans hp)
                | 10, hij, hca, hp =>
                  replace hp : OkRow w Z n (x 10) := hp
                  show OkRow w' Z n (upd x i v 10)
                  rw [upd_ne x v hij]
                  exact hp.sb hr
                | 11, hij, hca, hp =>
                  replace hp : NewC w (x 11) := hp
                  show NewC w' (upd x i v 11)
                  rw [upd_ne x v hij]
                  exact hp.sb hr
                | 12, hij, hca, hp =>
                  replace hp : OkRow w Z (n + 1) (x 12) := hp
                  show OkRow w' Z (n + 1) (upd x i v 12)
                  rw [upd_ne x v hij]
                  exact hp.sb hr
                | 13, hij, hca, hp =>
                  replace hp : x 13 = .slice (some ⟨gp, 0, none⟩) 3 cp := hp
                  (have e : upd x i v 13 = x 13 := upd_ne x v hij; exact e.trans hp)
                | 14, hij, hca, hp =>
                  replace hp : x 14 = .pointer (some ⟨gp, 2, none⟩) := hp
                  (have e : upd x i v 14 = x 14 := upd_ne x v hij; exact e.trans hp)
                | 15, hij, hca, hp =>
                  replace hp : OkRow w Z n (x 15) := hp
                  show OkRow w' Z n (upd x i v 15)
                  rw [upd_ne x v hij]
                  exact hp.sb hr
                | 16, hij, hca, hp =>
                  replace hp : NewC w (x 16) := hp
                  show NewC w' (upd x i v 16)
                  rw [upd_ne x v hij]
                  exact hp.sb hr
                | 17, hij, hca, hp =>
                  replace hp : OkRow w Z (n + 1) (x 17) := hp
                  show OkRow w' Z (n + 1) (upd x i v 17)
                  rw [upd_ne x v hij]
                  exact hp.sb hr
                | 18, hij, hca, hp =>
                  replace hp : x 18 = .pointer (some ⟨gp, 0, none⟩) := hp
                  (have e : upd x i v 18 = x 18 := upd_ne x v hij; exact e.trans hp)
                | 19, hij, hca, hp =>
                  replace hp : True := hp
                  trivial
                | 20, hij, hca, hp =>
                  replace hp : x 20 = .pointer (some ⟨gp, 1, none⟩) := hp
                  (have e : upd x i v 20 = x 20 := upd_ne x v hij; exact e.trans hp)
                | 21, hij, hca, hp =>
                  replace hp : True := hp
                  trivial
                | 22, hij, hca, hp =>
                  replace hp : x 22 = .pointer (some ⟨gp, 2, none⟩) := hp
                  (have e : upd x i v 22 = x 22 := upd_ne x v hij; exact e.trans hp)
                | 23, hij, hca, hp =>
                  replace hp : True := hp
                  trivial
                | _ + 24, _, _, _ => trivial
              case step =>
                intro i oi hi l x w K hf hl hcl hd hK
                have hil := (Array.getElem?_eq_some_iff.1 hi).1
                match i, hil, hi, hl, hcl, hd, hK with
                | 0, _, hi, hl, hcl, hd, hK =>
                  simp only [List.getElem?_toArray, List.getElem?_cons_zero, Option.some.injEq] at hi
                  subst hi
                  refine ro_do rfl (by rfl) ?_
                  go_simp
                  refine hK _ (.slice (some ⟨gp, 0, none⟩) 3 cp) _ ?_ ?_ ?_ ?_
                  · simp [upd]
                  · exact upd_same x 0 _
                  · exact hf
                  · exact fun _ _ h => h
                | 1, _, hi, hl, hcl, hd, hK =>
                  simp only [List.getElem?_toArray, List.getElem?_cons_succ, List.getElem?_cons_zero, Option.some.injEq] at hi
                  subst hi
                  refine ro_do rfl (by rfl) ?_
                  go_simp
                  refine hK _ (.slice (some ⟨gp, 0, none⟩) 3 cp) _ ?_ ?_ ?_ ?_
                  · simp [upd]
                  · exact upd_same x 1 _
                  · exact hf
                  · exact fun _ _ h => h
                | 2, _, hi, hl, hcl, hd, hK =>
                  simp only [List.getElem?_toArray, List.getElem?_cons_succ, List.getElem?_cons_zero, Option.some.injEq] at hi
                  subst hi
                  refine ro_do rfl (by rfl) ?_
                  go_simp
                  refine hK _ (.slice (some ⟨gp, 0, none⟩) 3 cp) _ ?_ ?_ ?_ ?_
                  · simp [upd]
                  · exact upd_same x 2 _
                  · exact hf
                  · exact fun _ _ h => h
                | 3, _, hi, hl, hcl, hd, hK =>
                  simp only [List.getElem?_toArray, List.getElem?_cons_succ, List.getElem?_cons_zero, Option.some.injEq] at hi
                  subst hi
                  refine ro_do rfl (by rfl) ?_
                  go_simp
                  refine hK _ (.slice (some ⟨gp, 0, none⟩) 3 cp) _ ?_ ?_ ?_ ?_
                  · simp [upd]
                  · exact upd_same x 3 _
                  · exact hf
                  · exact fun _ _ h => h
                | 4, _, hi, hl, hcl, hd, hK =>
                  have d3 : x 3 = .slice (some ⟨gp, 0, none⟩) 3 cp := hd 3 (by kernel_rfl)
                  simp only [List.getElem?_toArray, List.getElem?_cons_succ, List.getElem?_cons_zero, Option.some.injEq] at hi
                  subst hi
                  simp only [d3]
                  refine ro_do rfl (by rfl) ?_
                  go_simp
                  refine hK _ (.pointer (some ⟨gp, 0, none⟩)) _ ?_ ?_ ?_ ?_
                  · simp [upd, d3]
                  · exact upd_same x 4 _
                  · exact hf
                  · exact fun _ _ h => h
                | 5, _, hi, hl, hcl, hd, hK =>
                  have d4 : x 4 = .pointer (some ⟨gp, 0, none⟩) := hd 4 (by kernel_rfl)
                  have hf2 : FB Z gp n w13 (l 19) (l 21) (l 23) w := hf.1
                  obtain ⟨y, hc, ho, hfz⟩ := hf2.cell0
                  rw [hcl 19 (by kernel_rfl)] at ho
                  simp only [cond_false] at ho
                  obtain ⟨gy, cy, sy, rfl, y1, y2, y3, y4⟩ := ho
                  have ho : OkRow w Z n (.slice (some ⟨gy, 0, none⟩) n cy) := ⟨gy, cy, sy, rfl, y1, y2, y3, y4⟩
                  clear hf2 y1 y2 y3 y4
                  simp only [List.getElem?_toArray, List.getElem?_cons_succ, List.getElem?_cons_zero, Option.some.injEq] at hi
                  subst hi
                  simp only [d4]
                  refine ro_do rfl (by rfl) ?_
                  go_simp
                  refine hK _ (.slice (some ⟨gy, 0, none⟩) n cy) _ ?_ ?_ ?_ ?_
                  · simp [upd, d4]
                  · (show OkRow w Z n (upd x 5 _ 5); rw [upd_same]; exact ho)
                  · exact hf
                  · exact fun _ _ h => h
                | 6, _, hi, hl, hcl, hd, hK =>
                  simp only [List.getElem?_toArray, List.getElem?_cons_succ, List.getElem?_cons_zero, Option.some.injEq] at hi
                  subst hi
                  refine ro_do rfl (by rfl) ?_
                  go_simp
                  refine hK _ (.slice (some ⟨w.heap.size, 0, none⟩) 1 1) _ ?_ ?_ ?_ ?_
                  · simp [upd]
                  · (show NewC _ (upd x 6 _ 6); rw [upd_same]; exact NewC.mk' w _ rfl)
                  · exact ⟨FB.stp hf.1 HGZ.out ((Stp.refl _ _).alloc _), hf.2.stp ((Stp.refl Z _).alloc _)⟩
                  · exact fun _ _ h => h.alloc _
                | 7, _, hi, hl, hcl, hd, hK =>
                  have d5 : OkRow w Z n (x 5) := hd 5 (by kernel_rfl)
                  have d6 : NewC w (x 6) := hd 6 (by kernel_rfl)
                  obtain ⟨q, sq, eq, hq1, hq2⟩ := d6
                  obtain ⟨u, hu, hu1⟩ := hq1.cell hq2
                  simp only [List.getElem?_toArray, List.getElem?_cons_succ, List.getElem?_cons_zero, Option.some.injEq] at hi
                  subst hi
                  refine ro_do rfl (by rfl) ?_
                  (refine wp_appK w (.tmp 148) (.tmp 149) 33 rfl Z (fun g h => HZB.out w hf.1.1.size g h) 5 (.int .u8 0) 1 Try.underlying33 Try.info5 rfl HZ1.out (x 5) n (by simp [Act.eval]) d5 ⟨q, 0, none⟩ 1 u ?_ hu hu1 (by omega) (by omega) ?_; simp [Act.eval, eq]; intro v' w' hv' hs')
                  refine hK _ (v') _ ?_ ?_ ?_ ?_
                  · simp [upd, Act.put]
                  · (show OkRow w' Z (n + 1) (upd x 7 v' 7); rw [upd_same]; exact hv')
                  · exact ⟨FB.stp hf.1 HGZ.out hs', hf.2.stp hs'⟩
                  · exact hs'.sb
                | 8, _, hi, hl, hcl, hd, hK =>
                  simp only [List.getElem?_toArray, List.getElem?_cons_succ, List.getElem?_cons_zero, Option.some.injEq] at hi
                  subst hi
                  refine ro_do rfl (by rfl) ?_
                  go_simp
                  refine hK _ (.slice (some ⟨gp, 0, none⟩) 3 cp) _ ?_ ?_ ?_ ?_
                  · simp [upd]
                  · exact upd_same x 8 _
                  · exact hf
                  · exact fun _ _ h => h
                | 9, _, hi, hl, hcl, hd, hK =>
                  have d8 : x 8 = .slice (some ⟨gp, 0, none⟩) 3 cp := hd 8 (by kernel_rfl)
                  simp only [List.getElem?_toArray, List.getElem?_cons_succ, List.getElem?_cons_zero, Option.some.injEq] at hi
                  subst hi
                  simp only [d8]
                  refine ro_do rfl (by rfl) ?_
                  go_simp
                  refine hK _ (.pointer (some ⟨gp, 1, none⟩)) _ ?_ ?_ ?_ ?_
                  · simp [upd, d8]
                  · exact upd_same x 9 _
                  · exact hf
                  · exact fun _ _ h => h
                | 10, _, hi, hl, hcl, hd, hK =>
                  have d9 : x 9 = .pointer (some ⟨gp, 1, none⟩) := hd 9 (by kernel_rfl)
                  have hf2 : FB Z gp n w13 (l 19) (l 21) (l 23) w := hf.1
                  obtain ⟨y, hc, ho, hfz⟩ := hf2.cell1
                  rw [hcl 21 (by kernel_rfl)] at ho
                  simp only [cond_false] at ho
                  obtain ⟨gy, cy, sy, rfl, y1, y2, y3, y4⟩ := ho
                  have ho : OkRow w Z n (.slice (some ⟨gy, 0, none⟩) n cy) := ⟨gy, cy, sy, rfl, y1, y2, y3, y4⟩
                  clear hf2 y1 y2 y3 y4
                  simp only [List.getElem?_toArray, List.getElem?_cons_succ, List.getElem?_cons_zero, Option.some.injEq] at hi
                  subst hi
                  simp only [d9]
                  refine ro_do rfl (by rfl) ?_
                  go_simp
                  refine hK _ (.slice (some ⟨gy, 0, none⟩) n cy) _ ?_ ?_ ?_ ?_
                  · simp [upd, d9]
                  · (show OkRow w Z n (upd x 10 _ 10); rw [upd_same]; exact ho)
                  · exact hf
                  · exact fun _ _ h => h
                | 11, _, hi, hl, hcl, hd, hK =>
                  simp only [List.getElem?_toArray, List.getElem?_cons_succ, List.getElem?_cons_zero, Option.some.injEq] at hi
                  subst hi
                  refine ro_do rfl (by rfl) ?_
                  go_simp
                  refine hK _ (.slice (some ⟨w.heap.size, 0, none⟩) 1 1) _ ?_ ?_ ?_ ?_
                  · simp [upd]
                  · (show NewC _ (upd x 11 _ 11); rw [upd_same]; exact NewC.mk' w _ rfl)
                  · exact ⟨FB.stp hf.1 HGZ.out ((Stp.refl _ _).alloc _), hf.2.stp ((Stp.refl Z _).alloc _)⟩
                  · exact fun _ _ h => h.alloc _
                | 12, _, hi, hl, hcl, hd, hK =>
                  have d7 : OkRow w Z (n + 1) (x 7) := hd 7 (by kernel_rfl)
                  have d10 : OkRow w Z n (x 10) := hd 10 (by kernel_rfl)
                  have d11 : NewC w (x 11) := hd 11 (by kernel_rfl)
                  obtain ⟨q, sq, eq, hq1, hq2⟩ := d11
                  obtain ⟨u, hu, hu1⟩ := hq1.cell hq2
                  simp only [List.getElem?_toArray, List.getElem?_cons_succ, List.getElem?_cons_zero, Option.some.injEq] at hi
                  subst hi
                  refine ro_do rfl (by rfl) ?_
                  (refine wp_appK w (.tmp 153) (.tmp 154) 33 rfl Z (fun g h => HZB.out w hf.1.1.size g h) 5 (.int .u8 0) 1 Try.underlying33 Try.info5 rfl HZ1.out (x 10) n (by simp [Act.eval]) d10 ⟨q, 0, none⟩ 1 u ?_ hu hu1 (by omega) (by omega) ?_; simp [Act.eval, eq]; intro v' w' hv' hs')
                  refine hK _ (v') _ ?_ ?_ ?_ ?_
                  · simp [upd, Act.put]
                  · (show OkRow w' Z (n + 1) (upd x 12 v' 12); rw [upd_same]; exact hv')
                  · exact ⟨FB.stp hf.1 HGZ.out hs', hf.2.stp hs'⟩
                  · exact hs'.sb
                | 13, _, hi, hl, hcl, hd, hK =>
                  simp only [List.getElem?_toArray, List.getElem?_cons_succ, List.getElem?_cons_zero, Option.some.injEq] at hi
                  subst hi
                  refine ro_do rfl (by rfl) ?_
                  go_simp
                  refine hK _ (.slice (some ⟨gp, 0, none⟩) 3 cp) _ ?_ ?_ ?_ ?_
                  · simp [upd]
                  · exact upd_same x 13 _
                  · exact hf
                  · exact fun _ _ h => h
                | 14, _, hi, hl, hcl, hd, hK =>
                  have d13 : x 13 = .slice (some ⟨gp, 0, none⟩) 3 cp := hd 13 (by kernel_rfl)
                  simp only [List.getElem?_toArray, List.getElem?_cons_succ, List.getElem?_cons_zero, Option.some.injEq] at hi
                  subst hi
                  simp only [d13]
                  refine ro_do rfl (by rfl) ?_
                  go_simp
                  refine hK _ (.pointer (some ⟨gp, 2, none⟩)) _ ?_ ?_ ?_ ?_
                  · simp [upd, d13]
                  · exact upd_same x 14 _
                  · exact hf
                  · exact fun _ _ h => h
                | 15, _, hi, hl, hcl, hd, hK =>
                  have d14 : x 14 = .pointer (some ⟨gp, 2, none⟩) := hd 14 (by kernel_rfl)
                  have hf2 : FB Z gp n w13 (l 19) (l 21) (l 23) w := hf.1
                  obtain ⟨y, hc, ho, hfz⟩ := hf2.cell2
                  rw [hcl 23 (by kernel_rfl)] at ho
                  simp only [cond_false] at ho
                  obtain ⟨gy, cy, sy, rfl, y1, y2, y3, y4⟩ := ho
                  have ho : OkRow w Z n (.slice (some ⟨gy, 0, none⟩) n cy) := ⟨gy, cy, sy, rfl, y1, y2, y3, y4⟩
                  clear hf2 y1 y2 y3 y4
                  simp only [List.getElem?_toArray, List.getElem?_cons_succ, List.getElem?_cons_zero, Option.some.injEq] at hi
                  subst hi
                  simp only [d14]
                  refine ro_do rfl (by rfl) ?_
                  go_simp
                  refine hK _ (.slice (some ⟨gy, 0, none⟩) n cy) _ ?_ ?_ ?_ ?_
                  · simp [upd, d14]
                  · (show OkRow w Z n (upd x 15 _ 15); rw [upd_same]; exact ho)
                  · exact hf
                  · exact fun _ _ h => h
                | 16, _, hi, hl, hcl, hd, hK =>
                  simp only [List.getElem?_toArray, List.getElem?_cons_succ, List.getElem?_cons_zero, Option.some.injEq] at hi
                  subst hi
                  refine ro_do rfl (by rfl) ?_
                  go_simp
                  refine hK _ (.slice (some ⟨w.heap.size, 0, none⟩) 1 1) _ ?_ ?_ ?_ ?_
                  · simp [upd]
                  · (show NewC _ (upd x 16 _ 16); rw [upd_same]; exact NewC.mk' w _ rfl)
                  · exact ⟨FB.stp hf.1 HGZ.out ((Stp.refl _ _).alloc _), hf.2.stp ((Stp.refl Z _).alloc _)⟩
                  · exact fun _ _ h => h.alloc _
                | 17, _, hi, hl, hcl, hd, hK =>
                  have d12 : OkRow w Z (n + 1) (x 12) := hd 12 (by kernel_rfl)
                  have d15 : OkRow w Z n (x 15) := hd 15 (by kernel_rfl)
                  have d16 : NewC w (x 16) := hd 16 (by kernel_rfl)
                  obtain ⟨q, sq, eq, hq1, hq2⟩ := d16
                  obtain ⟨u, hu, hu1⟩ := hq1.cell hq2
                  simp only [List.getElem?_toArray, List.getElem?_cons_succ, List.getElem?_cons_zero, Option.some.injEq] at hi
                  subst hi
                  refine ro_do rfl (by rfl) ?_
                  (refine wp_appK w (.tmp 158) (.tmp 159) 33 rfl Z (fun g h => HZB.out w hf.1.1.size g h) 5 (.int .u8 0) 1 Try.underlying33 Try.info5 rfl HZ1.out (x 15) n (by simp [Act.eval]) d15 ⟨q, 0, none⟩ 1 u ?_ hu hu1 (by omega) (by omega) ?_; simp [Act.eval, eq]; intro v' w' hv' hs')
                  refine hK _ (v') _ ?_ ?_ ?_ ?_
                  · simp [upd, Act.put]
                  · (show OkRow w' Z (n + 1) (upd x 17 v' 17); rw [upd_same]; exact hv')
                  · exact ⟨FB.stp hf.1 HGZ.out hs', hf.2.stp hs'⟩
                  · exact hs'.sb
                | 18, _, hi, hl, hcl, hd, hK =>
                  have d0 : x 0 = .slice (some ⟨gp, 0, none⟩) 3 cp := hd 0 (by kernel_rfl)
                  have d3 : x 3 = .slice (some ⟨gp, 0, none⟩) 3 cp := hd 3 (by kernel_rfl)
                  have d4 : x 4 = .pointer (some ⟨gp, 0, none⟩) := hd 4 (by kernel_rfl)
                  have d5 : OkRow w Z n (x 5) := hd 5 (by kernel_rfl)
                  have d6 : NewC w (x 6) := hd 6 (by kernel_rfl)
                  have d7 : OkRow w Z (n + 1) (x 7) := hd 7 (by kernel_rfl)
                  have d10 : OkRow w Z n (x 10) := hd 10 (by kernel_rfl)
                  have d12 : OkRow w Z (n + 1) (x 12) := hd 12 (by kernel_rfl)
                  have d15 : OkRow w Z n (x 15) := hd 15 (by kernel_rfl)
                  have d17 : OkRow w Z (n + 1) (x 17) := hd 17 (by kernel_rfl)
                  simp only [List.getElem?_toArray, List.getElem?_cons_succ, List.getElem?_cons_zero, Option.some.injEq] at hi
                  subst hi
                  simp only [d0]
                  refine ro_do rfl (by rfl) ?_
                  go_simp
                  refine hK _ (.pointer (some ⟨gp, 0, none⟩)) _ ?_ ?_ ?_ ?_
                  · simp [upd, d3, d4, d0]
                  · exact upd_same x 18 _
                  · exact hf
                  · exact fun _ _ h => h
                | 19, _, hi, hl, hcl, hd, hK =>
                  have d0 : x 0 = .slice (some ⟨gp, 0, none⟩) 3 cp := hd 0 (by kernel_rfl)
                  have d3 : x 3 = .slice (some ⟨gp, 0, none⟩) 3 cp := hd 3 (by kernel_rfl)
                  have d4 : x 4 = .pointer (some ⟨gp, 0, none⟩) := hd 4 (by kernel_rfl)
                  have d5 : OkRow w Z n (x 5) := hd 5 (by kernel_rfl)
                  have d6 : NewC w (x 6) := hd 6 (by kernel_rfl)
                  have d7 : OkRow w Z (n + 1) (x 7) := hd 7 (by kernel_rfl)
                  have d10 : OkRow w Z n (x 10) := hd 10 (by kernel_rfl)
                  have d12 : OkRow w Z (n + 1) (x 12) := hd 12 (by kernel_rfl)
                  have d15 : OkRow w Z n (x 15) := hd 15 (by kernel_rfl)
                  have d17 : OkRow w Z (n + 1) (x 17) := hd 17 (by kernel_rfl)
                  have d18 : x 18 = .pointer (some ⟨gp, 0, none⟩) := hd 18 (by kernel_rfl)
                  have hf2 : FB Z gp n w13 (l 19) (l 21) (l 23) w := hf.1
                  obtain ⟨y, hc, _, hfz⟩ := hf2.cell0
                  obtain ⟨gy, cy, sy, ey, y1, y2, y3, y4⟩ := d7
                  have dv : OkRow w Z (n + 1) (.slice (some ⟨gy, 0, none⟩) (n + 1) cy) := ⟨gy, cy, sy, rfl, y1, y2, y3, y4⟩
                  clear hf2 y1 y2 y3 y4
                  simp only [List.getElem?_toArray, List.getElem?_cons_succ, List.getElem?_cons_zero, Option.some.injEq] at hi
                  subst hi
                  simp only [d18, ey]
                  refine ro_do rfl (by rfl) ?_
                  go_simp
                  refine hK _ (undef) _ ?_ ?_ ?_ ?_
                  · simp [upd, d0, d3, d4, d18, ey]
                  · trivial
                  · exact ⟨FB.store0 hf.1 dv, hf.2.sb (set_sb dv.one)⟩
                  · exact set_sb dv.one
                | 20, _, hi, hl, hcl, hd, hK =>
                  have d0 : x 0 = .slice (some ⟨gp, 0, none⟩) 3 cp := hd 0 (by kernel_rfl)
                  have d1 : x 1 = .slice (some ⟨gp, 0, none⟩) 3 cp := hd 1 (by kernel_rfl)
                  have d3 : x 3 = .slice (some ⟨gp, 0, none⟩) 3 cp := hd 3 (by kernel_rfl)
                  have d4 : x 4 = .pointer (some ⟨gp, 0, none⟩) := hd 4 (by kernel_rfl)
                  have d5 : OkRow w Z n (x 5) := hd 5 (by kernel_rfl)
                  have d6 : NewC w (x 6) := hd 6 (by kernel_rfl)
                  have d7 : OkRow w Z (n + 1) (x 7) := hd 7 (by kernel_rfl)
                  have d8 : x 8 = .slice (some ⟨gp, 0, none⟩) 3 cp := hd 8 (by kernel_rfl)
                  have d9 : x 9 = .pointer (some ⟨gp, 1, none⟩) := hd 9 (by kernel_rfl)
                  have d10 : OkRow w Z n (x 10) := hd 10 (by kernel_rfl)
                  have d11 : NewC w (x 11) := hd 11 (by kernel_rfl)
                  have d12 : OkRow w Z (n + 1) (x 12) := hd 12 (by kernel_rfl)
                  have d15 : OkRow w Z n (x 15) := hd 15 (by kernel_rfl)
                  have d17 : OkRow w Z (n + 1) (x 17) := hd 17 (by kernel_rfl)
                  have d18 : x 18 = .pointer (some ⟨gp, 0, none⟩) := hd 18 (by kernel_rfl)
                  have d19 : True := hd 19 (by kernel_rfl)
                  simp only [List.getElem?_toArray, List.getElem?_cons_succ, List.getElem?_cons_zero, Option.some.injEq] at hi
                  subst hi
                  simp only [d1]
                  refine ro_do rfl (by rfl) ?_
                  go_simp
                  refine hK _ (.pointer (some ⟨gp, 1, none⟩)) _ ?_ ?_ ?_ ?_
                  · simp [upd, d0, d3, d4, d8, d9, d18, d1]
                  · exact upd_same x 20 _
                  · exact hf
                  · exact fun _ _ h => h
                | 21, _, hi, hl, hcl, hd, hK =>
                  have d0 : x 0 = .slice (some ⟨gp, 0, none⟩) 3 cp := hd 0 (by kernel_rfl)
                  have d1 : x 1 = .slice (some ⟨gp, 0, none⟩) 3 cp := hd 1 (by kernel_rfl)
                  have d3 : x 3 = .slice (some ⟨gp, 0, none⟩) 3 cp := hd 3 (by kernel_rfl)
                  have d4 : x 4 = .pointer (some ⟨gp, 0, none⟩) := hd 4 (by kernel_rfl)
                  have d5 : OkRow w Z n (x 5) := hd 5 (by kernel_rfl)
                  have d6 : NewC w (x 6) := hd 6 (by kernel_rfl)
                  have d7 : OkRow w Z (n + 1) (x 7) := hd 7 (by kernel_rfl)
                  have d8 : x 8 = .slice (some ⟨gp, 0, none⟩) 3 cp := hd 8 (by kernel_rfl)
                  have d9 : x 9 = .pointer (some ⟨gp, 1, none⟩) := hd 9 (by kernel_rfl)
                  have d10 : OkRow w Z n (x 10) := hd 10 (by kernel_rfl)
                  have d11 : NewC w (x 11) := hd 11 (by kernel_rfl)
                  have d12 : OkRow w Z (n + 1) (x 12) := hd 12 (by kernel_rfl)
                  have d15 : OkRow w Z n (x 15) := hd 15 (by kernel_rfl)
                  have d17 : OkRow w Z (n + 1) (x 17) := hd 17 (by kernel_rfl)
                  have d18 : x 18 = .pointer (some ⟨gp, 0, none⟩) := hd 18 (by kernel_rfl)
                  have d19 : True := hd 19 (by kernel_rfl)
                  have d20 : x 20 = .pointer (some ⟨gp, 1, none⟩) := hd 20 (by kernel_rfl)
                  have hf2 : FB Z gp n w13 (l 19) (l 21) (l 23) w := hf.1
                  obtain ⟨y, hc, _, hfz⟩ := hf2.cell1
                  obtain ⟨gy, cy, sy, ey, y1, y2, y3, y4⟩ := d12
                  have dv : OkRow w Z (n + 1) (.slice (some ⟨gy, 0, none⟩) (n + 1) cy) := ⟨gy, cy, sy, rfl, y1, y2, y3, y4⟩
                  clear hf2 y1 y2 y3 y4
                  simp only [List.getElem?_toArray, List.getElem?_cons_succ, List.getElem?_cons_zero, Option.some.injEq] at hi
                  subst hi
                  simp only [d20, ey]
                  refine ro_do rfl (by rfl) ?_
                  go_simp
                  refine hK _ (undef) _ ?_ ?_ ?_ ?_
                  · simp [upd, d0, d1, d3, d4, d8, d9, d18, d20, ey]
                  · trivial
                  · exact ⟨FB.store1 hf.1 dv, hf.2.sb (set_sb dv.one)⟩
                  · exact set_sb dv.one
                | 22, _, hi, hl, hcl, hd, hK =>
                  have d0 : x 0 = .slice (some ⟨gp, 0, none⟩) 3 cp := hd 0 (by kernel_rfl)
                  have d1 : x 1 = .slice (some ⟨gp, 0, none⟩) 3 cp := hd 1 (by kernel_rfl)
                  have d2 : x 2 = .slice (some ⟨gp, 0, none⟩) 3 cp := hd 2 (by kernel_rfl)
                  have d3 : x 3 = .slice (some ⟨gp, 0, none⟩) 3 cp := hd 3 (by kernel_rfl)
                  have d4 : x 4 = .pointer (some ⟨gp, 0, none⟩) := hd 4 (by kernel_rfl)
                  have d5 : OkRow w Z n (x 5) := hd 5 (by kernel_rfl)
                  have d6 : NewC w (x 6) := hd 6 (by kernel_rfl)
                  have d7 : OkRow w Z (n + 1) (x 7) := hd 7 (by kernel_rfl)
                  have d8 : x 8 = .slice (some ⟨gp, 0, none⟩) 3 cp := hd 8 (by kernel_rfl)
                  have d9 : x 9 = .pointer (some ⟨gp, 1, none⟩) := hd 9 (by kernel_rfl)
                  have d10 : OkRow w Z n (x 10) := hd 10 (by kernel_rfl)
                  have d11 : NewC w (x 11) := hd 11 (by kernel_rfl)
                  have d12 : OkRow w Z (n + 1) (x 12) := hd 12 (by kernel_rfl)
                  have d13 : x 13 = .slice (some ⟨gp, 0, none⟩) 3 cp := hd 13 (by kernel_rfl)
                  have d14 : x 14 = .pointer (some ⟨gp, 2, none⟩) := hd 14 (by kernel_rfl)
                  have d15 : OkRow w Z n (x 15) := hd 15 (by kernel_rfl)
                  have d16 : NewC w (x 16) := hd 16 (by kernel_rfl)
                  have d17 : OkRow w Z (n + 1) (x 17) := hd 17 (by kernel_rfl)
                  have d18 : x 18 = .pointer (some ⟨gp, 0, none⟩) := hd 18 (by kernel_rfl)
                  have d19 : True := hd 19 (by kernel_rfl)
                  have d20 : x 20 = .pointer (some ⟨gp, 1, none⟩) := hd 20 (by kernel_rfl)
                  have d21 : True := hd 21 (by kernel_rfl)
                  simp only [List.getElem?_toArray, List.getElem?_cons_succ, List.getElem?_cons_zero, Option.some.injEq] at hi
                  subst hi
                  simp only [d2]
                  refine ro_do rfl (by rfl) ?_
                  go_simp
                  refine hK _ (.pointer (some ⟨gp, 2, none⟩)) _ ?_ ?_ ?_ ?_
                  · simp [upd, d0, d1, d3, d4, d8, d9, d13, d14, d18, d20, d2]
                  · exact upd_same x 22 _
                  · exact hf
                  · exact fun _ _ h => h
                | 23, _, hi, hl, hcl, hd, hK =>
                  have d0 : x 0 = .slice (some ⟨gp, 0, none⟩) 3 cp := hd 0 (by kernel_rfl)
                  have d1 : x 1 = .slice (some ⟨gp, 0, none⟩) 3 cp := hd 1 (by kernel_rfl)
                  have d2 : x 2 = .slice (some ⟨gp, 0, none⟩) 3 cp := hd 2 (by kernel_rfl)
                  have d3 : x 3 = .slice (some ⟨gp, 0, none⟩) 3 cp := hd 3 (by kernel_rfl)
                  have d4 : x 4 = .pointer (some ⟨gp, 0, none⟩) := hd 4 (by kernel_rfl)
                  have d5 : OkRow w Z n (x 5) := hd 5 (by kernel_rfl)
                  have d6 : NewC w (x 6) := hd 6 (by kernel_rfl)
                  have d7 : OkRow w Z (n + 1) (x 7) := hd 7 (by kernel_rfl)
                  have d8 : x 8 = .slice (some ⟨gp, 0, none⟩) 3 cp := hd 8 (by kernel_rfl)
                  have d9 : x 9 = .pointer (some ⟨gp, 1, none⟩) := hd 9 (by kernel_rfl)
                  have d10 : OkRow w Z n (x 10) := hd 10 (by kernel_rfl)
                  have d11 : NewC w (x 11) := hd 11 (by kernel_rfl)
                  have d12 : OkRow w Z (n + 1) (x 12) := hd 12 (by kernel_rfl)
                  have d13 : x 13 = .slice (some ⟨gp, 0, none⟩) 3 cp := hd 13 (by kernel_rfl)
                  have d14 : x 14 = .pointer (some ⟨gp, 2, none⟩) := hd 14 (by kernel_rfl)
                  have d15 : OkRow w Z n (x 15) := hd 15 (by kernel_rfl)
                  have d16 : NewC w (x 16) := hd 16 (by kernel_rfl)
                  have d17 : OkRow w Z (n + 1) (x 17) := hd 17 (by kernel_rfl)
                  have d18 : x 18 = .pointer (some ⟨gp, 0, none⟩) := hd 18 (by kernel_rfl)
                  have d19 : True := hd 19 (by kernel_rfl)
                  have d20 : x 20 = .pointer (some ⟨gp, 1, none⟩) := hd 20 (by kernel_rfl)
                  have d21 : True := hd 21 (by kernel_rfl)
                  have d22 : x 22 = .pointer (some ⟨gp, 2, none⟩) := hd 22 (by kernel_rfl)
                  have hf2 : FB Z gp n w13 (l 19) (l 21) (l 23) w := hf.1
                  obtain ⟨y, hc, _, hfz⟩ := hf2.cell2
                  obtain ⟨gy, cy, sy, ey, y1, y2, y3, y4⟩ := d17
                  have dv : OkRow w Z (n + 1) (.slice (some ⟨gy, 0, none⟩) (n + 1) cy) := ⟨gy, cy, sy, rfl, y1, y2, y3, y4⟩
                  clear hf2 y1 y2 y3 y4
                  simp only [List.getElem?_toArray, List.getElem?_cons_succ, List.getElem?_cons_zero, Option.some.injEq] at hi
                  subst hi
                  simp only [d22, ey]
                  refine ro_do rfl (by rfl) ?_
                  go_simp
                  refine hK _ (undef) _ ?_ ?_ ?_ ?_
                  · simp [upd, d0, d1, d2, d3, d4, d8, d9, d13, d14, d18, d20, d22, ey]
                  · trivial
                  · exact ⟨FB.store2 hf.1 dv, hf.2.sb (set_sb dv.one)⟩
                  · exact set_sb dv.one
                | k + 24, hil, _, _, _, _, _ => exact absurd hil (by simp)
              intro l x w hf hl hp
              have p0 : x 0 = .slice (some ⟨gp, 0, none⟩) 3 cp := hp 0 (by decide)
              have p1 : x 1 = .slice (some ⟨gp, 0, none⟩) 3 cp := hp 1 (by decide)
              have p2 : x 2 = .slice (some ⟨gp, 0, none⟩) 3 cp := hp 2 (by decide)
              have p3 : x 3 = .slice (some ⟨gp, 0, none⟩) 3 cp := hp 3 (by decide)
              have p4 : x 4 = .pointer (some ⟨gp, 0, none⟩) := hp 4 (by decide)
              have p5 : OkRow w Z n (x 5) := hp 5 (by decide)
              have p6 : NewC w (x 6) := hp 6 (by decide)
              have p7 : OkRow w Z (n + 1) (x 7) := hp 7 (by decide)
              have p8 : x 8 = .slice (some ⟨gp, 0, none⟩) 3 cp := hp 8 (by decide)
              have p9 : x 9 = .pointer (some ⟨gp, 1, none⟩) := hp 9 (by decide)
              have p10 : OkRow w Z n (x 10) := hp 10 (by decide)
              have p11 : NewC w (x 11) := hp 11 (by decide)
              have p12 : OkRow w Z (n + 1) (x 12) := hp 12 (by decide)
              have p13 : x 13 = .slice (some ⟨gp, 0, none⟩) 3 cp := hp 13 (by decide)
              have p14 : x 14 = .pointer (some ⟨gp, 2, none⟩) := hp 14 (by decide)
              have p15 : OkRow w Z n (x 15) := hp 15 (by decide)
              have p16 : NewC w (x 16) := hp 16 (by decide)
              have p17 : OkRow w Z (n + 1) (x 17) := hp 17 (by decide)
              have p18 : x 18 = .pointer (some ⟨gp, 0, none⟩) := hp 18 (by decide)
              have p19 : True := hp 19 (by decide)
              have p20 : x 20 = .pointer (some ⟨gp, 1, none⟩) := hp 20 (by decide)
              have p21 : True := hp 21 (by decide)
              have p22 : x 22 = .pointer (some ⟨gp, 2, none⟩) := hp 22 (by decide)
              have p23 : True := hp 23 (by decide)
              clear hp
              have HFE := Lib.hid (show FB Z gp (n + 1) w13 false false false w by
                have h := hf.1
                rw [hl 19 (by decide), hl 21 (by decide), hl 23 (by decide)] at h
                exact h.next)
              have HAE := Lib.hid hf.2
              have HNE1 := Lib.hid (show 64 + (k + 1) = n + 1 by rw [← HN.out]; omega)
              clear hf p0 p1 p2 p3 p4 p5 p6 p7 p8 p9 p10 p11 p12 p13 p14 p15 p16 p17 p18 p19 p20 p21 p22 p23
              go_wp2
              go_roundw
              case rel => exact ⟨k + 1, by omega, by go_num, by rw [HNE1.out]; exact HAE.out, by rw [HNE1.out]; exact HFE.out⟩
              case measure => simp [intOf]; omega
            · have hk1 : ¬ (k : Int) < 70 := by omega
              clear hlt hk hav
              obtain ⟨w16, hw⟩ : ∃ w16 : World, w16 = wr := ⟨_, rfl⟩
              subst hw
              have K16 := Lib.hid HFB.out.1
              have HB16 := Lib.hid (HBB13.out.kp K16.out (fun m => Or.elim m HGB'.out (fun e => HPB.out e.symm)))
              have HQ16 := Lib.hid (HQ13.out.kp K16.out (fun g h1 h2 => HZQ.out g h1 h2))
              have HD9 := Lib.hid (And.intro DY9.out.st.lt (DY9.out.se.elim fun _ h => h.lt))
              have K913 := Lib.hid (K10.out.trans (K11.out.trans K1213.out))
              have DY16 := Lib.hid ((DY9.out.no K913.out).far2 K16.out (HZ9.out b2 HD9.out.1) (HZ9.out s2 HD9.out.2))
              have K116 := Lib.hid (show Kp No w1 w16 from K1x.out.then_ K16.out (fun i hi m => HZ9.out i (Nat.lt_of_lt_of_le hi K19.out.size) m))
              clear HFB HBB13 HQ13 DY9 K16 K1x HGZ HGB' HZQ HZ9 HPB HZB HBP HZ1 K913 HD9 K10 K11 K13 K1213
              go_wp2_with fail
              refine (PF.out _).mono ?_
              rintro e w17 ⟨g8, rfl, hb8, hg8, k8⟩
              have s8 := (hb8.arg64 HSL.out).str (P := Try.prog) 33 5 9 Try.underlying33 Try.underlying5 Try.underlying9
              rw [HZ0.out] at s8
              have HB17 := Lib.hid (HB16.out.no k8); have HQ17 := Lib.hid (HQ16.out.kp k8 (fun _ _ _ m => m)); have DY17 := Lib.hid (DY16.out.no k8); have K117 := Lib.hid (K116.out.trans k8)
              clear HB16 HQ16 DY16 K116 k8 hb8 hg8
              obtain ⟨m, hm, hm3, hmj⟩ : ∃ m : Nat, ((j : Int) + 1).tmod 3 = (m : Int) ∧ m < 3 ∧ m ≠ j := ⟨((j : Int) + 1).tmod 3 |>.toNat, by rw [Int.tmod_eq_emod_of_nonneg (by omega)]; omega, by rw [Int.tmod_eq_emod_of_nonneg (by omega)]; omega, by rw [Int.tmod_eq_emod_of_nonneg (by omega)]; omega⟩
              have hff : St.fault ⟨(List.replicate 3 zeroB).set j S, 0 + 1, false, 0, false⟩ (m : Int) = 0 := free_fault (by simpa using hm3)
              have c := fun W (h : DkS W b2 s2 3 ⟨(List.replicate 3 zeroB).set j S, 0 + 1, false, 0, false⟩) => read_all b2 s2 3 (m : Int) W _ h
              rw [hff] at c
              have CR := Lib.hid c
              clear c hff
              go_wp2_with fail
              clear s8
              refine (CR.out _ DY17.out).mono ?_
              rintro e w18 ⟨x, rfl, k18, _, hx⟩
              obtain ⟨hi', _, gz, rfl, hgz, hbz⟩ := hx trivial
              have hzz := zero_else (i := (m : Int).toNat) hi' (by omega)
              have hbz' : Bk w18 gz 61 (u8s zeroB) := by
                rw [← hzz]; exact hbz
              have HBZ := Lib.hid hbz'
              have HB18 := Lib.hid (HB17.out.no k18); have HQ18 := Lib.hid (HQ17.out.kp k18 (fun _ _ _ m => m)); have K118 := Lib.hid (K117.out.trans k18)
              clear hx hi' hbz hbz' hzz hgz k18 HB17 HQ17 DY17 K117 CR hm hm3 hmj
              obtain ⟨zz, hzz⟩ : ∃ zz : ByteArray, (⟨zeroB.toArray⟩ : ByteArray) = zz := ⟨_, rfl⟩
              have HZZ := Lib.hid hzz
              obtain ⟨ys, hyo, hyr⟩ := HQ18.out.ex
              have hyo' : w18.ownsRow w12.heap.size 33 1 vq 3 ys := hyo
              obtain ⟨gq, cq, hvq, hcq, _, _⟩ := own_formK hyo' (by omega)
              subst hvq
              obtain ⟨y0, hy0, q0, e0, _, _, hk0⟩ := hyr 0 (by simp)
              obtain ⟨y1, hy1, q1, e1, _, _, hk1'⟩ := hyr 1 (by simp)
              obtain ⟨y2, hy2, q2, e2, _, _, hk2⟩ := hyr 2 (by simp)
              subst e0 e1 e2
              have hb0 : Bk w18 q0 61 (u8s S) := hk0
              have hb1 : Bk w18 q1 61 (u8s S) := hk1'
              have hb2 : Bk w18 q2 61 (u8s S) := hk2
              have HYO := Lib.hid hyo'
              have mc : ∀ (i : Nat) (y : Value), ys[i]? = some y → ∀ W, Kp No w18 W → W.cell? ⟨gq, i, none⟩ = some y := fun i y hy W k => by
                have h := World.ownsRow.cells (own_kp HYO.out k (fun _ _ m => m)) (g := gq) rfl i _ hy
                rwa [Addr.add_mid, Nat.zero_add] at h
              have HC0 := Lib.hid (mc 0 _ hy0); have HC1 := Lib.hid (mc 1 _ hy1); have HC2 := Lib.hid (mc 2 _ hy2)
              have mt : ∀ (g : Nat), Bk w18 g 61 (u8s S) → ∀ W, Kp No w18 W → (convert 33 9 (.slice (some ⟨g, 0, none⟩) 64 64)).run Try.prog W = .ok (.string z0) W := fun g hb W k => by
                have h := ((hb.no k).arg64 HSL.out).str (P := Try.prog) 33 5 9 Try.underlying33 Try.underlying5 Try.underlying9
                rwa [HZ0.out] at h
              have T0 := Lib.hid (mt q0 hb0); have T1 := Lib.hid (mt q1 hb1); have T2 := Lib.hid (mt q2 hb2); have TB := Lib.hid (mt gb HB18.out)
              have TZ := Lib.hid (show ∀ W, Kp No w18 W → (convert 33 9 (.slice (some ⟨gz, 0, none⟩) 64 64)).run Try.prog W = .ok (.string zz) W from fun W k => by
                have h := ((HBZ.out.no k).arg64 (by decide)).str (P := Try.prog) 33 5 9 Try.underlying33 Try.underlying5 Try.underlying9
                rwa [hzz] at h)
              have tn := ((show Bk (w18.alloc (.cells zero64.toArray 5)) w18.heap.size 5 (u8s zeroB) from by rw [u8s_zero]; exact Bk.new' rfl rfl).arg64 (by decide)).drew.str (P := Try.prog) 33 5 9 Try.underlying33 Try.underlying5 Try.underlying9
              rw [hzz] at tn
              clear hzz hyo hyo' hyr hk0 hk1' hk2 hb0 hb1 hb2 hy0 hy1 hy2 HQ18 HB18 HBZ mc mt HYO
              go_wp2_with (first
                | (go_at_call 13; refine (arm_nil 1 _).mono ?_; rintro e w' ⟨rfl, rfl⟩)
                | (go_at_call 15; refine (on_nil _).mono ?_; rintro e w' ⟨rfl, rfl⟩)
                | (go_at_call 11; refine (read_nil 0 _).mono ?_; rintro e w' ⟨rfl, rfl⟩))
              have HFK := Lib.hid (show ∀ W, Kp No w18 W → (fun W => Kp No w18 W ∧ W.cell? ⟨gq, 0, none⟩ = some (.slice (some ⟨q0, 0, none⟩) 64 64) ∧ W.cell? ⟨gq, 1, none⟩ = some (.slice (some ⟨q1, 0, none⟩) 64 64) ∧ W.cell? ⟨gq, 2, none⟩ = some (.slice (some ⟨q2, 0, none⟩) 64 64) ∧ (convert 33 9 (.slice (some ⟨gb, 0, none⟩) 64 64)).run Try.prog W = .ok (.string z0) W ∧ (convert 33 9 (.slice (some ⟨q0, 0, none⟩) 64 64)).run Try.prog W = .ok (.string z0) W ∧ (convert 33 9 (.slice (some ⟨q1, 0, none⟩) 64 64)).run Try.prog W = .ok (.string z0) W ∧ (convert 33 9 (.slice (some ⟨q2, 0, none⟩) 64 64)).run Try.prog W = .ok (.string z0) W ∧ (convert 33 9 (.slice (some ⟨gz, 0, none⟩) 64 64)).run Try.prog W = .ok (.string zz) W) W from fun W k => ⟨k, (HC0.out W k), (HC1.out W k), (HC2.out W k), (TB.out W k), (T0.out W k), (T1.out W k), (T2.out W k), (TZ.out W k)⟩)
              have hF := HFK.out _ (Kp.refl No w18).drew
              refine rg_begin (fun W => Kp No w18 W ∧ W.cell? ⟨gq, 0, none⟩ = some (.slice (some ⟨q0, 0, none⟩) 64 64) ∧ W.cell? ⟨gq, 1, none⟩ = some (.slice (some ⟨q1, 0, none⟩) 64 64) ∧ W.cell? ⟨gq, 2, none⟩ = some (.slice (some ⟨q2, 0, none⟩) 64 64) ∧ (convert 33 9 (.slice (some ⟨gb, 0, none⟩) 64 64)).run Try.prog W = .ok (.string z0) W ∧ (convert 33 9 (.slice (some ⟨q0, 0, none⟩) 64 64)).run Try.prog W = .ok (.string z0) W ∧ (convert 33 9 (.slice (some ⟨q1, 0, none⟩) 64 64)).run Try.prog W = .ok (.string z0) W ∧ (convert 33 9 (.slice (some ⟨q2, 0, none⟩) 64 64)).run Try.prog W = .ok (.string z0) W ∧ (convert 33 9 (.slice (some ⟨gz, 0, none⟩) 64 64)).run Try.prog W = .ok (.string zz) W) 72 (by kernel_rfl) ?_
              refine rg_take (i := 0) (v := ?vd0) (by simp only [List.getElem?_toArray]; rfl) (by kernel_rfl) (by exact fun _ _ _ h => h) (by rfl) ?rd0 hF ?sd0
              case rd0 => (intro W hW; clear hW; go_simp; try with_reducible rfl)
              try simp only [Act.put, List.setIfInBounds_toArray, List.set_cons_zero, List.set_cons_succ]
              refine rg_take (i := 1) (v := ?vd1) (by simp only [List.getElem?_toArray]; rfl) (by kernel_rfl) (by exact fun _ _ _ h => h) (by rfl) ?rd1 hF ?sd1
              case rd1 => (intro W hW; obtain ⟨f0, f1, f2, f3, f4, f5, f6, f7, f8⟩ := hW; go_simp; try with_reducible rfl)
              try simp only [Act.put, List.setIfInBounds_toArray, List.set_cons_zero, List.set_cons_succ]
              refine rg_take (i := 2) (v := ?vd2) (by simp only [List.getElem?_toArray]; rfl) (by kernel_rfl) (by exact fun _ _ _ h => h) (by rfl) ?rd2 hF ?sd2
              case rd2 => (intro W hW; clear hW; go_simp; try with_reducible rfl)
              try simp only [Act.put, List.setIfInBounds_toArray, List.set_cons_zero, List.set_cons_succ]
              refine rg_take (i := 3) (v := ?vd3) (by simp only [List.getElem?_toArray]; rfl) (by kernel_rfl) (by exact fun _ _ _ h => h) (by rfl) ?rd3 hF ?sd3
              case rd3 => (intro W hW; clear hW; go_simp; try with_reducible rfl)
              try simp only [Act.put, List.setIfInBounds_toArray, List.set_cons_zero, List.set_cons_succ]
              refine rg_take (i := 4) (v := ?vd4) (by simp only [List.getElem?_toArray]; rfl) (by kernel_rfl) (by exact fun _ _ _ h => h) (by rfl) ?rd4 hF ?sd4
              case rd4 => (intro W hW; clear hW; go_simp; try with_reducible rfl)
              try simp only [Act.put, List.setIfInBounds_toArray, List.set_cons_zero, List.set_cons_succ]
              refine rg_take (i := 5) (v := ?vd5) (by simp only [List.getElem?_toArray]; rfl) (by kernel_rfl) (by exact fun _ _ _ h => h) (by rfl) ?rd5 hF ?sd5
              case rd5 => (intro W hW; clear hW; go_simp; try with_reducible rfl)
              try simp only [Act.put, List.setIfInBounds_toArray, List.set_cons_zero, List.set_cons_succ]
              refine rg_take (i := 6) (v := ?vd6) (by simp only [List.getElem?_toArray]; rfl) (by kernel_rfl) (by exact fun _ _ _ h => h) (by rfl) ?rd6 hF ?sd6
              case rd6 => (intro W hW; clear hW; go_simp; try with_reducible rfl)
              try simp only [Act.put, List.setIfInBounds_toArray, List.set_cons_zero, List.set_cons_succ]
              refine rg_take (i := 7) (v := ?vd7) (by simp only [List.getElem?_toArray]; rfl) (by kernel_rfl) (by exact fun _ _ _ h => h) (by rfl) ?rd7 hF ?sd7
              case rd7 => (intro W hW; obtain ⟨f0, f1, f2, f3, f4, f5, f6, f7, f8⟩ := hW; go_simp; try with_reducible rfl)
              try simp only [Act.put, List.setIfInBounds_toArray, List.set_cons_zero, List.set_cons_succ]
              refine rg_take (i := 8) (v := ?vd8) (by simp only [List.getElem?_toArray]; rfl) (by kernel_rfl) (by exact fun _ _ _ h => h) (by rfl) ?rd8 hF ?sd8
              case rd8 => (intro W hW; obtain ⟨f0, f1, f2, f3, f4, f5, f6, f7, f8⟩ := hW; go_simp; try with_reducible rfl)
              try simp only [Act.put, List.setIfInBounds_toArray, List.set_cons_zero, List.set_cons_succ]
              refine rg_take (i := 9) (v := ?vd9) (by simp only [List.getElem?_toArray]; rfl) (by kernel_rfl) (by exact fun _ _ _ h => h) (by rfl) ?rd9 hF ?sd9
              case rd9 => (intro W hW; clear hW; go_simp; try with_reducible rfl)
              try simp only [Act.put, List.setIfInBounds_toArray, List.set_cons_zero, List.set_cons_succ]
              refine rg_take (i := 10) (v := ?vd10) (by simp only [List.getElem?_toArray]; rfl) (by kernel_rfl) (by exact fun _ _ _ h => h) (by rfl) ?rd10 hF ?sd10
              case rd10 => (intro W hW; clear hW; go_simp; try with_reducible rfl)
              try simp only [Act.put, List.setIfInBounds_toArray, List.set_cons_zero, List.set_cons_succ]
              refine rg_take (i := 11) (v := ?vd11) (by simp only [List.getElem?_toArray]; rfl) (by kernel_rfl) (by exact fun _ _ _ h => h) (by rfl) ?rd11 hF ?sd11
              case rd11 => (intro W hW; clear hW; go_simp; try with_reducible rfl)
              try simp only [Act.put, List.setIfInBounds_toArray, List.set_cons_zero, List.set_cons_succ]
              refine rg_take (i := 12) (v := ?vd12) (by simp only [List.getElem?_toArray]; rfl) (by kernel_rfl) (by exact fun _ _ _ h => h) (by rfl) ?rd12 hF ?sd12
              case rd12 => (intro W hW; clear hW; go_simp; try with_reducible rfl)
              try simp only [Act.put, List.setIfInBounds_toArray, List.set_cons_zero, List.set_cons_succ]
              refine rg_take (i := 13) (v := ?vd13) (by simp only [List.getElem?_toArray]; rfl) (by kernel_rfl) (by exact fun _ _ _ h => h) (by rfl) ?rd13 hF ?sd13
              case rd13 => (intro W hW; clear hW; go_simp; try with_reducible rfl)
              try simp only [Act.put, List.setIfInBounds_toArray, List.set_cons_zero, List.set_cons_succ]
              refine rg_take (i := 14) (v := ?vd14) (by simp only [List.getElem?_toArray]; rfl) (by kernel_rfl) (by exact fun _ _ _ h => h) (by rfl) ?rd14 hF ?sd14
              case rd14 => (intro W hW; clear hW; go_simp; try with_reducible rfl)
              try simp only [Act.put, List.setIfInBounds_toArray, List.set_cons_zero, List.set_cons_succ]
              refine rg_take (i := 15) (v := ?vd15) (by simp only [List.getElem?_toArray]; rfl) (by kernel_rfl) (by exact fun _ _ _ h => h) (by rfl) ?rd15 hF ?sd15
              case rd15 => (intro W hW; obtain ⟨f0, f1, f2, f3, f4, f5, f6, f7, f8⟩ := hW; go_simp; try with_reducible rfl)
              try simp only [Act.put, List.setIfInBounds_toArray, List.set_cons_zero, List.set_cons_succ]
              refine rg_take (i := 16) (v := ?vd16) (by simp only [List.getElem?_toArray]; rfl) (by kernel_rfl) (by exact fun _ _ _ h => h) (by rfl) ?rd16 hF ?sd16
              case rd16 => (intro W hW; obtain ⟨f0, f1, f2, f3, f4, f5, f6, f7, f8⟩ := hW; go_simp; try with_reducible rfl)
              try simp only [Act.put, List.setIfInBounds_toArray, List.set_cons_zero, List.set_cons_succ]
              refine rg_take (i := 17) (v := ?vd17) (by simp only [List.getElem?_toArray]; rfl) (by kernel_rfl) (by exact fun _ _ _ h => h) (by rfl) ?rd17 hF ?sd17
              case rd17 => (intro W hW; clear hW; go_simp; try with_reducible rfl)
              try simp only [Act.put, List.setIfInBounds_toArray, List.set_cons_zero, List.set_cons_succ]
              refine rg_take (i := 18) (v := ?vd18) (by simp only [List.getElem?_toArray]; rfl) (by kernel_rfl) (by exact fun _ _ _ h => h) (by rfl) ?rd18 hF ?sd18
              case rd18 => (intro W hW; clear hW; go_simp; try with_reducible rfl)
              try simp only [Act.put, List.setIfInBounds_toArray, List.set_cons_zero, List.set_cons_succ]
              refine rg_take (i := 19) (v := ?vd19) (by simp only [List.getElem?_toArray]; rfl) (by kernel_rfl) (by exact fun _ _ _ h => h) (by rfl) ?rd19 hF ?sd19
              case rd19 => (intro W hW; clear hW; go_simp; try with_reducible rfl)
              try simp only [Act.put, List.setIfInBounds_toArray, List.set_cons_zero, List.set_cons_succ]
              refine rg_take (i := 20) (v := ?vd20) (by simp only [List.getElem?_toArray]; rfl) (by kernel_rfl) (by exact fun _ _ _ h => h) (by rfl) ?rd20 hF ?sd20
              case rd20 => (intro W hW; clear hW; go_simp; try with_reducible rfl)
              try simp only [Act.put, List.setIfInBounds_toArray, List.set_cons_zero, List.set_cons_succ]
              refine rg_take (i := 21) (v := ?vd21) (by simp only [List.getElem?_toArray]; rfl) (by kernel_rfl) (by exact fun _ _ _ h => h) (by rfl) ?rd21 hF ?sd21
              case rd21 => (intro W hW; clear hW; go_simp; try with_reducible rfl)
              try simp only [Act.put, List.setIfInBounds_toArray, List.set_cons_zero, List.set_cons_succ]
              refine rg_take (i := 22) (v := ?vd22) (by simp only [List.getElem?_toArray]; rfl) (by kernel_rfl) (by exact fun _ _ _ h => h) (by rfl) ?rd22 hF ?sd22
              case rd22 => (intro W hW; clear hW; go_simp; try with_reducible rfl)
              try simp only [Act.put, List.setIfInBounds_toArray, List.set_cons_zero, List.set_cons_succ]
              refine rg_take (i := 23) (v := ?vd23) (by simp only [List.getElem?_toArray]; rfl) (by kernel_rfl) (by exact fun _ _ _ h => h) (by rfl) ?rd23 hF ?sd23
              case rd23 => (intro W hW; obtain ⟨f0, f1, f2, f3, f4, f5, f6, f7, f8⟩ := hW; go_simp; try with_reducible rfl)
              try simp only [Act.put, List.setIfInBounds_toArray, List.set_cons_zero, List.set_cons_succ]
              refine rg_take (i := 24) (v := ?vd24) (by simp only [List.getElem?_toArray]; rfl) (by kernel_rfl) (by exact fun _ _ _ h => h) (by rfl) ?rd24 hF ?sd24
              case rd24 => (intro W hW; obtain ⟨f0, f1, f2, f3, f4, f5, f6, f7, f8⟩ := hW; go_simp; try with_reducible rfl)
              try simp only [Act.put, List.setIfInBounds_toArray, List.set_cons_zero, List.set_cons_succ]
              refine rg_take (i := 25) (v := ?vd25) (by simp only [List.getElem?_toArray]; rfl) (by kernel_rfl) (by exact fun _ _ _ h => h) (by rfl) ?rd25 hF ?sd25
              case rd25 => (intro W hW; clear hW; go_simp; try with_reducible rfl)
              try simp only [Act.put, List.setIfInBounds_toArray, List.set_cons_zero, List.set_cons_succ]
              refine rg_take (i := 26) (v := ?vd26) (by simp only [List.getElem?_toArray]; rfl) (by kernel_rfl) (by exact fun _ _ _ h => h) (by rfl) ?rd26 hF ?sd26
              case rd26 => (intro W hW; clear hW; go_simp; try with_reducible rfl)
              try simp only [Act.put, List.setIfInBounds_toArray, List.set_cons_zero, List.set_cons_succ]
              refine rg_take (i := 27) (v := ?vd27) (by simp only [List.getElem?_toArray]; rfl) (by kernel_rfl) (by exact fun _ _ _ h => h) (by rfl) ?rd27 hF ?sd27
              case rd27 => (intro W hW; clear hW; go_simp; try with_reducible rfl)
              try simp only [Act.put, List.setIfInBounds_toArray, List.set_cons_zero, List.set_cons_succ]
              refine rg_take (i := 28) (v := ?vd28) (by simp only [List.getElem?_toArray]; rfl) (by kernel_rfl) (by exact fun _ _ _ h => h) (by rfl) ?rd28 hF ?sd28
              case rd28 => (intro W hW; clear hW; go_simp; try with_reducible rfl)
              try simp only [Act.put, List.setIfInBounds_toArray, List.set_cons_zero, List.set_cons_succ]
              refine rg_take (i := 29) (v := ?vd29) (by simp only [List.getElem?_toArray]; rfl) (by kernel_rfl) (by exact fun _ _ _ h => h) (by rfl) ?rd29 hF ?sd29
              case rd29 => (intro W hW; clear hW; go_simp; try with_reducible rfl)
              try simp only [Act.put, List.setIfInBounds_toArray, List.set_cons_zero, List.set_cons_succ]
              refine rg_take (i := 30) (v := ?vd30) (by simp only [List.getElem?_toArray]; rfl) (by kernel_rfl) (by exact fun _ _ _ h => h) (by rfl) ?rd30 hF ?sd30
              case rd30 => (intro W hW; obtain ⟨f0, f1, f2, f3, f4, f5, f6, f7, f8⟩ := hW; go_simp; try with_reducible rfl)
              try simp only [Act.put, List.setIfInBounds_toArray, List.set_cons_zero, List.set_cons_succ]
              refine rg_one (i := 31) (oi := ?od31) ?ad31 ?bd31 ?cd31 ?dd31
              case ad31 => (simp only [List.getElem?_toArray]; rfl)
              case bd31 => kernel_rfl
              case cd31 => rfl
              intro K hK
              (have mk := mk64 w18.drew; go_simp)
              refine rg_use hK ((HFK.out _ ((Kp.refl No w18).drew.alloc _))) (fun hF => ?_)
              clear hK K
              try simp only [Act.put, List.setIfInBounds_toArray, List.set_cons_zero, List.set_cons_succ]
              refine rg_one (i := 32) (oi := ?od32) ?ad32 ?bd32 ?cd32 ?dd32
              case ad32 => (simp only [List.getElem?_toArray]; rfl)
              case bd32 => kernel_rfl
              case cd32 => rfl
              intro K hK
              go_simp
              refine rg_use hK hF (fun hF => ?_)
              clear hK K
              try simp only [Act.put, List.setIfInBounds_toArray, List.set_cons_zero, List.set_cons_succ]
              refine rg_take (i := 33) (v := ?vd33) (by simp only [List.getElem?_toArray]; rfl) (by kernel_rfl) (by exact fun _ _ _ h => h) (by rfl) ?rd33 hF ?sd33
              case rd33 => (intro W hW; clear hW; go_simp; try with_reducible rfl)
              try simp only [Act.put, List.setIfInBounds_toArray, List.set_cons_zero, List.set_cons_succ]
              refine rg_take (i := 34) (v := ?vd34) (by simp only [List.getElem?_toArray]; rfl) (by kernel_rfl) (by exact fun _ _ _ h => h) (by rfl) ?rd34 hF ?sd34
              case rd34 => (intro W hW; clear hW; go_simp; try with_reducible rfl)
              try simp only [Act.put, List.setIfInBounds_toArray, List.set_cons_zero, List.set_cons_succ]
              refine rg_take (i := 35) (v := ?vd35) (by simp only [List.getElem?_toArray]; rfl) (by kernel_rfl) (by exact fun _ _ _ h => h) (by rfl) ?rd35 hF ?sd35
              case rd35 => (intro W hW; clear hW; go_simp; try with_reducible rfl)
              try simp only [Act.put, List.setIfInBounds_toArray, List.set_cons_zero, List.set_cons_succ]
              refine rg_take (i := 36) (v := ?vd36) (by simp only [List.getElem?_toArray]; rfl) (by kernel_rfl) (by exact fun _ _ _ h => h) (by rfl) ?rd36 hF ?sd36
              case rd36 => (intro W hW; clear hW; go_simp; try with_reducible rfl)
              try simp only [Act.put, List.setIfInBounds_toArray, List.set_cons_zero, List.set_cons_succ]
              refine rg_take (i := 37) (v := ?vd37) (by simp only [List.getElem?_toArray]; rfl) (by kernel_rfl) (by exact fun _ _ _ h => h) (by rfl) ?rd37 hF ?sd37
              case rd37 => (intro W hW; clear hW; go_simp; try with_reducible rfl)
              try simp only [Act.put, List.setIfInBounds_toArray, List.set_cons_zero, List.set_cons_succ]
              refine rg_one (i := 38) (oi := ?od38) ?ad38 ?bd38 ?cd38 ?dd38
              case ad38 => (simp only [List.getElem?_toArray]; rfl)
              case bd38 => kernel_rfl
              case cd38 => rfl
              intro K hK
              (go_simp; refine (write_nil 0 _ _).mono ?_; rintro e w' ⟨rfl, rfl⟩)
              refine rg_use hK (hF) (fun hF => ?_)
              clear hK K
              try simp only [Act.put, List.setIfInBounds_toArray, List.set_cons_zero, List.set_cons_succ]
              refine rg_take (i := 39) (v := ?vd39) (by simp only [List.getElem?_toArray]; rfl) (by kernel_rfl) (by exact fun _ _ _ h => h) (by rfl) ?rd39 hF ?sd39
              case rd39 => (intro W hW; clear hW; go_simp; try with_reducible rfl)
              try simp only [Act.put, List.setIfInBounds_toArray, List.set_cons_zero, List.set_cons_succ]
              refine rg_take (i := 40) (v := ?vd40) (by simp only [List.getElem?_toArray]; rfl) (by kernel_rfl) (by exact fun _ _ _ h => h) (by rfl) ?rd40 hF ?sd40
              case rd40 => (intro W hW; clear hW; go_simp; try with_reducible rfl)
              try simp only [Act.put, List.setIfInBounds_toArray, List.set_cons_zero, List.set_cons_succ]
              refine rg_take (i := 41) (v := ?vd41) (by simp only [List.getElem?_toArray]; rfl) (by kernel_rfl) (by exact fun _ _ _ h => h) (by rfl) ?rd41 hF ?sd41
              case rd41 => (intro W hW; clear hW; go_simp; try with_reducible rfl)
              try simp only [Act.put, List.setIfInBounds_toArray, List.set_cons_zero, List.set_cons_succ]
              refine rg_take (i := 42) (v := ?vd42) (by simp only [List.getElem?_toArray]; rfl) (by kernel_rfl) (by exact fun _ _ _ h => h) (by rfl) ?rd42 hF ?sd42
              case rd42 => (intro W hW; clear hW; go_simp; try with_reducible rfl)
              try simp only [Act.put, List.setIfInBounds_toArray, List.set_cons_zero, List.set_cons_succ]
              refine rg_take (i := 43) (v := ?vd43) (by simp only [List.getElem?_toArray]; rfl) (by kernel_rfl) (by exact fun _ _ _ h => h) (by rfl) ?rd43 hF ?sd43
              case rd43 => (intro W hW; clear hW; go_simp; try with_reducible rfl)
              try simp only [Act.put, List.setIfInBounds_toArray, List.set_cons_zero, List.set_cons_succ]
              refine rg_take (i := 44) (v := ?vd44) (by simp only [List.getElem?_toArray]; rfl) (by kernel_rfl) (by exact fun _ _ _ h => h) (by rfl) ?rd44 hF ?sd44
              case rd44 => (intro W hW; clear hW; go_simp; try with_reducible rfl)
              try simp only [Act.put, List.setIfInBounds_toArray, List.set_cons_zero, List.set_cons_succ]
              refine rg_take (i := 45) (v := ?vd45) (by simp only [List.getElem?_toArray]; rfl) (by kernel_rfl) (by exact fun _ _ _ h => h) (by rfl) ?rd45 hF ?sd45
              case rd45 => (intro W hW; clear hW; go_simp; try with_reducible rfl)
              try simp only [Act.put, List.setIfInBounds_toArray, List.set_cons_zero, List.set_cons_succ]
              refine rg_take (i := 46) (v := ?vd46) (by simp only [List.getElem?_toArray]; rfl) (by kernel_rfl) (by exact fun _ _ _ h => h) (by rfl) ?rd46 hF ?sd46
              case rd46 => (intro W hW; clear hW; go_simp; try with_reducible rfl)
              try simp only [Act.put, List.setIfInBounds_toArray, List.set_cons_zero, List.set_cons_succ]
              refine rg_take (i := 47) (v := ?vd47) (by simp only [List.getElem?_toArray]; rfl) (by kernel_rfl) (by exact fun _ _ _ h => h) (by rfl) ?rd47 hF ?sd47
              case rd47 => (intro W hW; clear hW; go_simp; try with_reducible rfl)
              try simp only [Act.put, List.setIfInBounds_toArray, List.set_cons_zero, List.set_cons_succ]
              refine rg_take (i := 48) (v := ?vd48) (by simp only [List.getElem?_toArray]; rfl) (by kernel_rfl) (by exact fun _ _ _ h => h) (by rfl) ?rd48 hF ?sd48
              case rd48 => (intro W hW; clear hW; go_simp; try with_reducible rfl)
              try simp only [Act.put, List.setIfInBounds_toArray, List.set_cons_zero, List.set_cons_succ]
              refine rg_take (i := 49) (v := ?vd49) (by simp only [List.getElem?_toArray]; rfl) (by kernel_rfl) (by exact fun _ _ _ h => h) (by rfl) ?rd49 hF ?sd49
              case rd49 => (intro W hW; clear hW; go_simp; try with_reducible rfl)
              try simp only [Act.put, List.setIfInBounds_toArray, List.set_cons_zero, List.set_cons_succ]
              refine rg_take (i := 50) (v := ?vd50) (by simp only [List.getElem?_toArray]; rfl) (by kernel_rfl) (by exact fun _ _ _ h => h) (by rfl) ?rd50 hF ?sd50
              case rd50 => (intro W hW; clear hW; go_simp; try with_reducible rfl)
              try simp only [Act.put, List.setIfInBounds_toArray, List.set_cons_zero, List.set_cons_succ]
              refine rg_take (i := 51) (v := ?vd51) (by simp only [List.getElem?_toArray]; rfl) (by kernel_rfl) (by exact fun _ _ _ h => h) (by rfl) ?rd51 hF ?sd51
              case rd51 => (intro W hW; clear hW; go_simp; try with_reducible rfl)
              try simp only [Act.put, List.setIfInBounds_toArray, List.set_cons_zero, List.set_cons_succ]
              refine rg_one (i := 52) (oi := ?od52) ?ad52 ?bd52 ?cd52 ?dd52
              case ad52 => (simp only [List.getElem?_toArray]; rfl)
              case bd52 => kernel_rfl
              case cd52 => rfl
              intro K hK
              (go_simp; refine (off_nil _).mono ?_; rintro e w' ⟨rfl, rfl⟩)
              refine rg_use hK (hF) (fun hF => ?_)
              clear hK K
              try simp only [Act.put, List.setIfInBounds_toArray, List.set_cons_zero, List.set_cons_succ]
              refine rg_take (i := 53) (v := ?vd53) (by simp only [List.getElem?_toArray]; rfl) (by kernel_rfl) (by exact fun _ _ _ h => h) (by rfl) ?rd53 hF ?sd53
              case rd53 => (intro W hW; clear hW; go_simp; try with_reducible rfl)
              try simp only [Act.put, List.setIfInBounds_toArray, List.set_cons_zero, List.set_cons_succ]
              refine rg_take (i := 54) (v := ?vd54) (by simp only [List.getElem?_toArray]; rfl) (by kernel_rfl) (by exact fun _ _ _ h => h) (by rfl) ?rd54 hF ?sd54
              case rd54 => (intro W hW; clear hW; go_simp; try with_reducible rfl)
              try simp only [Act.put, List.setIfInBounds_toArray, List.set_cons_zero, List.set_cons_succ]
              refine rg_take (i := 55) (v := ?vd55) (by simp only [List.getElem?_toArray]; rfl) (by kernel_rfl) (by exact fun _ _ _ h => h) (by rfl) ?rd55 hF ?sd55
              case rd55 => (intro W hW; clear hW; go_simp; try with_reducible rfl)
              try simp only [Act.put, List.setIfInBounds_toArray, List.set_cons_zero, List.set_cons_succ]
              refine rg_take (i := 56) (v := ?vd56) (by simp only [List.getElem?_toArray]; rfl) (by kernel_rfl) (by exact fun _ _ _ h => h) (by rfl) ?rd56 hF ?sd56
              case rd56 => (intro W hW; clear hW; go_simp; try with_reducible rfl)
              try simp only [Act.put, List.setIfInBounds_toArray, List.set_cons_zero, List.set_cons_succ]
              refine rg_one (i := 57) (oi := ?od57) ?ad57 ?bd57 ?cd57 ?dd57
              case ad57 => (simp only [List.getElem?_toArray]; rfl)
              case bd57 => kernel_rfl
              case cd57 => rfl
              intro K hK
              (go_simp; refine (len_nil _).mono ?_; rintro e w' ⟨rfl, rfl⟩)
              refine rg_use hK (hF) (fun hF => ?_)
              clear hK K
              try simp only [Act.put, List.setIfInBounds_toArray, List.set_cons_zero, List.set_cons_succ]
              refine rg_take (i := 58) (v := ?vd58) (by simp only [List.getElem?_toArray]; rfl) (by kernel_rfl) (by exact fun _ _ _ h => h) (by rfl) ?rd58 hF ?sd58
              case rd58 => (intro W hW; clear hW; go_simp; try with_reducible rfl)
              try simp only [Act.put, List.setIfInBounds_toArray, List.set_cons_zero, List.set_cons_succ]
              refine rg_take (i := 59) (v := ?vd59) (by simp only [List.getElem?_toArray]; rfl) (by kernel_rfl) (by exact fun _ _ _ h => h) (by rfl) ?rd59 hF ?sd59
              case rd59 => (intro W hW; clear hW; go_simp; try with_reducible rfl)
              try simp only [Act.put, List.setIfInBounds_toArray, List.set_cons_zero, List.set_cons_succ]
              refine rg_take (i := 60) (v := ?vd60) (by simp only [List.getElem?_toArray]; rfl) (by kernel_rfl) (by exact fun _ _ _ h => h) (by rfl) ?rd60 hF ?sd60
              case rd60 => (intro W hW; clear hW; go_simp; try with_reducible rfl)
              try simp only [Act.put, List.setIfInBounds_toArray, List.set_cons_zero, List.set_cons_succ]
              refine rg_take (i := 61) (v := ?vd61) (by simp only [List.getElem?_toArray]; rfl) (by kernel_rfl) (by exact fun _ _ _ h => h) (by rfl) ?rd61 hF ?sd61
              case rd61 => (intro W hW; clear hW; go_simp; try with_reducible rfl)
              try simp only [Act.put, List.setIfInBounds_toArray, List.set_cons_zero, List.set_cons_succ]
              refine rg_one (i := 62) (oi := ?od62) ?ad62 ?bd62 ?cd62 ?dd62
              case ad62 => (simp only [List.getElem?_toArray]; rfl)
              case bd62 => kernel_rfl
              case cd62 => rfl
              intro K hK
              (go_simp; refine (writes_nil _).mono ?_; rintro e w' ⟨rfl, rfl⟩)
              refine rg_use hK (hF) (fun hF => ?_)
              clear hK K
              try simp only [Act.put, List.setIfInBounds_toArray, List.set_cons_zero, List.set_cons_succ]
              refine rg_take (i := 63) (v := ?vd63) (by simp only [List.getElem?_toArray]; rfl) (by kernel_rfl) (by exact fun _ _ _ h => h) (by rfl) ?rd63 hF ?sd63
              case rd63 => (intro W hW; clear hW; go_simp; try with_reducible rfl)
              try simp only [Act.put, List.setIfInBounds_toArray, List.set_cons_zero, List.set_cons_succ]
              refine rg_take (i := 64) (v := ?vd64) (by simp only [List.getElem?_toArray]; rfl) (by kernel_rfl) (by exact fun _ _ _ h => h) (by rfl) ?rd64 hF ?sd64
              case rd64 => (intro W hW; clear hW; go_simp; try with_reducible rfl)
              try simp only [Act.put, List.setIfInBounds_toArray, List.set_cons_zero, List.set_cons_succ]
              refine rg_take (i := 65) (v := ?vd65) (by simp only [List.getElem?_toArray]; rfl) (by kernel_rfl) (by exact fun _ _ _ h => h) (by rfl) ?rd65 hF ?sd65
              case rd65 => (intro W hW; clear hW; go_simp; try with_reducible rfl)
              try simp only [Act.put, List.setIfInBounds_toArray, List.set_cons_zero, List.set_cons_succ]
              refine rg_take (i := 66) (v := ?vd66) (by simp only [List.getElem?_toArray]; rfl) (by kernel_rfl) (by exact fun _ _ _ h => h) (by rfl) ?rd66 hF ?sd66
              case rd66 => (intro W hW; clear hW; go_simp; try with_reducible rfl)
              try simp only [Act.put, List.setIfInBounds_toArray, List.set_cons_zero, List.set_cons_succ]
              refine rg_one (i := 67) (oi := ?od67) ?ad67 ?bd67 ?cd67 ?dd67
              case ad67 => (simp only [List.getElem?_toArray]; rfl)
              case bd67 => kernel_rfl
              case cd67 => rfl
              intro K hK
              (go_simp; refine (image_nil _).mono ?_; rintro e w' ⟨rfl, rfl⟩)
              refine rg_use hK (hF) (fun hF => ?_)
              clear hK K
              try simp only [Act.put, List.setIfInBounds_toArray, List.set_cons_zero, List.set_cons_succ]
              refine rg_take (i := 68) (v := ?vd68) (by simp only [List.getElem?_toArray]; rfl) (by kernel_rfl) (by exact fun _ _ _ h => h) (by rfl) ?rd68 hF ?sd68
              case rd68 => (intro W hW; clear hW; go_simp; try with_reducible rfl)
              try simp only [Act.put, List.setIfInBounds_toArray, List.set_cons_zero, List.set_cons_succ]
              refine rg_take (i := 69) (v := ?vd69) (by simp only [List.getElem?_toArray]; rfl) (by kernel_rfl) (by exact fun _ _ _ h => h) (by rfl) ?rd69 hF ?sd69
              case rd69 => (intro W hW; clear hW; go_simp; try with_reducible rfl)
              try simp only [Act.put, List.setIfInBounds_toArray, List.set_cons_zero, List.set_cons_succ]
              refine rg_take (i := 70) (v := ?vd70) (by simp only [List.getElem?_toArray]; rfl) (by kernel_rfl) (by exact fun _ _ _ h => h) (by rfl) ?rd70 hF ?sd70
              case rd70 => (intro W hW; clear hW; go_simp; try with_reducible rfl)
              try simp only [Act.put, List.setIfInBounds_toArray, List.set_cons_zero, List.set_cons_succ]
              refine rg_take (i := 71) (v := ?vd71) (by simp only [List.getElem?_toArray]; rfl) (by kernel_rfl) (by exact fun _ _ _ h => h) (by rfl) ?rd71 hF ?sd71
              case rd71 => (intro W hW; clear hW; go_simp; try with_reducible rfl)
              try simp only [Act.put, List.setIfInBounds_toArray, List.set_cons_zero, List.set_cons_succ]
              refine rg_done (by kernel_rfl) ?_
              have HK18 := Lib.hid hF.1
              clear hF tn
              go_wp2
              go_ret
              refine ⟨?_, (K1.out.trans (K118.out.trans HK18.out)).below (Nat.le_refl _) (fun _ _ m => m)⟩
              rfl

/-! ### The row's step -/
set_option maxRecDepth 100000 in
theorem lifted (os : Os) (started : os.Started) (H : Type) (enc : TypeId × Value → H) :
    ReturnsInHanded {} Try.checked os 7 .any (Rows.diskOwnSpec.pre6 enc Try.prog Try.f7 Rows.diskOwnRow.domain false) (Rows.diskOwnSpec.post enc Try.prog Try.f7 false true false false) := by
  refine returnsInHanded_of_change_sized (C := Try.checked) own started (by kernel_rfl) Try.func7
    (ChangeSpec.witness6 (enc := enc) (C := Try.checked) false ⟨#[], #[.int .i64 0, .int .u8 0], []⟩ 8 (by kernel_rfl) (by kernel_rfl) (by kernel_rfl) (by kernel_rfl)) ?_
  intro W base args ds gs before hval0 hW hcnd hsz0 _
  have hval : ∀ (j : Nat) t v, Try.f7.params[j]? = some t → args[j]? = some v → Value.okWide Try.prog W .any base t v := hval0
  have hW' := hW
  obtain ⟨p, q, hA0, hV, rfl, hfz, hnd⟩ := hW
  have hA : DataW.TrodAll enc Try.prog W 0 (fun _ => true) true Try.f7.params.toList args.toList ds p := hA0
  rw [Try.params7] at hA hval
  obtain ⟨v0, vs0, d0, ds0, p0, q0, hargs, rfl, rfl, h0, r0⟩ := trodAll_cons hA
  obtain ⟨v1, vs1, d1, ds1, p1, q1, rfl, rfl, rfl, h1, r1⟩ := trodAll_cons r0
  obtain ⟨rfl, rfl, rfl⟩ := trodAll_nil r1
  obtain rfl : args = #[v0, v1] := by cases args; simp_all
  obtain ⟨rfl, rfl⟩ := trodVars_none hV
  have hsz : ∀ (j : Nat) (t : TypeId) (d : DataW H), ([3, 5] : List TypeId)[j]? = some t → [d0, d1][j]? = some d → ∀ n ∈ d.weights Try.prog t, n ≤ reachBytes := by
    intro j t d ht hd n hn
    have hsz1 : (DataW.weightsEach Try.prog ([3, 5] : List TypeId) [d0, d1]).all (· ≤ reachBytes) = true := hsz0
    have := List.all_eq_true.1 hsz1 n (DataW.weights_mem_each ht hd n hn)
    simpa using this
  have k0 := h0
  have lt0 : ∀ x ∈ p0, x.block < W.heap.size := by obtain ⟨m, hm⟩ := k0; exact DataW.trod_lt m _ _ _ hm
  obtain ⟨n0, rfl, rfl, rfl, x0⟩ := open_int Try.underlying3 (hval 0 3 v0 rfl rfl) h0
  have k1 := h1
  have lt1 : ∀ x ∈ p1, x.block < W.heap.size := by obtain ⟨m, hm⟩ := k1; exact DataW.trod_lt m _ _ _ hm
  obtain ⟨n1, rfl, rfl, rfl, x1⟩ := open_int Try.underlying5 (hval 1 5 v1 rfl rfl) h1
  obtain ⟨f1, rfl⟩ : ∃ f : UInt8, n1 = (f.toNat : Int) := ⟨UInt8.ofNat n1.toNat, by have := bounds_u8 x1; rw [UInt8.toNat_ofNat']; omega⟩
  refine (walk n0 f1 W (by have := bounds_i64 x0; omega) ).mono fun e W' ⟨he, bel⟩ => ?_
  subst he
  exact ⟨_, rfl, _, _, _, [], _, [], hW', trodAll_mk1 (shut_bool Try.underlying4 _), (trodAll_cons_mk (Below.trod laidOut (by kernel_rfl) (of_decide_eq_true (by kernel_rfl)) k0 bel lt0) (trodAll_cons_mk (Below.trod laidOut (by kernel_rfl) (of_decide_eq_true (by kernel_rfl)) k1 bel lt1) trodAll_mk0)), rfl, bel.frame _, fun h => by cases h⟩

theorem over : Rows.diskOwnRow.holds Try.pinned (OpenSpec.ofChange Rows.diskOwnSpec) :=
  OpenClaim.holds_of_wide 7 Try.f7 rfl rfl rfl rfl rfl rfl rfl ⟨rfl, rfl, rfl, rfl, rfl⟩ rfl rfl rfl rfl rfl (by kernel_rfl) Try.func7 (by kernel_rfl)
    (of_decide_eq_true (by kernel_rfl)) (by unfold Func.isWrapper; first | (rw [if_pos (by decide +kernel)]; kernel_rfl) | (rw [if_neg (by decide +kernel)]; exact ⟨rfl, rfl⟩))
    (fun os started H enc _ => lifted os started H enc)

theorem proved : Rows.DiskOwnSaid := over
#print axioms proved
end Go.Proofs.Ytaohaofjbgghgaa.diskOwn
