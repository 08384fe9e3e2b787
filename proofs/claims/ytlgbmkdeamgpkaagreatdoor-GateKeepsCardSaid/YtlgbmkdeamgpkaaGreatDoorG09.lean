/- Several texts of this claim in one. No condition beyond what each theorem states. -/
import Derived.Test.YtlgbmkdeamgpkaaGreatDoorG08
import Derived.Test.YtlgbmkdeamgpkaaGreatDoorS01
import Derived.Laws.OwnMore
import Derived.Test.YtlgbmkdeamgpkaaGreatDoorB04
import Derived.ProofKit
import Derived.PlainAid
import Derived.WideShapes
import Derived.OpenShut
import Derived.ChangeOld
import Derived.SizedLaws
import Derived.Deep.Fields
import Derived.ChangeArms
/- awake of the law by contract. No condition beyond what each theorem states. -/
namespace Go.Proofs.YtlgbmkdeamgpkaaGreatDoor
open Go Go.RowKit Go.PlainAid

theorem slI_new (w : World) (L : List Int) : SlI (w.alloc (.cells (ints L).toArray 3)) (.slice (some ⟨w.heap.size, 0, none⟩) L.length L.length) L :=
  ⟨_, _, rfl, Nat.le_refl _, fun _ => ⟨w.heap.size, 0, ints L, rfl, Bk.new' rfl rfl, range_all (Bk.new' rfl rfl)⟩⟩
theorem opM_rng {p : List UInt8} {s : List Int} (h : ∀ x ∈ s, x < 9223372036854775808) : Rng (opM p s) := by
  refine ⟨fun x hx => ?_, h⟩
  simp only [opM, List.mem_cons, List.not_mem_nil, or_false] at hx
  rcases hx with rfl | rfl | rfl | rfl | rfl | rfl | rfl | rfl | rfl | rfl | rfl | rfl | rfl <;> omega
def ag0 : Gat := {}
def ad0 : Dsk := dsk0
def ag1 : Gat := (handleG 8 ag0 ad0 (opM [97] [2, 1])).1
def ad1 : Dsk := (handleG 8 ag0 ad0 (opM [97] [2, 1])).2.1
theorem ah1 : handleG 8 ag0 ad0 (opM [97] [2, 1]) = (ag1, ad1, 0) := by
  refine Prod.ext rfl (Prod.ext rfl ?_)
  kernel_rfl
theorem aw1 : ad1.wr = 1 := by kernel_rfl
def ag2 : Gat := (handleG 8 ag1 ad1 (opM [97] [2, 1])).1
def ad2 : Dsk := (handleG 8 ag1 ad1 (opM [97] [2, 1])).2.1
theorem ah2 : handleG 8 ag1 ad1 (opM [97] [2, 1]) = (ag2, ad2, 0) := by
  refine Prod.ext rfl (Prod.ext rfl ?_)
  kernel_rfl
theorem aw2 : ad2.wr = 1 := by kernel_rfl
def ag3 : Gat := (handleG 8 ag2 ad2 (opM [97] [2])).1
def ad3 : Dsk := (handleG 8 ag2 ad2 (opM [97] [2])).2.1
theorem ah3 : handleG 8 ag2 ad2 (opM [97] [2]) = (ag3, ad3, 65) := by
  refine Prod.ext rfl (Prod.ext rfl ?_)
  kernel_rfl
theorem aw3 : ad3.wr = 1 := by kernel_rfl
def ag4 : Gat := (handleG 8 ag3 ad3 (opM [97] [2, 2])).1
def ad4 : Dsk := (handleG 8 ag3 ad3 (opM [97] [2, 2])).2.1
theorem ah4 : handleG 8 ag3 ad3 (opM [97] [2, 2]) = (ag4, ad4, 0) := by
  refine Prod.ext rfl (Prod.ext rfl ?_)
  kernel_rfl
theorem aw4 : ad4.wr = 2 := by kernel_rfl
def ag5 : Gat := (handleG 8 ag4 ad4 (opM [97] [])).1
def ad5 : Dsk := (handleG 8 ag4 ad4 (opM [97] [])).2.1
theorem ah5 : handleG 8 ag4 ad4 (opM [97] []) = (ag5, ad5, 65) := by
  refine Prod.ext rfl (Prod.ext rfl ?_)
  kernel_rfl
theorem aw5 : ad5.wr = 2 := by kernel_rfl
theorem aoff : ad5.off = false := by kernel_rfl
theorem ahigh : ag5.high = [2, 2] := by kernel_rfl
theorem aseq : ag5.seq = 2 := by kernel_rfl
set_option maxRecDepth 100000 in
set_option maxHeartbeats 8000000 in
theorem awake_any (W : World) : Calls Tryz.prog 12 #[] W fun e w' => e = .returned (.bool true) ∧ Kp No W w' := by
  go_enter Tryz.func12, Tryz.ntmps12
  go_wp2_with fail
  refine (begin_any _).mono ?_
  rintro e w0 ⟨gb, db, sb, rfl, h0, _, k0⟩
  have HG0 := Lib.hid (show GS w0 W.heap.size gb db sb 2 8 ag0 ad0 from h0)
  have HK0 := Lib.hid k0
  clear h0 k0
  have HS1 := Lib.hid (slI_new w0 [2, 1])
  have HG1 := Lib.hid (show GS (w0.alloc (.cells #[.int .i64 2, .int .i64 1] 3)) W.heap.size gb db sb 2 8 ag0 ad0 from (HG0.out.no ((Kp.refl _ _).alloc _)))
  have HK1 := Lib.hid (show Kp No W (w0.alloc (.cells #[.int .i64 2, .int .i64 1] 3)) from (HK0.out.alloc _))
  clear HG0 HK0
  go_wp2_with fail
  refine (op_any [97] [2, 1] (some ⟨w0.heap.size, 0, none⟩) 2 _).mono ?_
  rintro e w2 ⟨rfl, k2⟩
  have HG2 := Lib.hid (HG1.out.no k2)
  have HK2 := Lib.hid (HK1.out.trans k2)
  have pk2 := handle_gs W.heap.size gb db sb 2 8 ag0 ad0 (opM [97] [2, 1]) (some ⟨w0.heap.size, 0, none⟩) 2 w2 HG2.out (HS1.out.no k2) (opM_rng (by simp)) ⟨by simp [opM, maxLen], by simp [opM, maxLen]⟩ (by show (0 : Int) < _; omega)
  clear HG1 HK1 HS1 k2
  unfold HandS at pk2
  rw [ah1] at pk2
  go_wp2_with fail
  refine pk2.mono ?_
  rintro e w3 ⟨rfl, g3, k3⟩
  have HG3 := Lib.hid g3
  have HK3 := Lib.hid (GM.old HG2.out (Nat.le_refl _) HK2.out k3)
  clear pk2 HG2 HK2 g3 k3
  have pw := writes_any db w3 _ _ _ _ _ HG3.out.dk.1.st
  rw [aw1] at pw
  go_wp2_with fail
  refine pw.mono ?_
  rintro e w' ⟨rfl, rfl⟩
  clear pw
  have HS4 := Lib.hid (slI_new w3 [2, 1])
  have HG4 := Lib.hid (show GS (w3.alloc (.cells #[.int .i64 2, .int .i64 1] 3)) W.heap.size gb db sb 2 8 ag1 ad1 from (HG3.out.no ((Kp.refl _ _).alloc _)))
  have HK4 := Lib.hid (show Kp No W (w3.alloc (.cells #[.int .i64 2, .int .i64 1] 3)) from (HK3.out.alloc _))
  clear HG3 HK3
  go_wp2_with fail
  refine (op_any [97] [2, 1] (some ⟨w3.heap.size, 0, none⟩) 2 _).mono ?_
  rintro e w5 ⟨rfl, k5⟩
  have HG5 := Lib.hid (HG4.out.no k5)
  have HK5 := Lib.hid (HK4.out.trans k5)
  have pk5 := handle_gs W.heap.size gb db sb 2 8 ag1 ad1 (opM [97] [2, 1]) (some ⟨w3.heap.size, 0, none⟩) 2 w5 HG5.out (HS4.out.no k5) (opM_rng (by simp)) ⟨by simp [opM, maxLen], by simp [opM, maxLen]⟩ (by rw [aw1]; omega)
  clear HG4 HK4 HS4 k5
  unfold HandS at pk5
  rw [ah2] at pk5
  go_wp2_with fail
  refine pk5.mono ?_
  rintro e w6 ⟨rfl, g6, k6⟩
  have HG6 := Lib.hid g6
  have HK6 := Lib.hid (GM.old HG5.out (Nat.le_refl _) HK5.out k6)
  clear pk5 HG5 HK5 g6 k6
  have pw := writes_any db w6 _ _ _ _ _ HG6.out.dk.1.st
  rw [aw2] at pw
  go_wp2_with fail
  refine pw.mono ?_
  rintro e w' ⟨rfl, rfl⟩
  clear pw
  have HS7 := Lib.hid (slI_new w6 [2])
  have HG7 := Lib.hid (show GS (w6.alloc (.cells #[.int .i64 2] 3)) W.heap.size gb db sb 2 8 ag2 ad2 from (HG6.out.no ((Kp.refl _ _).alloc _)))
  have HK7 := Lib.hid (show Kp No W (w6.alloc (.cells #[.int .i64 2] 3)) from (HK6.out.alloc _))
  clear HG6 HK6
  go_wp2_with fail
  refine (op_any [97] [2] (some ⟨w6.heap.size, 0, none⟩) 1 _).mono ?_
  rintro e w8 ⟨rfl, k8⟩
  have HG8 := Lib.hid (HG7.out.no k8)
  have HK8 := Lib.hid (HK7.out.trans k8)
  have pk8 := handle_gs W.heap.size gb db sb 2 8 ag2 ad2 (opM [97] [2]) (some ⟨w6.heap.size, 0, none⟩) 1 w8 HG8.out (HS7.out.no k8) (opM_rng (by simp)) ⟨by simp [opM, maxLen], by simp [opM, maxLen]⟩ (by rw [aw2]; omega)
  clear HG7 HK7 HS7 k8
  unfold HandS at pk8
  rw [ah3] at pk8
  go_wp2_with fail
  refine pk8.mono ?_
  rintro e w9 ⟨rfl, g9, k9⟩
  have HG9 := Lib.hid g9
  have HK9 := Lib.hid (GM.old HG8.out (Nat.le_refl _) HK8.out k9)
  clear pk8 HG8 HK8 g9 k9
  have HS10 := Lib.hid (slI_new w9 [2, 2])
  have HG10 := Lib.hid (show GS (w9.alloc (.cells #[.int .i64 2, .int .i64 2] 3)) W.heap.size gb db sb 2 8 ag3 ad3 from (HG9.out.no ((Kp.refl _ _).alloc _)))
  have HK10 := Lib.hid (show Kp No W (w9.alloc (.cells #[.int .i64 2, .int .i64 2] 3)) from (HK9.out.alloc _))
  clear HG9 HK9
  go_wp2_with fail
  refine (op_any [97] [2, 2] (some ⟨w9.heap.size, 0, none⟩) 2 _).mono ?_
  rintro e w11 ⟨rfl, k11⟩
  have HG11 := Lib.hid (HG10.out.no k11)
  have HK11 := Lib.hid (HK10.out.trans k11)
  have pk11 := handle_gs W.heap.size gb db sb 2 8 ag3 ad3 (opM [97] [2, 2]) (some ⟨w9.heap.size, 0, none⟩) 2 w11 HG11.out (HS10.out.no k11) (opM_rng (by simp)) ⟨by simp [opM, maxLen], by simp [opM, maxLen]⟩ (by rw [aw3]; omega)
  clear HG10 HK10 HS10 k11
  unfold HandS at pk11
  rw [ah4] at pk11
  go_wp2_with fail
  refine pk11.mono ?_
  rintro e w12 ⟨rfl, g12, k12⟩
  have HG12 := Lib.hid g12
  have HK12 := Lib.hid (GM.old HG11.out (Nat.le_refl _) HK11.out k12)
  clear pk11 HG11 HK11 g12 k12
  have HS13 := Lib.hid (SlI.nil w12 none 0)
  go_wp2_with fail
  refine (op_any [97] [] none 0 _).mono ?_
  rintro e w14 ⟨rfl, k14⟩
  have HG14 := Lib.hid (HG12.out.no k14)
  have HK14 := Lib.hid (HK12.out.trans k14)
  have pk14 := handle_gs W.heap.size gb db sb 2 8 ag4 ad4 (opM [97] []) none 0 w14 HG14.out (HS13.out.no k14) (opM_rng (by simp)) ⟨by simp [opM, maxLen], by simp [opM, maxLen]⟩ (by rw [aw4]; omega)
  clear HG12 HK12 HS13 k14
  unfold HandS at pk14
  rw [ah5] at pk14
  go_wp2_with fail
  refine pk14.mono ?_
  rintro e w15 ⟨rfl, g15, k15⟩
  have HG15 := Lib.hid g15
  have HK15 := Lib.hid (GM.old HG14.out (Nat.le_refl _) HK14.out k15)
  clear pk14 HG14 HK14 g15 k15
  have ps := start_gs W.heap.size gb db sb 2 8 ag5 ad5 w15 HG15.out (by omega) (by omega) aoff
  go_wp2_with fail
  refine ps.mono ?_
  rintro e v1 ⟨hb, rfl, _, h1, k1⟩
  rw [ahigh, aseq] at h1
  have H1 := Lib.hid h1; have G1 := Lib.hid (HG15.out.no k1); have K1 := Lib.hid (HK15.out.trans k1)
  clear ps h1 k1 HG15 HK15
  have ph := high_any hb db 8 ⟨[2, 2], 2, false⟩ _ v1 H1.out.gt (by simp)
  go_wp2_with fail
  refine ph.mono ?_
  rintro e v2 ⟨sv, rfl, o2, k2⟩
  clear ph
  obtain ⟨A2, c2, rfl, _⟩ := own_len o2
  have HS := Lib.hid (own_slI o2).arg
  have H2 := Lib.hid (H1.out.no k2); have G2 := Lib.hid (G1.out.no k2); have K2 := Lib.hid (K1.out.trans k2)
  clear o2 k2 H1 G1 K1
  have HL := Lib.hid (slI_new v2 [2, 2]).arg
  have pe := sameInts_any (.slice A2 [(2 : Int), 2].length c2) (.slice (some ⟨v2.heap.size, 0, none⟩) 2 2) [2, 2] [2, 2] (v2.alloc (.cells #[.int .i64 2, .int .i64 2] 3)) (HS.out.no ((Kp.refl _ _).alloc _)) HL.out (by simp [maxLen]) (by simp [maxLen])
  have H3 := Lib.hid (show GS (v2.alloc (.cells #[.int .i64 2, .int .i64 2] 3)) _ _ _ _ _ _ _ _ from H2.out.no ((Kp.refl _ _).alloc _)); have G3 := Lib.hid (show GS (v2.alloc (.cells #[.int .i64 2, .int .i64 2] 3)) _ _ _ _ _ _ _ _ from G2.out.no ((Kp.refl _ _).alloc _)); have K3 := Lib.hid (show Kp No W (v2.alloc (.cells #[.int .i64 2, .int .i64 2] 3)) from K2.out.alloc _)
  rw [decide_eq_true rfl] at pe
  clear HS HL H2 G2 K2
  go_wp2_with fail
  refine pe.mono ?_
  rintro e v4 ⟨rfl, k4⟩
  have H4 := Lib.hid (H3.out.no k4); have G4 := Lib.hid (G3.out.no k4); have K4 := Lib.hid (K3.out.trans k4)
  clear pe k4 H3 G3 K3
  have pc := count_any hb db 8 ⟨[2, 2], 2, false⟩ _ v4 H4.out.gt
  go_wp2_with fail
  refine pc.mono ?_
  rintro e w' ⟨rfl, rfl⟩
  clear pc
  have ph := high_any gb db 8 ag5 _ v4 G4.out.gt (by rw [ahigh]; simp)
  rw [ahigh] at ph
  go_wp2_with fail
  refine ph.mono ?_
  rintro e v5 ⟨sv, rfl, o5, k5⟩
  clear ph
  obtain ⟨A5, c5, rfl, _⟩ := own_len o5
  have HS := Lib.hid (own_slI o5).arg
  have K5 := Lib.hid (K4.out.trans k5)
  clear o5 k5 H4 G4 K4
  have HL := Lib.hid (slI_new v5 [2, 2]).arg
  have pe := sameInts_any (.slice A5 [(2 : Int), 2].length c5) (.slice (some ⟨v5.heap.size, 0, none⟩) 2 2) [2, 2] [2, 2] (v5.alloc (.cells #[.int .i64 2, .int .i64 2] 3)) (HS.out.no ((Kp.refl _ _).alloc _)) HL.out (by simp [maxLen]) (by simp [maxLen])
  have K6 := Lib.hid (show Kp No W (v5.alloc (.cells #[.int .i64 2, .int .i64 2] 3)) from K5.out.alloc _)
  rw [decide_eq_true rfl] at pe
  clear HS HL K5
  go_wp2_with fail
  refine pe.mono ?_
  rintro e v7 ⟨rfl, k7⟩
  have K7 := Lib.hid (K6.out.trans k7)
  clear pe k7 K6
  go_wp2
  go_ret
  exact ⟨rfl, K7.out⟩
end Go.Proofs.YtlgbmkdeamgpkaaGreatDoor

/- Words of the gate's laws: rows that are written, prefixes of rows. No condition beyond what each theorem states. -/
namespace Go.Proofs.YtlgbmkdeamgpkaaGreatDoor
open Go Go.RowKit Go.PlainAid

theorem SlI.take {w : World} {g c n : Nat} {L : List Int} (h : SlI w (.slice (some ⟨g, 0, none⟩) n c) L) (k : Nat) (hk : k ≤ L.length) : SlI w (.slice (some ⟨g, 0, none⟩) k c) (L.take k) := by
  obtain ⟨A', c', e, hc, h⟩ := h
  injection e with e1 e2 e3
  subst e1 e2 e3
  have hl : (L.take k).length = k := by rw [List.length_take]; omega
  refine ⟨_, c, by rw [hl], by rw [hl]; omega, fun hx => ?_⟩
  obtain ⟨g', o, cs, e1, hb, hr⟩ := h (fun e => hx (by rw [e]; simp))
  refine ⟨g', o, cs, e1, hb, fun j v hv => hr j v ?_⟩
  have e : ints (L.take k) = (ints L).take k := by simp [ints, List.map_take]
  rw [e] at hv
  have hj := (List.getElem?_eq_some_iff.1 hv).1
  rw [List.length_take] at hj
  rw [List.getElem?_take_of_lt (by omega)] at hv
  exact hv
theorem own_bkG {w : World} {B g n n' c : Nat} {t : TypeId} {xs : List Value} (h : w.ownsRow B t 1 (.slice (some ⟨g, 0, none⟩) n' c) n xs) : ∃ cs, Bk w g t cs ∧ n ≤ cs.length ∧ cs.take n = xs := by
  rcases h.2 with ⟨hb, _⟩ | ⟨g', cap, cur, hv, hB, hh, h1, h2, h3, h4⟩
  · cases hb
  · injection hv with e1 e2 e3
    injection e1 with e1
    injection e1 with e1
    subst e1 e2 e3
    refine ⟨cur.toList, by unfold Bk; simpa using hh, by simp; omega, by rw [← h4, Nat.mul_one]⟩
set_option maxRecDepth 100000 in
/-- v[:h] of ints -/
theorem slice_toI (g n h c : Nat) (h1 : h ≤ c) (h2 : 0 < c) (W : World) : (Instr.slice 31 (.slice (some ⟨g, 0, none⟩) n c) none (some (.int .i64 (h : Int))) none).run Tryz.prog W = .ok (.slice (some ⟨g, 0, none⟩) h c) W := by
  rw [run_slice_h (P := Tryz.prog) W 31 (some ⟨g, 0, none⟩) n c Tryz.underlying31 .i64 (h : Int) (by omega) (by omega)]
  have hs : (sizeOf (Tryz.prog.elem 31)).run Tryz.prog W = .ok 1 W := by kernel_rfl
  rw [hs]
  simp [Result.andThen, sliced, show ¬ c = 0 by omega, Addr.add]
theorem ints_set (L : List Int) (j : Nat) (x : Int) : (ints L).set j (.int .i64 x) = ints (L.set j x) := by
  unfold ints; rw [List.map_set]
theorem own_setI {w : World} {B a n c j : Nat} {L : List Int} (h : w.ownsRow B 3 1 (.slice (some ⟨a, 0, Option.none⟩) n c) n (ints L)) (x : Int) : (w.setCell ⟨a, j, Option.none⟩ (.int .i64 x)).ownsRow B 3 1 (.slice (some ⟨a, 0, Option.none⟩) n c) n (ints (L.set j x)) := by
  have := (World.ownsRow.stored h j (.int .i64 x)).1
  rwa [ints_set] at this
end Go.Proofs.YtlgbmkdeamgpkaaGreatDoor

/- A message that came in. No condition beyond what each theorem states. -/
namespace Go.Proofs.YtlgbmkdeamgpkaaGreatDoor
open Go Go.RowKit Go.PlainAid Go.ChangeShapes Go.WideShapes Go.ChangeAt Go.Deep

section
variable {H : Type} {enc : TypeId × Value → H} {P : Program}
theorem array16 {α : Type} {cs : Array α} (h : cs.size = 16) : ∃ a0 a1 a2 a3 a4 a5 a6 a7 a8 a9 a10 a11 a12 a13 a14 a15, cs = #[a0, a1, a2, a3, a4, a5, a6, a7, a8, a9, a10, a11, a12, a13, a14, a15] := by
  obtain ⟨l⟩ := cs
  match l, h with
  | [a0, a1, a2, a3, a4, a5, a6, a7, a8, a9, a10, a11, a12, a13, a14, a15], _ => exact ⟨a0, a1, a2, a3, a4, a5, a6, a7, a8, a9, a10, a11, a12, a13, a14, a15, rfl⟩
/-- a struct of one-cell fields, by value, opened -/
theorem open_aggN {w : World} {base : Nat} {spare : Nat → Bool} {held : Bool} {r : Reach} {b0 : Nat} {t : TypeId} {fs : Array Field} {v : Value} {d : DataW H} {p : List MemPlace} (hs : P.underlying t = some (.struct fs)) (hone : oneCellFields P fs = true) (hC : P.cellsOf t = fs.size)
    (hv : Value.okWide P w r b0 t v) (h : DataW.Trod enc P w base spare held t v d p) :
    ∃ (cs : Array Value) (n : Nat) (xs : List (DataW H × List MemPlace)), v = .agg cs ∧ cs.size = fs.size ∧ d = .agg (xs.map (·.1)) ∧ ∀ (j : Nat) (f : Field), fs[j]? = some f → ∃ c y, cs[j]? = some c ∧ (xs.map (·.1))[j]? = some y.1 ∧ DataW.trod enc P w base spare held n f.type [c] = some y := by
  obtain ⟨cs, rfl, hsz⟩ := okWide_struct hs hv
  obtain ⟨fuel, hf⟩ := h
  obtain ⟨xs, n, _, hx, hl, hlen, hg⟩ := DataW.trod_struct hs hf
  simp only [Prod.mk.injEq] at hx
  have hcsz : cs.size = fs.size := hsz.trans hC
  refine ⟨cs, n, xs, rfl, hcsz, hx.1, fun j f hj => ?_⟩
  obtain ⟨o, k⟩ := hone_of hone j f hj
  have hjl : j < fs.size := (Array.getElem?_eq_some_iff.1 hj).1
  have hg1 := hg j f hj
  rw [o, k] at hg1
  have hcl : j < cs.toList.length := by rw [Array.length_toList]; omega
  have e1 : ((Value.agg cs).cells.toList.drop j).take 1 = [cs[j]'(by omega)] := by
    show (cs.toList.drop j).take 1 = _
    rw [List.drop_eq_getElem_cons hcl]
    simp
  rw [e1] at hg1
  have hys : xs[j]? = some (xs[j]'(by omega)) := List.getElem?_eq_getElem (by omega)
  exact ⟨cs[j]'(by omega), xs[j]'(by omega), Array.getElem?_eq_getElem (by omega), by rw [List.getElem?_map, hys]; rfl, hg1.trans hys⟩
/-- a list of ints in a field -/
theorem open_intsF {W : World} {t e : TypeId} {c : Value} {n : Nat} {y : DataW H × List MemPlace} (ht : P.underlying t = some (.slice e)) (he : P.underlying e = some (.int .i64))
    (ce : P.cellsOf e = 1) (be : P.bytesOf e = 8) (hf : DataW.trod enc P W 0 (fun _ => true) true n t [c] = some y) (hz : ∀ n ∈ y.1.weights P t, n ≤ reachBytes) :
    ∃ L : List Int, ArgInts W c L ∧ L.length ≤ 17592186043904 ∧ ∀ n ∈ L, -9223372036854775808 ≤ n ∧ n ≤ 9223372036854775807 := by
  rcases open_ints ht he ce hf with ⟨hcs, hx⟩ | ⟨a', len, cap, zs, hcs, _, hl, hm, hn, hx, hc, hs⟩
  · simp at hcs
    subst hcs
    exact ⟨[], ArgInts.nil _ _ _, by simp, by simp⟩
  · simp at hcs
    subst hcs
    have hn' : zs.length = cap := by simpa using hn
    subst hx
    have hw := hz ((len + (cap - len)) * P.bytesOf e) (by simp [DataW.weights, ht, hn', lits, Nat.min_eq_left hl])
    rw [be] at hw
    have hlen : (zs.take len).length = len := by simp [hn', hl]
    refine ⟨zs.take len, ⟨some a', cap, by rw [hlen], by rw [hlen]; exact hl, fun hne => ?_⟩, by rw [hlen]; simp [reachBytes] at hw; omega, fun x hx => bounds_i64 (hs x (List.mem_of_mem_take hx))⟩
    have h0 : 0 < zs.length := by
      rcases Nat.eq_zero_or_pos zs.length with h0 | h0
      · exfalso; apply hne; rw [List.eq_nil_of_length_eq_zero h0]; simp [ints]
      · exact h0
    have addr_none : ∀ {w : World} {a : Addr} {v : Value}, w.cell? (a.add 0) = some v → ∃ b o, a = ⟨b, o, none⟩ := by
      intro w a v h
      obtain ⟨b, o, s⟩ := a
      cases s with
      | none => exact ⟨b, o, rfl⟩
      | some s =>
        exfalso
        simp only [World.cell?, Addr.add, if_true] at h
        split at h <;> simp_all
    obtain ⟨b, o, rfl⟩ := addr_none (hc 0 h0)
    refine ⟨b, o, rfl, fun j v hv => ?_⟩
    rw [ints_get] at hv
    have hj : j < (zs.take len).length := by
      rcases Nat.lt_or_ge j (zs.take len).length with h' | h'
      · exact h'
      · rw [List.getElem?_eq_none h'] at hv; simp at hv
    rw [List.getElem?_eq_getElem hj] at hv
    simp only [Option.map_some, Option.some.injEq] at hv
    subst hv
    rw [hlen] at hj
    rw [← Addr.add_mid, hc j (by omega), List.getElem_take, List.getD_eq_getElem?_getD, List.getElem?_eq_getElem (by omega)]
    rfl
end
set_option maxRecDepth 100000 in
set_option maxHeartbeats 1000000 in
theorem open_msg2 {H : Type} {enc : TypeId × Value → H} {W : World} {b0 : Nat} {v : Value} {d : DataW H} {ps : List MemPlace} (hv : Value.okWide Tryz.prog W .any b0 38 v) (h : DataW.Trod enc Tryz.prog W 0 (fun _ => true) true 38 v d ps)
    (hz : ∀ n ∈ d.weights Tryz.prog 38, n ≤ reachBytes) :
    ∃ (m : Msg) (A : Option Addr) (c : Nat), v = .agg (mcells m (.slice A m.stamp.length c)).toArray ∧ ArgInts W (.slice A m.stamp.length c) m.stamp ∧ Rng m ∧ Short maxLen m ∧ m.stamp.length ≤ 17592186043904 ∧ m.path.length ≤ 140737488355328 := by
  obtain ⟨cs, n, xs, rfl, hsz, rfl, hg⟩ := open_aggN Tryz.underlying38 (by kernel_rfl) (by kernel_rfl) hv h
  have hw : ∀ (j : Nat) t y, ([34, 3, 3, 3, 3, 3, 35, 9, 36, 3, 3, 4, 23, 31, 3, 3] : List TypeId)[j]? = some t → (xs.map (·.1))[j]? = some y → ∀ n ∈ y.weights Tryz.prog t, n ≤ reachBytes := fun j t y h1 h2 n hn => hz n (by
    have := DataW.weights_mem_each h1 h2 n hn
    simpa [DataW.weights, Tryz.underlying38] using this)
  obtain ⟨c0, y0, e0, x0, t0⟩ := hg 0 _ rfl
  obtain ⟨c1, y1, e1, x1, t1⟩ := hg 1 _ rfl
  obtain ⟨c2, y2, e2, x2, t2⟩ := hg 2 _ rfl
  obtain ⟨c3, y3, e3, x3, t3⟩ := hg 3 _ rfl
  obtain ⟨c4, y4, e4, x4, t4⟩ := hg 4 _ rfl
  obtain ⟨c5, y5, e5, x5, t5⟩ := hg 5 _ rfl
  obtain ⟨c6, y6, e6, x6, t6⟩ := hg 6 _ rfl
  obtain ⟨c7, y7, e7, x7, t7⟩ := hg 7 _ rfl
  obtain ⟨c8, y8, e8, x8, t8⟩ := hg 8 _ rfl
  obtain ⟨c9, y9, e9, x9, t9⟩ := hg 9 _ rfl
  obtain ⟨c10, y10, e10, x10, t10⟩ := hg 10 _ rfl
  obtain ⟨c11, y11, e11, x11, t11⟩ := hg 11 _ rfl
  obtain ⟨c12, y12, e12, x12, t12⟩ := hg 12 _ rfl
  obtain ⟨c13, y13, e13, x13, t13⟩ := hg 13 _ rfl
  obtain ⟨c14, y14, e14, x14, t14⟩ := hg 14 _ rfl
  obtain ⟨c15, y15, e15, x15, t15⟩ := hg 15 _ rfl
  clear hg hz hv h
  obtain ⟨a0, a1, a2, a3, a4, a5, a6, a7, a8, a9, a10, a11, a12, a13, a14, a15, rfl⟩ := array16 hsz
  simp only [List.getElem?_toArray, List.getElem?_cons_zero, List.getElem?_cons_succ, Option.some.injEq] at e0 e1 e2 e3 e4 e5 e6 e7 e8 e9 e10 e11 e12 e13 e14 e15
  subst e0 e1 e2 e3 e4 e5 e6 e7 e8 e9 e10 e11 e12 e13 e14 e15
  obtain ⟨n0, h0, _, w0⟩ := DataW.trod_int Tryz.underlying34 t0
  obtain ⟨n1, h1, _, w1⟩ := DataW.trod_int Tryz.underlying3 t1
  obtain ⟨n2, h2, _, w2⟩ := DataW.trod_int Tryz.underlying3 t2
  obtain ⟨n3, h3, _, w3⟩ := DataW.trod_int Tryz.underlying3 t3
  obtain ⟨n4, h4, _, w4⟩ := DataW.trod_int Tryz.underlying3 t4
  obtain ⟨n5, h5, _, w5⟩ := DataW.trod_int Tryz.underlying3 t5
  obtain ⟨n6, h6, _, w6⟩ := DataW.trod_int Tryz.underlying35 t6
  obtain ⟨s, h7, q7, w7⟩ := DataW.trod_string Tryz.underlying9 t7
  have hpl : s.data.toList.length ≤ reachBytes := hw 7 _ _ rfl x7 _ (by rw [(Prod.mk.inj q7).1]; simp [DataW.weights])
  clear q7
  unfold reachBytes at hpl
  obtain ⟨n8, h8, _, w8⟩ := DataW.trod_int Tryz.underlying36 t8
  obtain ⟨n9, h9, _, w9⟩ := DataW.trod_int Tryz.underlying3 t9
  obtain ⟨n10, h10, _, w10⟩ := DataW.trod_int Tryz.underlying3 t10
  obtain ⟨fr, h11, _⟩ := DataW.trod_bool Tryz.underlying4 t11
  obtain ⟨n12, h12, _, w12⟩ := DataW.trod_int Tryz.underlying23 t12
  obtain ⟨L, hL, hLl, hLr⟩ := open_intsF Tryz.underlying31 Tryz.underlying3 (by kernel_rfl) (by kernel_rfl) t13 (hw 13 _ _ rfl x13)
  obtain ⟨n14, h14, _, w14⟩ := DataW.trod_int Tryz.underlying3 t14
  obtain ⟨n15, h15, _, w15⟩ := DataW.trod_int Tryz.underlying3 t15
  simp only [List.cons.injEq, and_true] at h0 h1 h2 h3 h4 h5 h6 h7 h8 h9 h10 h11 h12 h14 h15
  subst h0 h1 h2 h3 h4 h5 h6 h7 h8 h9 h10 h11 h12 h14 h15
  obtain ⟨A, c, rfl, hc, hcs⟩ := hL
  refine ⟨{ kind := n0, from_ := n1, dest := n2, boot := n3, seq := n4, low := n5, verb := n6, path := s.data.toList, mode := n8, term := n9, id := n10, fresh := fr, code := n12, stamp := L, origin := n14, number := n15 }, A, c, rfl, ⟨A, c, rfl, hc, hcs⟩, ⟨?_, fun x hx => by have := hLr x hx; omega⟩, ⟨by show s.data.toList.length ≤ maxLen; rw [Array.length_toList]; exact w7, by show L.length ≤ maxLen; unfold maxLen; omega⟩, hLl, by show s.data.toList.length ≤ _; omega⟩
  intro x hx
  simp only [List.mem_cons, List.not_mem_nil, or_false] at hx
  have b0 := bounds_i64 w0
  have b1 := bounds_i64 w1
  have b2 := bounds_i64 w2
  have b3 := bounds_i64 w3
  have b4 := bounds_i64 w4
  have b5 := bounds_i64 w5
  have b6 := bounds_i64 w6
  have b8 := bounds_i64 w8
  have b9 := bounds_i64 w9
  have b10 := bounds_i64 w10
  have b12 := bounds_i64 w12
  have b14 := bounds_i64 w14
  have b15 := bounds_i64 w15
  rcases hx with rfl | rfl | rfl | rfl | rfl | rfl | rfl | rfl | rfl | rfl | rfl | rfl | rfl <;> omega
set_option maxRecDepth 100000 in
theorem open_msg {H : Type} {enc : TypeId × Value → H} {W : World} {b0 : Nat} {v : Value} {d : DataW H} {ps : List MemPlace} (hv : Value.okWide Tryz.prog W .any b0 38 v) (h : DataW.Trod enc Tryz.prog W 0 (fun _ => true) true 38 v d ps)
    (hz : ∀ n ∈ d.weights Tryz.prog 38, n ≤ reachBytes) :
    ∃ (m : Msg) (A : Option Addr) (c : Nat), v = .agg (mcells m (.slice A m.stamp.length c)).toArray ∧ ArgInts W (.slice A m.stamp.length c) m.stamp ∧ Rng m ∧ Short maxLen m ∧ m.stamp.length ≤ 17592186043904 := by
  obtain ⟨m, A, c, e, a, r, s, z, _⟩ := open_msg2 hv h hz
  exact ⟨m, A, c, e, a, r, s, z⟩
end Go.Proofs.YtlgbmkdeamgpkaaGreatDoor
