/- Several texts of this claim in one. No condition beyond what each theorem states. -/
import Derived.Test.YtlgbmkdeamgpkaaGreatDoorG03
import Derived.Test.YtlgbmkdeamgpkaaGreatDoorG01
import Derived.Deep.RegionLaw
import Derived.Deep.Cut
import Derived.Deep.CutRange
import Derived.Deep.DeepCutAuto
import Derived.Test.YtlgbmkdeamgpkaaGreatDoorB01
import Derived.OrdersHeld
import Derived.RegionTactic
/- sectors.Pack by contract. No condition beyond what each theorem states. -/
namespace Go.Proofs.YtlgbmkdeamgpkaaGreatDoor
open Go Go.RowKit

set_option maxHeartbeats 1000000 in
theorem pack_range (gen seq : Int) (v : Value) (h : gen < 1 ∨ 1073741824 < gen ∨ seq < 0 ∨ 1073741824 < seq) (w : World) :
    Calls Tryz.prog 67 #[.int .i64 gen, .int .i64 seq, v] w fun e w' => e = .returned (.tuple #[.slice none 0 0, .int .i64 2]) ∧ w = w' := by
  go_enter Tryz.func67, Tryz.ntmps67
  by_cases h1 : gen < 1
  · clear h
    go_wp2
    go_ret2
    exact ⟨rfl, rfl⟩
  · by_cases h2 : 1073741824 < gen
    · clear h
      go_wp2
      go_ret2
      exact ⟨rfl, rfl⟩
    · by_cases h3 : seq < 0
      · clear h
        go_wp2
        go_ret2
        exact ⟨rfl, rfl⟩
      · have h4 : 1073741824 < seq := by omega
        clear h
        go_wp2
        go_ret2
        exact ⟨rfl, rfl⟩
set_option maxHeartbeats 1000000 in
theorem pack_long (gen seq : Int) (A : Option Addr) (n c : Nat) (h1 : 1 ≤ gen) (h2 : gen ≤ 1073741824) (h3 : 0 ≤ seq) (h4 : seq ≤ 1073741824) (h5 : 188 < n) (w : World) :
    Calls Tryz.prog 67 #[.int .i64 gen, .int .i64 seq, .slice A n c] w fun e w' => e = .returned (.tuple #[.slice none 0 0, .int .i64 41]) ∧ w = w' := by
  have h6 : (188 : Int) < (n : Int) := by omega
  have d1 : decide (gen < 1) = false := decide_eq_false (by omega)
  have d2 : decide (1073741824 < gen) = false := decide_eq_false (by omega)
  have d3 : decide (seq < 0) = false := decide_eq_false (by omega)
  have d4 : decide (1073741824 < seq) = false := decide_eq_false (by omega)
  go_enter Tryz.func67, Tryz.ntmps67
  go_wp2
  go_ret2
  exact ⟨rfl, rfl⟩

/-- the pieces that Pack cuts -/
def PiecesAt (w : World) (l : List UInt8) (s : Value) (wx : World) : Prop :=
  ∃ gp cp, s = .slice (some ⟨gp, 0, none⟩) (chunkN l) cp ∧ (∀ i, i < chunkN l → ∃ a k, wx.cell? ⟨gp, i, none⟩ = some (.slice a (pieceS l i).length k) ∧ ArgB wx (.slice a (pieceS l i).length k) (pieceS l i)) ∧ Kp No w wx
theorem PiecesAt.mk1 {w w1 : World} {l : List UInt8} {g o : Nat} {v : Value} {A : Option Addr} {cap : Nat} (hl : 0 < l.length) (hlm : l.length ≤ 188) (hv : ArgB w (.slice A l.length cap) l) (hA : 0 < l.length → A = some ⟨g, o, none⟩)
    (hown : w1.ownsRow w.heap.size 69 1 v ((l.length + 46) / 47) ((offs ((l.length + 46) / 47)).map (pcV g o l.length))) (hk : Kp No w w1) : PiecesAt w l v w1 := by
  have hA := hA hl
  subst hA
  have hcn : chunkN l = (l.length + 46) / 47 := by unfold chunkN; omega
  obtain ⟨gp, cp, hvv, _, _, _⟩ := own_form hown (by omega)
  subst hvv
  refine ⟨gp, cp, by rw [hcn], fun i hi => ?_, hk⟩
  rw [hcn] at hi
  have hp : (pieceS l i).length = min 47 (l.length - 47 * i) := by simp [pieceS]
  have hcell := hown.cells (g := gp) rfl i (pcV g o l.length (47 * i)) (by rw [List.getElem?_map]; simp [offs, hi])
  rw [Addr.add_mid, Nat.zero_add] at hcell
  have ha := ((hv.no hk).drop (47 * i) (by omega)).take (min 47 (l.length - 47 * i)) (by simp; omega)
  have hq : (l.drop (47 * i)).take (min 47 (l.length - 47 * i)) = pieceS l i := by
    unfold pieceS
    apply List.ext_getElem?
    intro j
    rw [List.getElem?_take, List.getElem?_take, List.getElem?_drop]
    by_cases h1 : j < min 47 (l.length - 47 * i)
    · rw [if_pos h1, if_pos (by omega)]
    · rw [if_neg h1]
      by_cases h2 : j < 47
      · rw [if_pos h2, List.getElem?_eq_none (by omega)]
      · rw [if_neg h2]
  rw [hq] at ha
  obtain ⟨hc, hn, _⟩ := ha.cs
  refine ⟨some ⟨g, o + 47 * i, none⟩, min 47 (l.length - 47 * i), ?_, ?_⟩
  · rw [hcell, hp]; rfl
  · exact ⟨_, _, rfl, by rw [hp]; exact Nat.le_refl _, hc⟩

theorem PiecesAt.mk0 {w w1 : World} (hk : Kp No w w1) : PiecesAt w [] (.slice (some ⟨w1.heap.size, 0, none⟩) 1 1) (w1.alloc (.cells #[.slice none 0 0] 69)) := by
  refine ⟨w1.heap.size, 1, rfl, fun i hi => ?_, hk.alloc _⟩
  have hi0 : i = 0 := by have : chunkN [] = 1 := rfl; omega
  subst hi0
  refine ⟨none, 0, ?_, ?_⟩
  · exact (Bk.new w1 69 [.slice none 0 0]).cell 0
  · exact ArgB.nil _ _ _

def zero64 : List UInt8 := List.replicate 64 0
theorem mk_64 : ∀ W : World, (Instr.makeSlice 69 (.int .i64 64) (.int .i64 64)).run Tryz.prog W = .ok (.slice (some ⟨W.heap.size, 0, none⟩) 64 64) (W.alloc (.cells (u8s zero64).toArray 5)) := fun W => by
  have h := mk_bytes 64 (by omega) W
  rw [← u8s_zero] at h
  exact h
theorem range_allP {w : World} {b : Nat} {t : TypeId} {cs : List Value} (hb : Bk w b t cs) : w.rangeAt b 0 cs := by
  have := hb.range 0 cs.length
  simpa using this
theorem lay_steps (gen seq k N : Nat) (p c1 c2 c3 c4 : List UInt8) (sn : Nat) (hp : p.length ≤ 47) (h1 : layB zero64 0 (four gen) = c1) (h2 : layB c1 4 (four seq) = c2) (h3 : ((c2.set 8 (UInt8.ofNat k)).set 9 (UInt8.ofNat N)).set 10 (UInt8.ofNat p.length) = c3)
    (h4 : layB c3 11 p = c4) (hs : (crcS (c4.take 60)).toNat = sn) : layB c4 60 (four sn) = layS ⟨gen, seq, k, N, p⟩ := by
  have e3 : c3 = four gen ++ four seq ++ [UInt8.ofNat k, UInt8.ofNat N, UInt8.ofNat p.length] ++ List.replicate 53 0 := by
    rw [← h3, ← h2, ← h1]; rfl
  have e4 : c4 = headS ⟨gen, seq, k, N, p⟩ ++ List.replicate (53 - p.length) 0 := by
    rw [← h4, e3]
    unfold layB headS
    rw [List.take_left' (by simp), List.drop_append, List.drop_eq_nil_of_le (by simp), List.drop_replicate]
    simp
  have l4 : c4.length = 64 := by rw [e4, List.length_append, headS_length]; simp; omega
  have t60 : c4.take 60 = padS (headS ⟨gen, seq, k, N, p⟩) := by
    rw [e4, List.take_append, List.take_of_length_le (by rw [headS_length]; simp only; omega), headS_length, List.take_replicate]
    unfold padS
    rw [headS_length]
    congr 2
    simp only
    omega
  unfold layB layS
  rw [← hs, t60, List.drop_eq_nil_of_le (by rw [l4, four_length]; exact Nat.le_refl _), List.append_nil]
/-- what Pack answers -/
def PackR (w w' : World) (gen seq : Nat) (l : List UInt8) (e : Ending) : Prop := ∃ v, e = .returned (.tuple #[v, .int .i64 0]) ∧ Rows w' w.heap.size v (partsS gen seq l) ∧ Kp No w w'

set_option maxRecDepth 100000 in
set_option maxHeartbeats 2000000 in
theorem pack_yes (gen seq : Nat) (A : Option Addr) (c : Nat) (l : List UInt8) (w : World) (hv : ArgB w (.slice A l.length c) l) (hm : c ≤ maxLen) (h1 : 1 ≤ gen) (h2 : gen ≤ 1073741824) (h4 : seq ≤ 1073741824) (hl : l.length ≤ 188) :
    Calls Tryz.prog 67 #[.int .i64 (gen : Int), .int .i64 (seq : Int), .slice A l.length c] w fun e w' => PackR w w' gen seq l e := by
  have h6 : ¬ (188 : Int) < (l.length : Int) := by omega
  have d1 : decide ((gen : Int) < 1) = false := decide_eq_false (by omega)
  have d2 : decide (1073741824 < (gen : Int)) = false := decide_eq_false (by omega)
  have d3 : decide ((seq : Int) < 0) = false := decide_eq_false (by omega)
  have d4 : decide (1073741824 < (seq : Int)) = false := decide_eq_false (by omega)
  have g0 : 0 ≤ (gen : Int) ∧ (gen : Int) < 4294967296 := by omega
  have s0 : 0 ≤ (seq : Int) ∧ (seq : Int) < 4294967296 := by omega
  have HV := Lib.hid hv; clear hv
  unfold maxLen at hm
  go_enter Tryz.func67, Tryz.ntmps67
  go_wp2_with fail
  refine (chunk_any _ _ _ _).mono ?_
  rintro e w' ⟨rfl, rfl⟩
  have K0 : Kp No w ((w.alloc (.cells #[.slice A l.length c] 69)).alloc (.cells #[.int .i64 47] 3)) := ((Kp.refl _ _).alloc _).alloc _
  have cc := collect_any A c w.heap.size (w.heap.size + 1) l _ (HV.out.no K0) hl hm (((Bk.new w 69 [.slice A l.length c]).alloc _).cell 0) ((Bk.new' (by simp) rfl : Bk (World.alloc _ (.cells #[.int .i64 47] 3)) (w.heap.size + 1) 3 [.int .i64 47]).cell 0)
  go_wp2_with fail
  refine cc.mono ?_
  clear cc
  rintro e w1 ⟨pv, pg, po, rfl, hown, hA, k1⟩
  have HA0 := HV.out.no K0
  generalize (w.alloc (.cells #[.slice A l.length c] 69)).alloc (.cells #[.int .i64 47] 3) = w0 at *
  obtain ⟨Ap, cp, hpv, hnc⟩ := own_len hown
  subst hpv
  have HO := Lib.hid hown; have HAA := Lib.hid hA; have HK1 := Lib.hid k1; have HA1 := Lib.hid HA0; clear hown hA k1 HA0
  go_upto_if 37 with (fail)
  go_cut [8] (fun s wx => PiecesAt w0 l s wx)
  case first =>
    by_cases hl0 : 0 < l.length
    · have e0 : ((((l.length + 46) / 47 : Nat) : Int) == 0) = false := by rw [beq_eq_false_iff_ne]; omega
      have HP := Lib.hid (PiecesAt.mk1 hl0 hl HA1.out HAA.out HO.out HK1.out)
      go_wp2
      go_meet
      exact HP.out
    · have hl1 : l = [] := List.eq_nil_of_length_eq_zero (by omega)
      subst hl1
      go_wp2
      go_meet
      exact PiecesAt.mk0 HK1.out
  case rest =>
    obtain ⟨gp, cp', rfl, hpc, hk2⟩ := hcut
    have KC : Kp No w wc := K0.trans hk2
    have hN4 : chunkN l ≤ 4 := by unfold chunkN; omega
    have hN1 : 1 ≤ chunkN l := by unfold chunkN; omega
    have hNp := partsS_length gen seq l
    generalize hN : chunkN l = N at *
    have HN := Lib.hid hN; have HNP := Lib.hid hNp; have HPC := Lib.hid hpc; clear hN hNp hpc
    clear HO HAA HK1 HA1 hnc hk2 K0 HV
    go_wp2
    go_loopw [9, 41] (fun v i wr => ∃ k : Nat, k ≤ N ∧ i = .int .i64 k ∧ Rows wr wc.heap.size v ((partsS gen seq l).take k) ∧ Kp No wc wr) (fun _ i _ => N - (intOf i).toNat)
    case atStart => exact ⟨0, Nat.zero_le _, rfl, Rows.nil _ _, Kp.refl _ _⟩
    case round =>
      obtain ⟨k, hk, rfl, hrows, hkp⟩ := hrel
      by_cases hlt : k < N
      · have hk0 : (0 : Int) ≤ (k : Int) := by omega
        have hk1 : (k : Int) < (N : Int) := by omega
        obtain ⟨pa, pk, hpcell, hparg⟩ := HPC.out k hlt
        have hpl : (pieceS l k).length ≤ 47 := by simp [pieceS]; omega
        have hpcell' : wr.cell? ⟨gp, k, none⟩ = some (.slice pa (pieceS l k).length pk) := by
          rw [World.cell?_of_block (w := wc) (hkp.block gp (World.block_lt_of_cell? wc _ hpcell) (fun m => m))]; exact hpcell
        have hpr := Lib.hid (hparg.no hkp)
        clear hpcell hparg
        obtain ⟨p, hp⟩ : ∃ p, pieceS l k = p := ⟨_, rfl⟩
        rw [hp] at hpcell' hpr hpl
        have HP := Lib.hid hp; clear hp
        have hmk := mk_64
        have HR := Lib.hid hrows; have HKP := Lib.hid hkp; clear hrows hkp
        have plb : 0 ≤ (p.length : Int) ∧ (p.length : Int) < 256 := by omega
        go_wp2_with fail
        refine (four_any gen _).mono ?_
        rintro e w2 ⟨g1, rfl, b1, s1, k1⟩
        have B1 := (Bk.new wr 5 (u8s zero64)).no k1
        have KA1 : Kp No wr w2 := ((Kp.refl No wr).alloc _).trans k1
        clear k1 hmk
        obtain ⟨gb, hgb⟩ : ∃ gb, wr.heap.size = gb := ⟨_, rfl⟩
        rw [hgb] at B1 ⊢
        clear s1
        have HGB := Lib.hid hgb; clear hgb
        have HB := Lib.hid b1; have H1 := Lib.hid B1; have HKA := Lib.hid KA1; clear b1 B1 KA1
        go_wp2_with (refine wpList_copyB w2 rfl (.tmp 47) (.tmp 50) 69 69 rfl 5 Tryz.underlying69 Tryz.sizeByte gb 0 64 64 (some ⟨g1, 0, none⟩) 4 4 rfl rfl zero64 5 H1.out (four gen) rfl (by omega) (fun _ => ⟨g1, 0, rfl, range_allP HB.out⟩) (by rw [four_length]; decide) ?_)
        intro w3 b3 k3
        obtain ⟨c1, hc1⟩ : ∃ c1, layB zero64 0 (four gen) = c1 := ⟨_, rfl⟩
        rw [hc1] at b3
        have l1 : c1.length = 64 := by rw [← hc1, layB_length _ _ _ (by rw [four_length]; decide)]; rfl
        have HC1 := Lib.hid hc1; clear hc1
        have HB3 := Lib.hid b3; have HK3 := Lib.hid k3; have HL1 := Lib.hid l1; clear b3 k3 l1 HB
        have hws : IntKind.u32.wrap (seq : Int) = (seq : Int) := by rw [IntKind.wrap_u32']; omega
        go_upto_region 14 with (fail)
        go_region_law ((first | (refine step_copyB _ rfl (.tmp 53) (.tmp 56) 69 69 rfl 5 Tryz.underlying69 Tryz.sizeByte gb 4 60 60 _ 4 4 rfl rfl c1 5 (HB3.out.no (by with_reducible repeat (first | assumption | exact Kp.refl _ _ | refine Kp.drew ?_ | refine Kp.drewN ?_ _ | refine Kp.alloc ?_ _ | refine Kp.trans ?_ (by assumption)))) (four seq) rfl (by omega) (fun _ => ⟨_, 0, rfl, range_allP (by assumption)⟩) (by rw [HL1.out, four_length]; decide) ?_; intro w5 b5 k5) | (go_simp; go_at_call 123; (with_reducible refine (four_any seq _).mono ?_); rintro e w4 ⟨g4, rfl, b4, s4, k4⟩)))
        obtain ⟨c2, hc2⟩ : ∃ c2, layB c1 4 (four seq) = c2 := ⟨_, rfl⟩
        rw [hc2] at b5
        have l2 : c2.length = 64 := by rw [← hc2, layB_length _ _ _ (by rw [HL1.out, four_length]; decide)]; exact HL1.out
        have HC2 := Lib.hid hc2; clear hc2
        have K5 : Kp No wr w5 := ((HKA.out.then_ (N := One gb) HK3.out (fun i hi h => by have := HGB.out; have : i = gb := h; omega)).drew.trans k4).then_ (N := One gb) k5 (fun i hi h => by have := HGB.out; have : i = gb := h; omega)
        obtain ⟨y8, z8⟩ : ∃ v, w5.cell? ⟨gb, 8, none⟩ = some (.int .u8 v) := ⟨_, (b5.cell 8).trans ((u8s_get c2 8).trans (by rw [List.getElem?_eq_getElem (by omega)]; rfl))⟩
        obtain ⟨y9, z9⟩ : ∃ v, w5.cell? ⟨gb, 9, none⟩ = some (.int .u8 v) := ⟨_, (b5.cell 9).trans ((u8s_get c2 9).trans (by rw [List.getElem?_eq_getElem (by omega)]; rfl))⟩
        obtain ⟨y10, z10⟩ : ∃ v, w5.cell? ⟨gb, 10, none⟩ = some (.int .u8 v) := ⟨_, (b5.cell 10).trans ((u8s_get c2 10).trans (by rw [List.getElem?_eq_getElem (by omega)]; rfl))⟩
        have zf := b5.frozen
        have HB5 := Lib.hid b5; have HL2 := Lib.hid l2; have HK5 := Lib.hid K5; clear b5 l2 K5 k4 k5 b4 s4 hws HK3 HKA
        have wk : IntKind.u8.wrap (k : Int) = (k : Int) := by rw [IntKind.wrap_u8]; omega
        have wN : IntKind.u8.wrap (N : Int) = (N : Int) := by rw [IntKind.wrap_u8]; omega
        have wp : IntKind.u8.wrap (p.length : Int) = (p.length : Int) := by rw [IntKind.wrap_u8]; omega
        go_upto_region 16 with (fail)
        obtain ⟨c3, hc3⟩ : ∃ c3, ((c2.set 8 (UInt8.ofNat k)).set 9 (UInt8.ofNat N)).set 10 (UInt8.ofNat p.length) = c3 := ⟨_, rfl⟩
        have l3 : c3.length = 64 := by rw [← hc3]; simpa using HL2.out
        have B6 : Bk (((w5.setCell ⟨gb, 8, none⟩ (.int .u8 (k : Int))).setCell ⟨gb, 9, none⟩ (.int .u8 (N : Int))).setCell ⟨gb, 10, none⟩ (.int .u8 (p.length : Int))) gb 5 (u8s c3) := by
          have h := ((HB5.out.set_ 8 (.int .u8 (k : Int))).set_ 9 (.int .u8 (N : Int))).set_ 10 (.int .u8 (p.length : Int))
          rw [show (k : Int) = ((UInt8.ofNat k).toNat : Int) by rw [← u8_nat]; exact wk.symm, show (N : Int) = ((UInt8.ofNat N).toNat : Int) by rw [← u8_nat]; exact wN.symm, show (p.length : Int) = ((UInt8.ofNat p.length).toNat : Int) by rw [← u8_nat]; exact wp.symm, u8s_set, u8s_set, u8s_set, hc3] at h
          rw [show (k : Int) = ((UInt8.ofNat k).toNat : Int) by rw [← u8_nat]; exact wk.symm, show (N : Int) = ((UInt8.ofNat N).toNat : Int) by rw [← u8_nat]; exact wN.symm, show (p.length : Int) = ((UInt8.ofNat p.length).toNat : Int) by rw [← u8_nat]; exact wp.symm]
          exact h
        have hgb := HGB.out
        have K6 := ((HK5.out.set (M := No) (g := gb) (.inr (by omega)) 8 (.int .u8 (k : Int))).set (g := gb) (.inr (by omega)) 9 (.int .u8 (N : Int))).set (g := gb) (.inr (by omega)) 10 (.int .u8 (p.length : Int))
        clear hgb
        have HC3 := Lib.hid hc3; clear hc3
        clear z8 z9 z10 zf wk wN wp
        generalize ((w5.setCell ⟨gb, 8, none⟩ (.int .u8 (k : Int))).setCell ⟨gb, 9, none⟩ (.int .u8 (N : Int))).setCell ⟨gb, 10, none⟩ (.int .u8 (p.length : Int)) = w6 at *
        have HL3 := Lib.hid l3; have HB6 := Lib.hid B6; have HK6 := Lib.hid K6; clear l3 B6 K6 HK5 HB5
        go_wp2_with (refine wpList_copyB w6 rfl (.tmp 73) (.tmp 74) 69 69 rfl 5 Tryz.underlying69 Tryz.sizeByte gb 11 53 53 pa p.length pk rfl rfl c3 5 HB6.out p rfl (by omega) ((hpr.out.no HK6.out).cs.1) (by rw [HL3.out]; omega) ?_)
        intro w7 b7 k7
        obtain ⟨c4, hc4⟩ : ∃ c4, layB c3 11 p = c4 := ⟨_, rfl⟩
        rw [hc4] at b7
        have l4 : c4.length = 64 := by rw [← hc4, layB_length _ _ _ (by rw [HL3.out]; omega)]; exact HL3.out
        have HC4 := Lib.hid hc4; clear hc4
        have K7 : Kp No wr w7 := HK6.out.then_ (N := One gb) k7 (fun i hi h => by have := HGB.out; have : i = gb := h; omega)
        have a7 : ArgB w7 (.slice (some ⟨gb, 0, none⟩) 60 64) (c4.take 60) := by
          have := (bk_argB' b7 (c := 64) (by omega)).take 60 (by omega)
          exact this
        obtain ⟨sn, hsn⟩ : ∃ sn : Nat, (crcS (c4.take 60)).toNat = sn := ⟨_, rfl⟩
        have qs : ∀ W, Kp No w7 W → Calls Tryz.prog 88 #[.slice (some ⟨gb, 0, none⟩) 60 64] W fun e w' => e = .returned (.int .u32 (sn : Int)) ∧ W = w' := fun W k => by
          have := sum_any _ _ W (a7.no k) (by simp; unfold maxLen; omega)
          unfold crcI at this
          rw [hsn] at this
          exact this
        have HSN := Lib.hid hsn; have HB7 := Lib.hid b7; have HK7 := Lib.hid K7; have HL4 := Lib.hid l4; clear hsn b7 K7 l4 a7 k7 HK6
        go_upto_region 17 with (fail)
        go_region_law ((first | (refine step_copyB _ rfl (.tmp 77) (.tmp 81) 69 69 rfl 5 Tryz.underlying69 Tryz.sizeByte gb 60 4 4 _ 4 4 rfl rfl c4 5 (HB7.out.no (by with_reducible repeat (first | assumption | exact Kp.refl _ _ | refine Kp.drew ?_ | refine Kp.drewN ?_ _ | refine Kp.alloc ?_ _ | refine Kp.trans ?_ (by assumption)))) (four sn) rfl (by omega) (fun _ => ⟨_, 0, rfl, range_allP (by assumption)⟩) (by rw [HL4.out, four_length]; decide) ?_; intro w9 b9 k9) | (go_simp; go_at_call 88; (with_reducible refine (qs _ (by with_reducible repeat (first | assumption | exact Kp.refl _ _ | refine Kp.drew ?_ | refine Kp.drewN ?_ _ | refine Kp.alloc ?_ _ | refine Kp.trans ?_ (by assumption)))).mono ?_); rintro e w7' ⟨rfl, rfl⟩) | (go_simp; go_at_call 123; (with_reducible refine (four_any sn _).mono ?_); rintro e w8 ⟨g8, rfl, b8, s8, k8⟩)))
        obtain ⟨c5, hc5⟩ : ∃ c5, layB c4 60 (four sn) = c5 := ⟨_, rfl⟩
        rw [hc5] at b9
        have hlay : c5 = layS ⟨gen, seq, k, N, p⟩ := by
          rw [← hc5]
          exact lay_steps gen seq k N p c1 c2 c3 c4 sn hpl HC1.out HC2.out HC3.out HC4.out HSN.out
        have K9 : Kp No wr w9 := (HK7.out.drew.trans k8).then_ (N := One gb) k9 (fun i hi h => by have := HGB.out; have : i = gb := h; omega)
        have hlen : ((partsS gen seq l).take k).length = k := by rw [List.length_take, HNP.out]; omega
        obtain ⟨xs, hown, hrw⟩ := HR.out.no K9
        have hown' := hown
        rw [hlen] at hown'
        have hbase : wc.heap.size ≤ w9.heap.size := Nat.le_trans HKP.out.size K9.size
        have hwg : wc.heap.size ≤ gb := by have := HGB.out; have := HKP.out.size; omega
        have l5 : c5.length = 64 := by rw [← hc5, layB_length _ _ _ (by rw [HL4.out, four_length]; decide)]; exact HL4.out
        have ob := ownB_of_bk b9 hwg (by rw [l5]; unfold maxLen; omega)
        rw [l5] at ob
        have HOB := Lib.hid ob; have HOW := Lib.hid hown; have HRW := Lib.hid hrw; have HLY := Lib.hid hlay; have HLEN := Lib.hid hlen; have HK9 := Lib.hid K9
        have hnext : (partsS gen seq l).take (k + 1) = (partsS gen seq l).take k ++ [c5] := by
          rw [List.take_succ_eq_append_getElem (by rw [HNP.out]; exact hlt)]
          congr 2
          simp only [partsS, List.getElem_map, List.getElem_range]
          rw [HLY.out, HN.out, HP.out]
        have HNX := Lib.hid hnext
        have ha := fun o => own_kp hown' ((Kp.refl No w9).alloc o) (fun _ _ m => m)
        clear hc5 hlay K9 hlen hown hrw ob l5 b9 k9 b8 k8 s8 hown' hnext qs
        go_wp2_with (at_builtin; refine wpList_appV _ rfl _ _ 63 rfl wc.heap.size 69 _ 24 Tryz.underlying63 Tryz.infoBytes rfl _ k xs rfl (ha _) _ 1 1 [.slice (some ⟨gb, 0, none⟩) 64 64] rfl rfl (cs_new rfl rfl) (by intro u hu; cases hu with | head => rfl | tail _ h => cases h) (by omega) (by omega) (by simp; omega) ?_)
        intro v' w10 o10 k10 _
        have HPU := Lib.hid (Rows.push (ha _) HLEN.out.symm (fun i hi => by obtain ⟨x, hx, ho⟩ := HRW.out i hi; exact ⟨x, hx, ho.alloc _⟩) (HOB.out.alloc _) o10 (by rw [HLEN.out]) k10)
        have HKK := Lib.hid (kp_own (ha (.cells #[.slice (some ⟨gb, 0, none⟩) 64 64] 69)) ((HKP.out.trans HK9.out).alloc _) k10)
        clear o10 k10 ha
        go_wp2
        go_roundw
        case rel => exact ⟨k + 1, by omega, by go_num, by rw [HNX.out]; exact HPU.out, HKK.out⟩
        case measure => simp [intOf]; omega
      · obtain rfl : k = N := by omega
        have HR := Lib.hid hrows; have HKP := Lib.hid hkp; clear hrows hkp
        go_wp2
        go_ret2
        refine ⟨_, rfl, ?_, KC.trans HKP.out⟩
        have := HR.out
        rw [List.take_of_length_le (by rw [HNP.out]; exact Nat.le_refl _)] at this
        exact this.mono KC.size

/-- what Pack answers, to any arguments -/
def PackA (w w' : World) (gen seq : Int) (l : List UInt8) (e : Ending) : Prop := ∃ v, e = .returned (.tuple #[v, .int .i64 (packS gen seq l).2]) ∧ Rows w' w.heap.size v (packS gen seq l).1 ∧ Kp No w w'
theorem pack_any (gen seq : Int) (A : Option Addr) (n c : Nat) (l : List UInt8) (w : World) (hv : ArgB w (.slice A n c) l) (hm : c ≤ maxLen) :
    Calls Tryz.prog 67 #[.int .i64 gen, .int .i64 seq, .slice A n c] w fun e w' => PackA w w' gen seq l e := by
  obtain ⟨_, hn, _⟩ := hv.cs
  subst hn
  by_cases h1 : gen < 1 ∨ 1073741824 < gen ∨ seq < 0 ∨ 1073741824 < seq
  · refine (pack_range gen seq _ h1 w).mono ?_
    rintro e w' ⟨rfl, rfl⟩
    have hp : packS gen seq l = ([], 2) := if_pos h1
    exact ⟨_, by rw [hp], by rw [hp]; exact Rows.nil _ _, Kp.refl _ _⟩
  · by_cases h2 : 188 < l.length
    · refine (pack_long gen seq A l.length c (by omega) (by omega) (by omega) (by omega) h2 w).mono ?_
      rintro e w' ⟨rfl, rfl⟩
      have hp : packS gen seq l = ([], 41) := by unfold packS; rw [if_neg h1, if_pos h2]
      exact ⟨_, by rw [hp], by rw [hp]; exact Rows.nil _ _, Kp.refl _ _⟩
    · obtain ⟨g, rfl⟩ := Int.eq_ofNat_of_zero_le (show 0 ≤ gen by omega)
      obtain ⟨s, rfl⟩ := Int.eq_ofNat_of_zero_le (show 0 ≤ seq by omega)
      refine (pack_yes g s A c l w hv hm (by omega) (by omega) (by omega) (by omega)).mono ?_
      rintro e w' ⟨v, rfl, hr, hk⟩
      have hp : packS (g : Int) (s : Int) l = (partsS g s l, 0) := by unfold packS; rw [if_neg h1, if_neg h2]; rfl
      exact ⟨v, by rw [hp], by rw [hp]; exact hr, hk⟩
end Go.Proofs.YtlgbmkdeamgpkaaGreatDoor

/- A region that draws its order, whose last operation comes behind all others: loads of cells that stand till then may be taken first. -/
namespace Go.Proofs.YtlgbmkdeamgpkaaGreatDoor
open Go.RowKit
section
variable {P : Program} {ops : Array Oper} {Q : Exit → Act → World → Prop} {md : Region.Mode} {F : World → Prop} {d : Nat}

/-- whatever order is picked, and F holds behind every operation but number d -/
def wpAnyD (P : Program) (md : Region.Mode) (ops : Array Oper) (Q : Exit → Act → World → Prop) (F : World → Prop) (d : Nat) : Nat → Array Bool → Act → World → Prop
  | 0, listed, a, w => Region.ready md ops listed = [] ∧ Q .normal a w
  | fuel + 1, listed, a, w =>
    (Region.ready md ops listed = [] → Q .normal a w) ∧
    ∀ i ∈ Region.ready md ops listed, wpOp P ops Q i (fun a' w' => (i ≠ d → F w') ∧ wpAnyD P md ops Q F d fuel (listed.setIfInBounds i true) a' w') a w

theorem wpAny_of_D : ∀ (fuel : Nat) (listed : Array Bool) (a : Act) (w : World), wpAnyD P md ops Q F d fuel listed a w → wpAny P md ops Q fuel listed a w
  | 0, _, _, _, h => h
  | fuel + 1, _, _, _, h => ⟨h.1, fun i hi => wpOp_mono (fun a' w' h' => wpAny_of_D fuel _ a' w' h'.2) (h.2 i hi)⟩

theorem wpAnyD_first {i : Nat} {oi : Oper} {v : Value} (hi : ops[i]? = some oi) (hsel : ∀ (j : Nat) (o : Oper) cs b, ops[j]? = some o → o.op ≠ .select cs b)
    (hQ : ∀ c a w, Q (.panic c) (a.put oi.dst v) w → Q (.panic c) a w)
    (hd : ∀ listed : Array Bool, d ∈ Region.ready md ops listed → listed.getD i true = true) :
    ∀ (fuel : Nat) (listed : Array Bool) (a : Act) (w : World),
      (∀ j oj, ops[j]? = some oj → j ≠ i → listed.getD j true = false → (∀ e ∈ oj.after, Region.binds md e = true → e.on ≠ i) → oi.apart ops oj = true) →
      i ∈ Region.ready md ops listed → YieldsIf P ops F oi v a → F w →
      wpAnyD P md ops Q F d fuel (listed.setIfInBounds i true) (a.put oi.dst v) w → wpAnyD P md ops Q F d (fuel + 1) listed a w := by
  intro fuel
  induction fuel with
  | zero =>
    intro listed a w _ hr hy hS H
    refine ⟨fun h => (by rw [h] at hr; cases hr), fun j hj => ?_⟩
    by_cases hji : j = i
    · subst hji; exact hy.wpOp hi hS ⟨fun _ => hS, H⟩
    · have := ready_mono hj hji
      rw [H.1] at this
      cases this
  | succ fuel ih =>
    intro listed a w hfree hr hy hS H
    refine ⟨fun h => (by rw [h] at hr; cases hr), fun j hj => ?_⟩
    by_cases hji : j = i
    · subst hji; exact hy.wpOp hi hS ⟨fun _ => hS, H⟩
    · have h1 := H.2 j (ready_mono hj hji)
      obtain ⟨hjun, oj, hoj, hall⟩ := mem_ready.1 hj
      have hiun : listed.getD i true = false := (mem_ready.1 hr).1
      have hjd : j ≠ d := fun e => by
        subst e
        have := hd listed hj
        rw [this] at hiun; cases hiun
      have hnot : ∀ e ∈ oj.after, Region.binds md e = true → e.on ≠ i := fun e he hb heq => by
        have h0 := hall e he hb
        rw [heq] at h0
        have h1 := hiun
        simp only [Array.getD_eq_getD_getElem?] at h0 h1
        rcases Nat.lt_or_ge i listed.size with h' | h'
        · simp [h'] at h0 h1; rw [h0] at h1; cases h1
        · simp [Array.getElem?_eq_none h'] at h1
      have h2 := wpOp_putIf hoj (hfree j oj hoj hji hjun hnot) (fun cs b => hsel i oi cs b hi) (fun cs b => hsel j oj cs b hoj) hQ hy h1
      have hfree' : ∀ k ok, ops[k]? = some ok → k ≠ i → (listed.setIfInBounds j true).getD k true = false →
          (∀ e ∈ ok.after, Region.binds md e = true → e.on ≠ i) → oi.apart ops ok = true := fun k ok hk hki hun hno => by
        refine hfree k ok hk hki ?_ hno
        by_cases hjk : j = k
        · subst hjk; exact hjun
        · rw [getD_set_ne true hjk] at hun; exact hun
      refine wpOp_mono (fun a' w' h3 => ⟨h3.2.1, ih (listed.setIfInBounds j true) a' w' hfree' (ready_mono hr (Ne.symm hji)) h3.1 (h3.2.1 hjd) ?_⟩) h2
      rw [Array.setIfInBounds_comm _ _ hji]
      exact h3.2.2

/-- does number d wait for number i? -/
def waits (md : Region.Mode) (ops : Array Oper) (d i : Nat) : Bool :=
  match ops[d]? with
  | none => true
  | some o => o.after.any fun e => Region.binds md e && e.on == i
theorem waits_spec {i : Nat} (h : waits md ops d i = true) (_hi : i < ops.size) (listed : Array Bool) (hr : d ∈ Region.ready md ops listed) : listed.getD i true = true := by
  obtain ⟨_, o, ho, hall⟩ := mem_ready.1 hr
  unfold waits at h
  rw [ho] at h
  obtain ⟨n, hn, he⟩ := Array.any_eq_true.1 h
  simp only [Bool.and_eq_true, beq_iff_eq] at he
  have := hall _ (Array.getElem_mem hn) he.1
  rw [he.2] at this
  simp only [Array.getD_eq_getD_getElem?] at this ⊢
  cases hx : listed[i]? with
  | none => rfl
  | some b => rw [hx] at this; exact this

/-- begin: F holds, and a draw does not touch it -/
theorem rg_begin {id : Nat} {a : Act} {w : World} (F : World → Prop) (d : Nat) (hm : P.follows .mixedOrders = true) (h : wpAnyD P .any ops Q F d ops.size (Array.replicate ops.size false) a w.drew) : (Code.region id ops true).wp P Q a w :=
  wp_region_any hm (wpAny_of_D _ _ _ _ h)
/-- take number i first -/
theorem rg_take {i : Nat} {oi : Oper} {v : Value} {fuel : Nat} {listed : Array Bool} {a : Act} {w : World} (hi : ops[i]? = some oi)
    (hs : (Region.noSelect ops && Region.free md ops listed i && (Region.ready md ops listed).contains i && waits md ops d i) = true)
    (hQ : ∀ c a w, Q (.panic c) (a.put oi.dst v) w → Q (.panic c) a w) (hy : Region.wanted oi (yielded ops a.tmps) = true) (hv : ∀ w, F w → (execOp a.eval oi).run P w = .ok (.value v) w) (hS : F w)
    (h : wpAnyD P md ops Q F d fuel (listed.setIfInBounds i true) (a.put oi.dst v) w) : wpAnyD P md ops Q F d (fuel + 1) listed a w := by
  simp only [Bool.and_eq_true] at hs
  obtain ⟨⟨⟨h1, h2⟩, h3⟩, h4⟩ := hs
  exact wpAnyD_first hi (Region.noSelect_spec h1) hQ (waits_spec h4 (Array.getElem?_eq_some_iff.1 hi).1) fuel listed a w (Region.free_spec hi h2) (by simpa using h3) (.inl ⟨hy, hv⟩) hS h
/-- a guarded operation that is passed over -/
theorem rg_pass {i : Nat} {oi : Oper} {fuel : Nat} {listed : Array Bool} {a : Act} {w : World} (hi : ops[i]? = some oi)
    (hs : (Region.noSelect ops && Region.free md ops listed i && (Region.ready md ops listed).contains i && waits md ops d i) = true)
    (hQ : ∀ c a w, Q (.panic c) (a.put oi.dst undef) w → Q (.panic c) a w) (hy : Region.wanted oi (yielded ops a.tmps) = false) (hS : F w)
    (h : wpAnyD P md ops Q F d fuel (listed.setIfInBounds i true) (a.put oi.dst undef) w) : wpAnyD P md ops Q F d (fuel + 1) listed a w := by
  simp only [Bool.and_eq_true] at hs
  obtain ⟨⟨⟨h1, h2⟩, h3⟩, h4⟩ := hs
  exact wpAnyD_first hi (Region.noSelect_spec h1) hQ (waits_spec h4 (Array.getElem?_eq_some_iff.1 hi).1) fuel listed a w (Region.free_spec hi h2) (by simpa using h3) (.inr ⟨hy, rfl⟩) hS h
/-- the one that may come up -/
theorem rg_one {i : Nat} {oi : Oper} {fuel : Nat} {listed : Array Bool} {a : Act} {w : World} (hi : ops[i]? = some oi) (hr : (Region.ready md ops listed == [i]) = true) (hy : Region.wanted oi (yielded ops a.tmps) = true)
    (h : ∀ K : Act → World → Prop, (∀ a w, (i ≠ d → F w) → wpAnyD P md ops Q F d fuel (listed.setIfInBounds i true) a w → K a w) → Oper.wp P oi a w K Q) : wpAnyD P md ops Q F d (fuel + 1) listed a w := by
  have hr' : Region.ready md ops listed = [i] := by simpa using hr
  refine ⟨fun h0 => (by rw [hr'] at h0; cases h0), fun j hj => ?_⟩
  rw [hr'] at hj
  obtain rfl : j = i := by simpa using hj
  unfold wpOp
  simp only [hi, hy, if_true]
  exact .inl (h _ fun a w h1 h2 => ⟨h1, h2⟩)
theorem rg_use {i d : Nat} {F : World → Prop} {X K : Act → World → Prop} {a : Act} {w : World} (hK : ∀ a w, (i ≠ d → F w) → X a w → K a w) (hF : F w) (h : F w → X a w) : K a w := hK a w (fun _ => hF) (h hF)
/-- all have come up -/
theorem rg_done {listed : Array Bool} {a : Act} {w : World} {fuel : Nat} (hr : (Region.ready md ops listed).isEmpty = true) (h : Q .normal a w) : wpAnyD P md ops Q F d fuel listed a w := by
  have hr' : Region.ready md ops listed = [] := by simpa using hr
  cases fuel with
  | zero => exact ⟨hr', h⟩
  | succ n => exact ⟨fun _ => h, by rw [hr']; simp⟩
end
end Go.Proofs.YtlgbmkdeamgpkaaGreatDoor
