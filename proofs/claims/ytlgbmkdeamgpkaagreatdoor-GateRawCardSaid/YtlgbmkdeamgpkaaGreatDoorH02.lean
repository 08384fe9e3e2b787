/- Several texts of this claim in one. No condition beyond what each theorem states. -/
import Derived.Test.YtlgbmkdeamgpkaaGreatDoorG01
import Derived.Test.YtlgbmkdeamgpkaaGreatDoorG04
import Derived.Test.YtlgbmkdeamgpkaaGreatDoorG02
/- The reference's sectors: lay, Pack, SameAll, by contracts. No condition beyond what each theorem states. -/
namespace Go.Proofs.YtlgbmkdeamgpkaaGreatDoor
open Go Go.RowKit

set_option maxRecDepth 100000 in
set_option maxHeartbeats 2000000 in
theorem rlay_any (p : Pt) (A : Option Addr) (c : Nat) (w : World) (hv : ArgB w (.slice A p.data.length c) p.data) (h1 : p.gen < 4294967296) (h2 : p.seq < 4294967296) (h3 : p.idx < 256) (h4 : p.parts < 256) (h5 : p.data.length ≤ 49) :
    Calls Tryz.prog 85 #[.agg #[.int .i64 (p.gen : Int), .int .i64 (p.seq : Int), .int .i64 (p.idx : Int), .int .i64 (p.parts : Int), .slice A p.data.length c]] w fun e w' => ∃ v, e = .returned v ∧ OwnB w' w.heap.size v (layS p) ∧ Kp No w w' := by
  obtain ⟨gen, seq, idx, parts, data⟩ := p
  simp only at hv h1 h2 h3 h4 h5 ⊢
  have g0 : 0 ≤ (gen : Int) ∧ (gen : Int) < 4294967296 := by omega
  have s0 : 0 ≤ (seq : Int) ∧ (seq : Int) < 4294967296 := by omega
  have i0 : 0 ≤ (idx : Int) ∧ (idx : Int) < 256 := by omega
  have p0 : 0 ≤ (parts : Int) ∧ (parts : Int) < 256 := by omega
  have d0 : 0 ≤ (data.length : Int) ∧ (data.length : Int) < 256 := by omega
  have wi := u8s_nat idx
  have wp := u8s_nat parts
  have wd := u8s_nat data.length
  have HU := Lib.hid (show u8s [UInt8.ofNat idx, UInt8.ofNat parts, UInt8.ofNat data.length] = [.int .u8 (idx : Int), .int .u8 (parts : Int), .int .u8 (data.length : Int)] by
    have e : ∀ a b c : UInt8, u8s [a, b, c] = u8s [a] ++ (u8s [b] ++ u8s [c]) := fun _ _ _ => rfl
    rw [e, wi, wp, wd, Int.emod_eq_of_lt i0.1 i0.2, Int.emod_eq_of_lt p0.1 p0.2, Int.emod_eq_of_lt d0.1 d0.2]; rfl)
  clear wi wp wd
  have HV := Lib.hid hv; clear hv
  go_enter Tryz.func85, Tryz.ntmps85
  go_wp2_with fail
  obtain ⟨W, hW⟩ : ∃ W, W = w.alloc (.cells #[.int .i64 (gen : Int), .int .i64 (seq : Int), .int .i64 (idx : Int), .int .i64 (parts : Int), .slice A data.length c] 95) := ⟨_, rfl⟩
  have KW : Kp No w W := by rw [hW]; exact (Kp.refl _ _).alloc _
  have BW : Bk W w.heap.size 95 (ptC gen seq idx parts (.slice A data.length c)) := by rw [hW]; exact Bk.new w _ _
  rw [← hW]
  clear hW
  refine (rfour_any gen h1 _).mono ?_
  rintro e w1 ⟨v1, rfl, o1, k1⟩
  have K1 := KW.trans k1
  have B1 := BW.no k1
  have z1 : w1.cell? ⟨w.heap.size, 1, none⟩ = some (.int .i64 (seq : Int)) := B1.cell 1
  have HO1 := Lib.hid (o1.mono KW.size); have HK1 := Lib.hid K1; have HB1 := Lib.hid B1; clear o1 K1 B1 k1 KW BW
  go_wp2_with fail
  refine (rfour_any seq h2 _).mono ?_
  rintro e w2 ⟨v2, rfl, o2, k2⟩
  have A2 := own_argB o2
  obtain ⟨a2, c2, e2, _⟩ := own_len o2
  subst e2
  have K2 := HK1.out.trans k2
  have OA := HO1.out.no k2
  have HO2 := Lib.hid OA; have HA2 := Lib.hid A2; have HK2 := Lib.hid K2; have HB2 := Lib.hid (HB1.out.no k2); clear OA A2 K2 o2 k2 z1
  go_wp2_with (at_builtin; refine wpList_appB _ rfl (.tmp 9) (.tmp 13) rfl w.heap.size v1 (four gen) rfl HO2.out _ _ _ (four seq) rfl rfl (HA2.out.cs.1) (by simp) (HK2.out.size) ?_)
  intro a3 n3 c3 w3 o3 f3 k3
  have K3 := f3 w (Nat.le_refl _) HK2.out
  have B3 := HB2.out.kp k3 (own_ne HO2.out HB2.out (by decide))
  have z2 : w3.cell? ⟨w.heap.size, 2, none⟩ = some (.int .i64 (idx : Int)) := B3.cell 2
  have z3 : w3.cell? ⟨w.heap.size, 3, none⟩ = some (.int .i64 (parts : Int)) := B3.cell 3
  have z4 : w3.cell? ⟨w.heap.size, 4, none⟩ = some (.slice A data.length c) := B3.cell 4
  have HO3 := Lib.hid o3; have HK3 := Lib.hid K3; have HB3 := Lib.hid B3; clear o3 f3 k3 K3 B3 HO2 HA2 HK2 HB2 HO1 HK1 HB1
  go_wp2_with (at_builtin; refine wpList_appB _ rfl (.tmp 15) (.tmp 26) rfl w.heap.size _ (four gen ++ four seq) rfl (HO3.out.alloc _) _ _ _ [UInt8.ofNat idx, UInt8.ofNat parts, UInt8.ofNat data.length] rfl rfl (by rw [HU.out]; exact cs_new rfl rfl) (by simp) (by have := HK3.out.size; simp; omega) ?_)
  intro a4 n4 c4 w4 o4 f4 k4
  have K4 := f4 w (Nat.le_refl _) (HK3.out.alloc _)
  have B4 := (HB3.out.alloc _).kp k4 (own_ne (HO3.out.alloc (.cells #[.int .u8 (idx : Int), .int .u8 (parts : Int), .int .u8 (data.length : Int)] 5)) (HB3.out.alloc _) (by decide))
  have z4 : w4.cell? ⟨w.heap.size, 4, none⟩ = some (.slice A data.length c) := B4.cell 4
  have HO4 := Lib.hid o4; have HK4 := Lib.hid K4; clear o4 f4 k4 K4 B4 HO3 HK3 HB3
  go_wp2_with (at_builtin; refine wpList_appB _ rfl (.tmp 28) (.tmp 30) rfl w.heap.size _ _ rfl HO4.out _ _ _ data rfl rfl ((HV.out.no HK4.out).cs.1) (by simp; omega) (HK4.out.size) ?_)
  intro a5 n5 c5 w5 o5 f5 k5
  have K5 := f5 w (Nat.le_refl _) HK4.out
  have he : headS ⟨gen, seq, idx, parts, data⟩ = four gen ++ (four seq ++ UInt8.ofNat idx :: UInt8.ofNat parts :: UInt8.ofNat data.length :: data) := by simp [headS]
  rw [← he] at o5
  have hhl := headS_length ⟨gen, seq, idx, parts, data⟩
  simp only at hhl
  have HO5 := Lib.hid o5; have HK5 := Lib.hid K5; have HHL := Lib.hid hhl; clear o5 f5 k5 K5 HO4 HK4 z4 he hhl
  obtain ⟨h, hh⟩ : ∃ h, headS ⟨gen, seq, idx, parts, data⟩ = h := ⟨_, rfl⟩
  rw [hh] at HO5 HHL
  have HH := Lib.hid hh; clear hh
  obtain ⟨_, hn5⟩ : True ∧ n5 = h.length := ⟨trivial, by have := own_argB HO5.out; exact (this.cs).2.1⟩
  subst hn5
  go_wp2
  go_loopw [3] (fun v wr => ∃ k : Nat, h.length + k ≤ 60 ∧ (∃ aa cc, v = .slice aa (h.length + k) cc) ∧ OwnB wr w.heap.size v (h ++ List.replicate k 0) ∧ Kp No w wr) (fun v _ => match v with | .slice _ n _ => 60 - n | _ => 0)
  case atStart => exact ⟨0, by rw [HHL.out]; omega, ⟨_, _, rfl⟩, by simpa using HO5.out, HK5.out⟩
  case round =>
    obtain ⟨k, hk, ⟨aa, cc, rfl⟩, hown, hkp⟩ := hrel
    have HOW := Lib.hid hown; have HKP := Lib.hid hkp; clear hown hkp
    by_cases hlt : h.length + k < 60
    · have hlt' : ((h.length + k : Nat) : Int) < 60 := by omega
      have HZ := Lib.hid (show u8s [(0 : UInt8)] = [.int .u8 0] from rfl)
      go_wp2_with (at_builtin; refine wpList_appB _ rfl (.tmp 35) (.tmp 36) rfl w.heap.size _ (h ++ List.replicate k 0) rfl (HOW.out.alloc _) _ _ _ [0] rfl rfl (by rw [HZ.out]; exact cs_new rfl rfl) (by simp; omega) (by have := HKP.out.size; simp; omega) ?_)
      intro a6 n6 c6 w6 o6 f6 _
      have K6 := f6 w (Nat.le_refl _) (HKP.out.alloc _)
      have e6 : OwnB w6 w.heap.size (.slice a6 n6 c6) (h ++ List.replicate (k + 1) 0) := by
        rw [List.replicate_succ', ← List.append_assoc]; simpa using o6
      have hn6 : n6 = h.length + (k + 1) := by have := ((own_argB e6).cs).2.1; simpa using this
      subst hn6
      have HE6 := Lib.hid e6; have HK6 := Lib.hid K6; clear o6 f6 K6 e6
      go_wp2
      go_roundw
      case rel => exact ⟨k + 1, by omega, ⟨_, _, rfl⟩, HE6.out, HK6.out⟩
      case measure => simp; omega
    · have hge : ¬ ((h.length + k : Nat) : Int) < 60 := by omega
      have hpad : h ++ List.replicate k 0 = padS h := by unfold padS; congr 2; omega
      have HOP := Lib.hid (show OwnB wr w.heap.size (.slice aa (h.length + k) cc) (padS h) by rw [← hpad]; exact HOW.out)
      have hpl : (padS h).length = 60 := by rw [← hpad]; simp; omega
      have HPL := Lib.hid hpl
      have cs := sum_any _ _ wr (own_argB HOP.out) (by rw [hpl]; unfold maxLen; omega)
      clear hpad HOW hpl
      obtain ⟨b, hb⟩ : ∃ b, padS h = b := ⟨_, rfl⟩
      rw [hb] at HOP HPL cs
      have HB := Lib.hid hb; clear hb
      have rs := rsum_any _ _ wr (own_argB HOP.out) (by rw [HPL.out]; unfold maxLen; omega)
      clear cs
      obtain ⟨sn, hsn⟩ : ∃ sn : Nat, (crcS b).toNat = sn := ⟨_, rfl⟩
      have hsl : sn < 4294967296 := by rw [← hsn]; exact (crcS b).isLt
      unfold crcI at rs
      rw [hsn] at rs
      have HSN := Lib.hid hsn; clear hsn
      go_wp2_with fail
      refine rs.mono ?_
      rintro e w7 ⟨rfl, rfl⟩
      go_wp2_with fail
      refine (rfour_any sn hsl _).mono ?_
      rintro e w8 ⟨v8, rfl, o8, k8⟩
      have A8 := own_argB o8
      obtain ⟨a8, c8, e8, _⟩ := own_len o8
      subst e8
      have HA8 := Lib.hid A8; have HO8 := Lib.hid (HOP.out.no k8); have HK8 := Lib.hid (HKP.out.trans k8); clear A8 o8 k8 rs
      go_wp2_with (at_builtin; refine wpList_appB _ rfl (.tmp 40) (.tmp 42) rfl w.heap.size _ b rfl HO8.out _ _ _ (four sn) rfl rfl (HA8.out.cs.1) (by rw [HPL.out]; simp) (HK8.out.size) ?_)
      intro a9 n9 c9 w9 o9 f9 _
      have K9 := f9 w (Nat.le_refl _) HK8.out
      have HO9 := Lib.hid o9; have HK9 := Lib.hid K9; clear o9 f9 K9
      go_wp2
      go_ret
      refine ⟨_, rfl, ?_, HK9.out⟩
      have hl : layS ⟨gen, seq, idx, parts, data⟩ = b ++ four sn := by
        unfold layS
        rw [HH.out, HB.out, HSN.out]
      rw [hl]
      exact HO9.out
set_option maxHeartbeats 1000000 in
theorem rpack_range (gen seq : Int) (v : Value) (h : gen < 1 ∨ 1073741824 < gen ∨ seq < 0 ∨ 1073741824 < seq) (w : World) :
    Calls Tryz.prog 51 #[.int .i64 gen, .int .i64 seq, v] w fun e w' => e = .returned (.tuple #[.slice none 0 0, .int .i64 2]) ∧ w = w' := by
  go_enter Tryz.func51, Tryz.ntmps51
  by_cases h1 : gen < 1
  · clear h
    go_wp2
    go_ret2
    exact ⟨rfl, rfl⟩
  · by_cases h2 : 1073741824 < gen
    · clear h
      go_wp2
      go_ret2
      exact ⟨rfl, rfl⟩
    · by_cases h3 : seq < 0
      · clear h
        go_wp2
        go_ret2
        exact ⟨rfl, rfl⟩
      · have h4 : 1073741824 < seq := by omega
        clear h
        go_wp2
        go_ret2
        exact ⟨rfl, rfl⟩
set_option maxHeartbeats 1000000 in
theorem rpack_long (gen seq : Int) (A : Option Addr) (n c : Nat) (h1 : 1 ≤ gen) (h2 : gen ≤ 1073741824) (h3 : 0 ≤ seq) (h4 : seq ≤ 1073741824) (h5 : 188 < n) (w : World) :
    Calls Tryz.prog 51 #[.int .i64 gen, .int .i64 seq, .slice A n c] w fun e w' => e = .returned (.tuple #[.slice none 0 0, .int .i64 41]) ∧ w = w' := by
  have h6 : (188 : Int) < (n : Int) := by omega
  have d1 : decide (gen < 1) = false := decide_eq_false (by omega)
  have d2 : decide (1073741824 < gen) = false := decide_eq_false (by omega)
  have d3 : decide (seq < 0) = false := decide_eq_false (by omega)
  have d4 : decide (1073741824 < seq) = false := decide_eq_false (by omega)
  go_enter Tryz.func51, Tryz.ntmps51
  go_wp2
  go_ret2
  exact ⟨rfl, rfl⟩


theorem piece_len (l : List UInt8) (i : Nat) : (pieceS l i).length = min 47 (l.length - 47 * i) := by simp [pieceS]
theorem piece_arg {w : World} {g o c : Nat} {l : List UInt8} (hv : ArgB w (.slice (some ⟨g, o, none⟩) l.length c) l) (i : Nat) (hi : 47 * i < l.length) : ArgB w (.slice (some ⟨g, o + 47 * i, none⟩) (pieceS l i).length (c - 47 * i)) (pieceS l i) := by
  have ha := (hv.drop (47 * i) (by omega)).take (min 47 (l.length - 47 * i)) (by simp; omega)
  have hq : (l.drop (47 * i)).take (min 47 (l.length - 47 * i)) = pieceS l i := by
    unfold pieceS
    apply List.ext_getElem?
    intro j
    rw [List.getElem?_take, List.getElem?_take, List.getElem?_drop]
    by_cases h1 : j < min 47 (l.length - 47 * i)
    · rw [if_pos h1, if_pos (by omega)]
    · rw [if_neg h1]
      by_cases h2 : j < 47
      · rw [if_pos h2, List.getElem?_eq_none (by omega)]
      · rw [if_neg h2]
  rw [hq, ← piece_len] at ha
  exact ha

set_option maxRecDepth 100000 in
set_option maxHeartbeats 2000000 in
theorem rpack_yes (gen seq : Nat) (A : Option Addr) (c : Nat) (l : List UInt8) (w : World) (hv : ArgB w (.slice A l.length c) l) (h1 : 1 ≤ gen) (h2 : gen ≤ 1073741824) (h4 : seq ≤ 1073741824) (hl : l.length ≤ 188) :
    Calls Tryz.prog 51 #[.int .i64 (gen : Int), .int .i64 (seq : Int), .slice A l.length c] w fun e w' => PackR w w' gen seq l e := by
  have h6 : ¬ (188 : Int) < (l.length : Int) := by omega
  have d1 : decide ((gen : Int) < 1) = false := decide_eq_false (by omega)
  have d2 : decide (1073741824 < (gen : Int)) = false := decide_eq_false (by omega)
  have d3 : decide ((seq : Int) < 0) = false := decide_eq_false (by omega)
  have d4 : decide (1073741824 < (seq : Int)) = false := decide_eq_false (by omega)
  have g0 : 0 ≤ (gen : Int) ∧ (gen : Int) < 4294967296 := by omega
  have s0 : 0 ≤ (seq : Int) ∧ (seq : Int) < 4294967296 := by omega
  have hN4 : chunkN l ≤ 4 := by unfold chunkN; omega
  have hN1 : 1 ≤ chunkN l := by unfold chunkN; omega
  have hNp := partsS_length gen seq l
  have HV := Lib.hid hv; clear hv
  go_enter Tryz.func51, Tryz.ntmps51
  go_upto_if 35 with (fail)
  go_cut [8] (fun s wx => s = .int .i64 (chunkN l : Int) ∧ w = wx)
  case first =>
    by_cases hl0 : 0 < l.length
    · have e0 : (((l.length : Int) + 47 - 1) / 47 == 0) = false := by rw [beq_eq_false_iff_ne]; omega
      have hC := Lib.hid (show ((l.length : Int) + 47 - 1) / 47 = (chunkN l : Int) by unfold chunkN; omega)
      go_wp2
      go_meet
      exact ⟨by rw [hC.out], by first | trivial | rfl⟩
    · have e0 : (((l.length : Int) + 47 - 1) / 47 == 0) = true := by rw [beq_iff_eq]; omega
      have hC := Lib.hid (show (1 : Int) = (chunkN l : Int) by unfold chunkN; omega)
      go_wp2
      go_meet
      exact ⟨by rw [← hC.out], by first | trivial | rfl⟩
  case rest =>
    obtain ⟨rfl, rfl⟩ := hcut
    generalize hN : chunkN l = N at *
    have HN := Lib.hid hN; have HNP := Lib.hid hNp; clear hN hNp
    go_wp2
    go_loopw [9, 10] (fun v i wr => ∃ k : Nat, k ≤ N ∧ i = .int .i64 k ∧ Rows wr w.heap.size v ((partsS gen seq l).take k) ∧ Kp No w wr) (fun _ i _ => N - (intOf i).toNat)
    case atStart => exact ⟨0, Nat.zero_le _, rfl, Rows.nil _ _, Kp.refl _ _⟩
    case round =>
      obtain ⟨k, hk, rfl, hrows, hkp⟩ := hrel
      have HR := Lib.hid hrows; have HKP := Lib.hid hkp; clear hrows hkp
      by_cases hlt : k < N
      · have hk0 : (0 : Int) ≤ (k : Int) := by omega
        have hk1 : (k : Int) < (N : Int) := by omega
        have hk3 : (k : Int) ≤ 3 := by omega
        have hlen : ((partsS gen seq l).take k).length = k := by rw [List.length_take, HNP.out]; omega
        have hnext : (partsS gen seq l).take (k + 1) = (partsS gen seq l).take k ++ [layS ⟨gen, seq, k, N, pieceS l k⟩] := by
          rw [List.take_succ_eq_append_getElem (by rw [HNP.out]; exact hlt)]
          congr 2
          simp only [partsS, List.getElem_map, List.getElem_range]
          rw [HN.out]
        have HNX := Lib.hid hnext; have HLEN := Lib.hid hlen; clear hnext hlen
        have hpl := piece_len l k
        have HPL := Lib.hid hpl
        by_cases hl0 : 0 < l.length
        · have hkl : 47 * k < l.length := by have := HN.out; unfold chunkN at this; omega
          obtain ⟨g, o, c', e1, hc, _⟩ := HV.out.at_ hl0
          injection e1 with e1 e2 e3
          subst e1 e3
          clear e2
          have ap := piece_arg HV.out k hkl
          have hq47 : (pieceS l k).length ≤ 47 := by omega
          have hmq : 47 * k + (pieceS l k).length = min ((k + 1) * 47) l.length := by rw [hpl]; omega
          have rl := fun W kW => rlay_any ⟨gen, seq, k, N, pieceS l k⟩ (some ⟨g, o + 47 * k, none⟩) (c - 47 * k) W (ap.no kW) (by simp only; omega) (by simp only; omega) (by simp only; omega) (by simp only; omega) (by simp only; omega)
          simp only at rl
          clear hpl ap
          obtain ⟨q, hq⟩ : ∃ q, (pieceS l k).length = q := ⟨_, rfl⟩
          rw [hq] at rl hmq hq47
          have HQ := Lib.hid hq; clear hq
          have hmn : ∀ W, (Builtin.min_ #[3, 3] 3 #[.int .i64 (((k : Int) + 1) * 47), .int .i64 (l.length : Int)]).run Tryz.prog W = .ok (.int .i64 ((47 * k + q : Nat) : Int)) W := by
            intro W
            have : ((47 * k + q : Nat) : Int) = if (l.length : Int) < ((k : Int) + 1) * 47 then (l.length : Int) else ((k : Int) + 1) * 47 := by rw [hmq]; split <;> omega
            rw [this]; rfl
          have hql : 47 * k + q ≤ c := by omega
          have HMQ := Lib.hid hmq; clear hmq
          have hlo : ((k : Int) * 47).toNat = 47 * k := by omega
          have hcc : ¬ c = 47 * k := by omega
          have hb1 : (k : Int) * 47 ≤ ((47 * k + q : Nat) : Int) := by omega
          have hb2 : 47 * k ≤ 47 * k + q := by omega
          go_wp2_with fail
          refine (rl _ HKP.out).mono ?_
          rintro e w1 ⟨v1, rfl, o1, k1⟩
          have HR1 := Lib.hid (HR.out.no k1); have HK1 := Lib.hid (HKP.out.trans k1)
          obtain ⟨a1, c1, e1, _⟩ := own_len o1
          subst e1
          have HO1 := Lib.hid (o1.mono HKP.out.size)
          clear k1 o1 rl hmn
          go_wp2_with (at_builtin; refine wpList_appR _ rfl (.tmp 47) (.tmp 59) rfl w.heap.size _ ((partsS gen seq l).take k) rfl (HR1.out.no ((Kp.refl No _).alloc _)) _ _ _ rfl (layS ⟨gen, seq, k, N, pieceS l k⟩) rfl (cs_new rfl rfl) (HO1.out.alloc _) (by rw [HLEN.out]; omega) (by have := HK1.out.size; simp; omega) ?_)
          intro a2 n2 c2 w2 r2 f2
          have HR2 := Lib.hid r2; have HK2 := Lib.hid (f2 w (Nat.le_refl _) (HK1.out.alloc _)); clear r2 f2
          go_wp2
          go_roundw
          case rel => exact ⟨k + 1, by omega, by go_num, by rw [HNX.out]; exact HR2.out, HK2.out⟩
          case measure => simp [intOf]; omega
        · have hl1 : l = [] := List.eq_nil_of_length_eq_zero (by omega)
          subst hl1
          have hN1' : N = 1 := by have := HN.out; simpa [chunkN] using this.symm
          subst hN1'
          obtain rfl : k = 0 := by omega
          have rl : ∀ (A' : Option Addr) (c' : Nat) (W : World), Calls Tryz.prog 85 #[.agg #[.int .i64 (gen : Int), .int .i64 (seq : Int), .int .i64 0, .int .i64 1, .slice A' 0 c']] W fun e w' => ∃ v, e = .returned v ∧ OwnB w' W.heap.size v (layS ⟨gen, seq, 0, 1, []⟩) ∧ Kp No W w' :=
            fun A' c' W => rlay_any ⟨gen, seq, 0, 1, []⟩ A' c' W (ArgB.nil _ _ _) (by simp only; omega) (by simp only; omega) (by simp only; omega) (by simp only; omega) (by simp)
          have hp0 : pieceS [] 0 = [] := rfl
          rw [hp0] at HNX
          clear hpl HPL HLEN hp0
          cases A with
          | none =>
            go_wp2_with fail
            refine (rl _ _ _).mono ?_
            rintro e w1 ⟨v1, rfl, o1, k1⟩
            have HR1 := Lib.hid (HR.out.no k1); have HK1 := Lib.hid (HKP.out.trans k1)
            obtain ⟨a1, c1, e1, _⟩ := own_len o1
            subst e1
            have HO1 := Lib.hid (o1.mono HKP.out.size)
            clear k1 o1 rl
            go_wp2_with (at_builtin; refine wpList_appR _ rfl (.tmp 47) (.tmp 59) rfl w.heap.size _ ((partsS gen seq []).take 0) rfl (HR1.out.no ((Kp.refl No _).alloc _)) _ _ _ rfl (layS ⟨gen, seq, 0, 1, []⟩) rfl (cs_new rfl rfl) (HO1.out.alloc _) (by simp) (by have := HK1.out.size; simp; omega) ?_)
            intro a2 n2 c2 w2 r2 f2
            have HR2 := Lib.hid r2; have HK2 := Lib.hid (f2 w (Nat.le_refl _) (HK1.out.alloc _)); clear r2 f2
            go_wp2
            go_roundw
            case rel => ((repeat apply Exists.intro); exact ⟨⟨1, by omega, rfl, by have := HNX.out; rw [Nat.zero_add] at this; rw [this]; exact HR2.out, HK2.out⟩, rfl⟩)
            case measure => simp [intOf]
          | some ad =>
            by_cases hc0 : c = 0
            · subst hc0
              go_wp2_with fail
              refine (rl _ _ _).mono ?_
              rintro e w1 ⟨v1, rfl, o1, k1⟩
              have HR1 := Lib.hid (HR.out.no k1); have HK1 := Lib.hid (HKP.out.trans k1)
              obtain ⟨a1, c1, e1, _⟩ := own_len o1
              subst e1
              have HO1 := Lib.hid (o1.mono HKP.out.size)
              clear k1 o1 rl
              go_wp2_with (at_builtin; refine wpList_appR _ rfl (.tmp 47) (.tmp 59) rfl w.heap.size _ ((partsS gen seq []).take 0) rfl (HR1.out.no ((Kp.refl No _).alloc _)) _ _ _ rfl (layS ⟨gen, seq, 0, 1, []⟩) rfl (cs_new rfl rfl) (HO1.out.alloc _) (by simp) (by have := HK1.out.size; simp; omega) ?_)
              intro a2 n2 c2 w2 r2 f2
              have HR2 := Lib.hid r2; have HK2 := Lib.hid (f2 w (Nat.le_refl _) (HK1.out.alloc _)); clear r2 f2
              go_wp2
              go_roundw
              case rel => ((repeat apply Exists.intro); exact ⟨⟨1, by omega, rfl, by have := HNX.out; rw [Nat.zero_add] at this; rw [this]; exact HR2.out, HK2.out⟩, rfl⟩)
              case measure => simp [intOf]
            · skip
              go_wp2_with fail
              refine (rl _ _ _).mono ?_
              rintro e w1 ⟨v1, rfl, o1, k1⟩
              have HR1 := Lib.hid (HR.out.no k1); have HK1 := Lib.hid (HKP.out.trans k1)
              obtain ⟨a1, c1, e1, _⟩ := own_len o1
              subst e1
              have HO1 := Lib.hid (o1.mono HKP.out.size)
              clear k1 o1 rl
              go_wp2_with (at_builtin; refine wpList_appR _ rfl (.tmp 47) (.tmp 59) rfl w.heap.size _ ((partsS gen seq []).take 0) rfl (HR1.out.no ((Kp.refl No _).alloc _)) _ _ _ rfl (layS ⟨gen, seq, 0, 1, []⟩) rfl (cs_new rfl rfl) (HO1.out.alloc _) (by simp) (by have := HK1.out.size; simp; omega) ?_)
              intro a2 n2 c2 w2 r2 f2
              have HR2 := Lib.hid r2; have HK2 := Lib.hid (f2 w (Nat.le_refl _) (HK1.out.alloc _)); clear r2 f2
              go_wp2
              go_roundw
              case rel => ((repeat apply Exists.intro); exact ⟨⟨1, by omega, rfl, by have := HNX.out; rw [Nat.zero_add] at this; rw [this]; exact HR2.out, HK2.out⟩, rfl⟩)
              case measure => simp [intOf]
      · obtain rfl : k = N := by omega
        go_wp2
        go_ret2
        refine ⟨_, rfl, ?_, HKP.out⟩
        have := HR.out
        rw [List.take_of_length_le (by rw [HNP.out]; exact Nat.le_refl _)] at this
        exact this
end Go.Proofs.YtlgbmkdeamgpkaaGreatDoor

/- The document's Pack by contract. No condition beyond what each theorem states. -/
namespace Go.Proofs.YtlgbmkdeamgpkaaGreatDoor
open Go Go.RowKit

theorem rpack_any (gen seq : Int) (A : Option Addr) (n c : Nat) (l : List UInt8) (w : World) (hv : ArgB w (.slice A n c) l) :
    Calls Tryz.prog 51 #[.int .i64 gen, .int .i64 seq, .slice A n c] w fun e w' => PackA w w' gen seq l e := by
  obtain ⟨_, hn, _⟩ := hv.cs
  subst hn
  by_cases h1 : gen < 1 ∨ 1073741824 < gen ∨ seq < 0 ∨ 1073741824 < seq
  · refine (rpack_range gen seq _ h1 w).mono ?_
    rintro e w' ⟨rfl, rfl⟩
    have hp : packS gen seq l = ([], 2) := if_pos h1
    exact ⟨_, by rw [hp], by rw [hp]; exact Rows.nil _ _, Kp.refl _ _⟩
  · by_cases h2 : 188 < l.length
    · refine (rpack_long gen seq A l.length c (by omega) (by omega) (by omega) (by omega) h2 w).mono ?_
      rintro e w' ⟨rfl, rfl⟩
      have hp : packS gen seq l = ([], 41) := by unfold packS; rw [if_neg h1, if_pos h2]
      exact ⟨_, by rw [hp], by rw [hp]; exact Rows.nil _ _, Kp.refl _ _⟩
    · obtain ⟨g, rfl⟩ := Int.eq_ofNat_of_zero_le (show 0 ≤ gen by omega)
      obtain ⟨s, rfl⟩ := Int.eq_ofNat_of_zero_le (show 0 ≤ seq by omega)
      refine (rpack_yes g s A c l w hv (by omega) (by omega) (by omega) (by omega)).mono ?_
      rintro e w' ⟨v, rfl, hr, hk⟩
      have hp : packS (g : Int) (s : Int) l = (partsS g s l, 0) := by unfold packS; rw [if_neg h1, if_neg h2]; rfl
      exact ⟨v, by rw [hp], by rw [hp]; exact hr, hk⟩

theorem ArgB.str {P : Program} {w : World} {x : Value} {l : List UInt8} (h : ArgB w x l) (src e dst : TypeId) (hs : P.underlying src = some (.slice e)) (he : P.underlying e = some (.int .u8)) (hd : P.underlying dst = some .string) :
    (convert src dst x).run P w = .ok (.string ⟨l.toArray⟩) w := by
  obtain ⟨A, c, rfl, _, hr⟩ := h
  by_cases hl : l = []
  · subst hl
    rcases A with _ | a
    · exact run_convert_bytes_nil w src e hs he 0 c dst hd
    · have := run_bytesToString (P := P) w a 0 c [] (by rfl)
      simp [convert, run_underlying hs, run_underlying hd, run_underlying he, this]
      rfl
  · obtain ⟨g, o, rfl, hra⟩ := hr (by simpa [u8s] using hl)
    have := run_convert_bytes_arg (P := P) w src e hs he g o l.length c (l.map fun c => (c.toNat : Int)) (by simp) (by
      intro i hi
      rw [hra i _ (by simp only [u8s, List.getElem?_map, List.getElem?_eq_getElem hi]; rfl)]
      simp [List.getD_eq_getElem?_getD, List.getElem?_eq_getElem hi]) dst hd
    rw [this]
    congr 2
    have e2 : (strOfNums (l.map fun c => (c.toNat : Int))).data.toList = l := by
      rw [strOfNums_data, List.map_map]
      conv => rhs; rw [← List.map_id l]
      exact List.map_congr_left fun c _ => by simp
    have e3 : (strOfNums (l.map fun c => (c.toNat : Int))).data = l.toArray := by conv => rhs; rw [← e2]
    calc strOfNums (l.map fun c => (c.toNat : Int)) = ⟨(strOfNums (l.map fun c => (c.toNat : Int))).data⟩ := rfl
      _ = ⟨l.toArray⟩ := by rw [e3]



end Go.Proofs.YtlgbmkdeamgpkaaGreatDoor
