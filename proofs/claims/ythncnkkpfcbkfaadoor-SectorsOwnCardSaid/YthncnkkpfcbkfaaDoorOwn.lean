/- SectorsOwn returns true for any number and bytes: what is handed in stays, and what is answered shares no memory. No condition. -/
import Derived.Test.YthncnkkpfcbkfaaDoorSj
import Derived.Test.YthncnkkpfcbkfaaDoorCards
import Derived.Test.YthncnkkpfcbkfaaDoorOw
namespace Go.Proofs.YthncnkkpfcbkfaaDoor.sectorsOwn
open Go.ChangeShapes Go.WideShapes Go.ChangeAt Go.RowKit Go.PlainAid
open Go.ChangeMaps (open_string shut_string)

theorem own : ownKnob Tryd.prog.godebug = none := by kernel_rfl
theorem laidOut : laidOutB Tryd.prog = true := by kernel_rfl
theorem pack_as (gen seq : Int) (A : Option Addr) (n c : Nat) (l : List UInt8) (P : List (List UInt8)) (pe : Int) (hp : packS gen seq l = (P, pe)) (w : World) (hv : ArgB w (.slice A n c) l) (hm : c ≤ maxLen) :
    Calls Tryd.prog 11 #[.int .i64 gen, .int .i64 seq, .slice A n c] w fun e w' => ∃ v, e = .returned (.tuple #[v, .int .i64 pe]) ∧ Rows w' w.heap.size v P ∧ Kp No w w' := by
  refine (pack_any gen seq A n c l w hv hm).mono ?_
  rintro e w' ⟨v, h1, h2, h3⟩
  rw [hp] at h1 h2
  exact ⟨v, h1, h2, h3⟩
theorem rpack_as (gen seq : Int) (A : Option Addr) (n c : Nat) (l : List UInt8) (P : List (List UInt8)) (pe : Int) (hp : packS gen seq l = (P, pe)) (w : World) (hv : ArgB w (.slice A n c) l) :
    Calls Tryd.prog 13 #[.int .i64 gen, .int .i64 seq, .slice A n c] w fun e w' => ∃ v, e = .returned (.tuple #[v, .int .i64 pe]) ∧ Rows w' w.heap.size v P ∧ Kp No w w' := by
  refine (rpack_any gen seq A n c l w hv).mono ?_
  rintro e w' ⟨v, h1, h2, h3⟩
  rw [hp] at h1 h2
  exact ⟨v, h1, h2, h3⟩
theorem pack_len (gen seq : Int) (l : List UInt8) : (packS gen seq l).1.length ≤ 4 := by
  unfold packS
  split
  · simp
  · split
    · simp
    · simp only [partsS_length, chunkN]; omega
theorem scanF_len {L : List (List UInt8)} {gen : Int} : ∀ (f used : Nat) (recs : List (List UInt8)), recs.length ≤ used → used ≤ L.length → (scanF L gen f used recs).1.length ≤ L.length
  | 0, used, recs, h1, h2 => by show recs.length ≤ _; omega
  | f + 1, used, recs, h1, h2 => by
    unfold scanF
    cases ho : oneS L gen used recs.length with
    | none => show recs.length ≤ _; omega
    | some dn =>
      obtain ⟨d, n⟩ := dn
      have := oneS_some ho
      exact scanF_len f (used + n) (recs ++ [d]) (by simp; omega) (by omega)
theorem scanS_len (L : List (List UInt8)) (gen : Int) : (scanS L gen).1.length ≤ L.length := scanF_len _ _ _ (Nat.le_refl _) (Nat.zero_le _)
theorem scan_as (lv : Value) (gen : Int) (L P : List (List UInt8)) (us : Nat) (hp : scanS L gen = (P, us)) (w : World) (hl : CapR w lv L) (hL : (L.length + 1) * 24 ≤ 140737488355328) :
    Calls Tryd.prog 18 #[lv, .int .i64 gen] w fun e w' => ∃ v, e = .returned (.tuple #[v, .int .i64 (us : Int)]) ∧ Rows w' w.heap.size v P ∧ Kp No w w' := by
  refine (scan_any lv gen L w hl hL).mono ?_
  rintro e w' ⟨v, h1, h2, h3⟩
  rw [hp] at h1 h2
  exact ⟨v, h1, h2, h3⟩
theorem rscan_as (lv : Value) (gen : Int) (L P : List (List UInt8)) (us : Nat) (hp : scanS L gen = (P, us)) (w : World) (hl : ArgR w lv L) (hL : (L.length + 1) * 24 ≤ 140737488355328) :
    Calls Tryd.prog 20 #[lv, .int .i64 gen] w fun e w' => ∃ v, e = .returned (.tuple #[v, .int .i64 (us : Int)]) ∧ Rows w' w.heap.size v P ∧ Kp No w w' := by
  refine (rscan_any lv gen L w hl hL).mono ?_
  rintro e w' ⟨v, h1, h2, h3⟩
  rw [hp] at h1 h2
  exact ⟨v, h1, h2, h3⟩
/-- Look at a sector that was packed -/
theorem look_lay (gen : Int) (k j N : Nat) (x : List UInt8) (hg : 0 ≤ gen) (ok : okPt ⟨gen.toNat, k, j, N, x⟩) (A : Option Addr) (n c : Nat) (W : World) (hv : ArgB W (.slice A n c) (layS ⟨gen.toNat, k, j, N, x⟩)) (hm : c ≤ maxLen) :
    Calls Tryd.prog 15 #[.slice A n c] W fun e w' => ∃ Ad cd, e = .returned (.tuple #[.agg #[.int .i64 gen, .int .i64 (k : Int), .int .i64 (j : Int), .int .i64 (N : Int), .slice Ad x.length cd], .int .i64 0]) ∧ Kp No W w' ∧ OwnB w' W.heap.size (.slice Ad x.length cd) x := by
  refine (look_any A n c _ W hv hm).mono ?_
  rintro e w' ⟨hk, hr⟩
  rw [lookS_layS _ ok] at hr
  obtain ⟨dv, rfl, hd⟩ := hr
  obtain ⟨Ad, cd, hdv, _⟩ := own_len hd
  subst hdv
  refine ⟨Ad, cd, ?_, hk, hd⟩
  have e : ((gen.toNat : Nat) : Int) = gen := by omega
  show Ending.returned (.tuple #[.agg #[.int .i64 ((gen.toNat : Nat) : Int), .int .i64 (k : Int), .int .i64 (j : Int), .int .i64 (N : Int), .slice Ad x.length cd], .int .i64 0]) = _
  rw [e]
theorem rlook_lay (gen : Int) (k j N : Nat) (x : List UInt8) (hg : 0 ≤ gen) (ok : okPt ⟨gen.toNat, k, j, N, x⟩) (A : Option Addr) (n c : Nat) (W : World) (hv : ArgB W (.slice A n c) (layS ⟨gen.toNat, k, j, N, x⟩)) :
    Calls Tryd.prog 16 #[.slice A n c] W fun e w' => ∃ Ad cd, e = .returned (.tuple #[.agg #[.int .i64 gen, .int .i64 (k : Int), .int .i64 (j : Int), .int .i64 (N : Int), .slice Ad x.length cd], .int .i64 0]) ∧ Kp No W w' ∧ OwnB w' W.heap.size (.slice Ad x.length cd) x := by
  refine (rlook_any A n c _ W hv).mono ?_
  rintro e w' ⟨hk, hr⟩
  rw [lookS_layS _ ok] at hr
  obtain ⟨dv, rfl, hd⟩ := hr
  obtain ⟨Ad, cd, hdv, _⟩ := own_len hd
  subst hdv
  refine ⟨Ad, cd, ?_, hk, hd⟩
  have e : ((gen.toNat : Nat) : Int) = gen := by omega
  show Ending.returned (.tuple #[.agg #[.int .i64 ((gen.toNat : Nat) : Int), .int .i64 (k : Int), .int .i64 (j : Int), .int .i64 (N : Int), .slice Ad x.length cd], .int .i64 0]) = _
  rw [e]
set_option maxRecDepth 100000 in
set_option maxHeartbeats 16000000 in
theorem walk (n0 : Int) (A : Option Addr) (n c : Nat) (l : List UInt8) (w : World) (_x0 : -9223372036854775808 ≤ n0 ∧ n0 ≤ 9223372036854775807) (hb : ArgB w (.slice A n c) l) (hc : c ≤ 140737488351232) :
    Calls Tryd.prog 10 #[.int .i64 n0, .slice A n c] w fun e w' => e = .returned (.bool true) ∧ Below w.heap.size w w' := by
  obtain ⟨_, hn, hnc⟩ := hb.cs
  subst hn
  have HB := Lib.hid hb; clear hb _x0
  obtain ⟨P, pe, hp⟩ : ∃ P pe, packS 3 n0 l = (P, pe) := ⟨_, _, rfl⟩
  have hlen : P.length ≤ 4 := by have := pack_len 3 n0 l; rw [hp] at this; exact this
  have HP := Lib.hid hp; clear hp
  go_enter Tryd.func10, Tryd.ntmps10
  go_wp2_with fail
  refine (awake_any _).mono ?_
  rintro e w1 ⟨rfl, k1⟩
  have K1 := Lib.hid k1; clear k1
  go_wp2_with (at_builtin; refine wpList_appB _ rfl (.tmp 35) (.tmp 36) rfl w1.heap.size _ [] rfl (by exact own_fresh w1 _ _ (Nat.le_refl _)) _ _ _ l rfl rfl ((HB.out.no (K1.out.alloc _)).cs.1) (by simp; omega) (by simp) ?_)
  intro a2 n2 c2 w2 o2 f2 _
  have K2 := Lib.hid (K1.out.trans (f2 w1 (Nat.le_refl _) ((Kp.refl No w1).alloc _)))
  have K12 := Lib.hid (f2 w1 (Nat.le_refl _) ((Kp.refl No w1).alloc _))
  have HO2 := Lib.hid o2; clear o2 f2
  have hw12 := K12.out.size
  go_wp2_with (at_builtin; refine wpList_appB _ rfl (.tmp 37) (.tmp 38) rfl w1.heap.size _ ([] ++ l) rfl (HO2.out.alloc _) _ _ _ [91, 92] rfl rfl (cs_new (xs := u8s [91, 92]) rfl rfl) (by simp; omega) (by simp; omega) ?_)
  intro a3 n3 c3 w3 o3 f3 _
  have K13 := Lib.hid (f3 w1 (Nat.le_refl _) (K12.out.alloc _))
  have K3 := Lib.hid (K1.out.trans K13.out)
  obtain ⟨_, hn3, _⟩ := (own_argB o3).cs
  obtain ⟨A3, c3', e3, hcc3, hm3⟩ := own_cap o3
  injection e3 with e1 e1n e2
  clear e1n
  subst e1 e2

  have hn3' : n3 = l.length + 2 := by rw [hn3]; simp
  subst hn3'
  have hof := own_form o3 (by simp)
  obtain ⟨gf, cf, ef, _, hgf1, hgf2⟩ := hof
  injection ef with ef efn ef2
  clear efn
  subst ef ef2
  have HO3 := Lib.hid (show OwnB w3 w1.heap.size (.slice (some ⟨gf, 0, none⟩) (l.length + 2) c3) (l ++ [91, 92]) from o3)
  have hci : (l.length : Int) ≤ (c3 : Int) := by have : (l ++ [91, 92]).length ≤ c3 := hcc3; simp at this; omega
  have hci0 : (0 : Int) ≤ (l.length : Int) := by omega
  have hc30 : ¬ c3 = 0 := by have : (l ++ [91, 92]).length ≤ c3 := hcc3; simp at this; omega
  have hmx : (c3 : Int) ≤ 9223372036854775807 := by unfold maxLen at hm3; omega
  clear o3 f3 hn3 hcc3 K12 K2
  have HAF := Lib.hid (show ArgB w3 (.slice (some ⟨gf, 0, none⟩) l.length c3) l by
    have := (own_argB HO3.out).take l.length (by simp)
    rwa [List.take_left' rfl] at this)
  have hsl := slice_to gf (l.length + 2) l.length c3 (by omega) (by omega)
  go_wp2_with fail
  refine (pack_as 3 n0 (some ⟨gf, 0, none⟩) l.length c3 l P pe HP.out w3 HAF.out hm3).mono ?_
  rintro e w4 ⟨v6, rfl, r6, k4⟩
  have K34 := Lib.hid k4; have R6 := Lib.hid r6; clear k4 r6
  have hw34 := K34.out.size
  go_wp2_with fail
  refine (pack_as 3 n0 (some ⟨gf, 0, none⟩) l.length c3 l P pe HP.out w4 (HAF.out.no K34.out) hm3).mono ?_
  rintro e w5 ⟨v8, rfl, r8, k5⟩
  have K45 := Lib.hid k5; have R8 := Lib.hid r8; clear k5 r8
  have hw45 := K45.out.size
  have sx : (convert 26 9 (.slice (some ⟨gf, 0, none⟩) (l.length + 2) c3)).run Tryd.prog w5 = .ok (.string ⟨(l ++ [91, 92]).toArray⟩) w5 := by
    have := ((own_argB HO3.out).no (K34.out.trans K45.out)).str 26 5 9 Tryd.underlying26 Tryd.underlying5 Tryd.underlying9
    exact this
  have sy : (convert 26 9 (.slice A l.length c)).run Tryd.prog w5 = .ok (.string ⟨l.toArray⟩) w5 := (HB.out.no (K3.out.trans (K34.out.trans K45.out))).str 26 5 9 Tryd.underlying26 Tryd.underlying5 Tryd.underlying9
  obtain ⟨s1, hs1⟩ : ∃ s1 : ByteArray, s1 = ⟨(l ++ [91, 92]).toArray⟩ := ⟨_, rfl⟩
  obtain ⟨s2, hs2⟩ : ∃ s2 : ByteArray, s2 = ⟨l.toArray⟩ := ⟨_, rfl⟩
  rw [← hs1] at sx
  rw [← hs2] at sy
  have hz2 : s2.size = l.length := by rw [hs2]; simp [ByteArray.size]
  have hbig : ¬ 9223372036854775807 < s2.size + 2 := by omega
  have hs12 : s1 = s2 ++ ⟨#[91, 92]⟩ := by rw [hs1, hs2]; apply ByteArray.ext; rw [ByteArray.data_append]; simp
  have hq1 : (s1.toList == (s2 ++ ⟨#[91, 92]⟩).toList) = true := by rw [hs12]; exact beq_self_eq_true _
  have HZ2 := Lib.hid hz2; have H12 := Lib.hid hs12
  clear hs1 hs2 hz2 hs12
  go_wp2_with fail
  --A
  clear sx sy hsl HAF
  have hdf : ∀ W : World, Kp No w5 W → True := fun _ _ => trivial
  clear hdf
  have HOF := Lib.hid (HO3.out.no (K34.out.trans K45.out))
  have hgfx : gf < w3.heap.size := hgf2
  have HK5 := Lib.hid (K3.out.trans (K34.out.trans K45.out))
  have hbase : w.heap.size ≤ w1.heap.size := K1.out.size
  go_loopw [66] (fun i wr => ∃ (k : Nat) (l' : List UInt8), k ≤ l.length + 2 ∧ i = .int .i64 k ∧ l'.length = l.length + 2 ∧ OwnB wr w1.heap.size (.slice (some ⟨gf, 0, none⟩) (l.length + 2) c3) l' ∧ Kp (One gf) w5 wr) (fun i _ => l.length + 2 - (intOf i).toNat)
  case atStart => exact ⟨0, l ++ [91, 92], Nat.zero_le _, rfl, by simp, HOF.out, Kp.refl _ _⟩
  case round =>
    obtain ⟨k, l', hk, rfl, hl', hof, hkf⟩ := hrel
    have hk0 : (0 : Int) ≤ (k : Int) := by omega
    by_cases hlt : k < l.length + 2
    · have hkI : (k : Int) < ((l.length + 2 : Nat) : Int) := by omega
      obtain ⟨ds, hbd, _, _, hlen'⟩ := hof.bk
      have hcell : wr.cell? ⟨gf, k, none⟩ = some (ds[k]'(by omega)) := by rw [hbd.cell, List.getElem?_eq_getElem]
      have hfrz := hbd.frozen k
      have HOF2 := Lib.hid (hof.set (j := k) 120); have HKF := Lib.hid (hkf.set (.inl (One.self gf)) k (.int .u8 120)); have HL' := Lib.hid hl'
      generalize ds[k]'(by omega) = dk at hcell
      clear hof hkf hbd hl' hlen'
      go_wp2
      go_roundw
      case rel => exact ⟨k + 1, l'.set k 120, by omega, by go_num, by rw [List.length_set]; exact HL'.out, HOF2.out, HKF.out⟩
      case measure => simp [intOf]; omega
    · obtain rfl : k = l.length + 2 := by omega
      have HKF := Lib.hid hkf; have hw56 := hkf.size
      clear hof hkf
      have HK6 := Lib.hid (show Kp No w wr from HK5.out.then_ HKF.out (fun i hi e => by have : i = gf := e; omega))
      have R6' := Lib.hid (show Rows wr w3.heap.size v6 P from R6.out.zone K45.out HKF.out (fun g hg _ e => by have : g = gf := e; omega))
      have R8' := Lib.hid (show Rows wr w4.heap.size v8 P from R8.out.zone (Kp.refl No w5) HKF.out (fun g hg _ e => by have : g = gf := e; omega))
      have hge : ¬ ((l.length + 2 : Nat) : Int) < ((l.length + 2 : Nat) : Int) := by omega
      have hw4s : w4.heap.size ≤ wr.heap.size := by omega
      obtain ⟨w6, hw6⟩ : ∃ w6, w6 = wr := ⟨_, rfl⟩
      rw [← hw6] at R6' R8' HK6 hw56 hw4s HKF
      clear HOF HO3
      go_wp2_with fail
      rw [← hw6]
      clear hw6
      refine (rpack_as 3 n0 A l.length c l P pe HP.out w6 (HB.out.no HK6.out)).mono ?_
      rintro e w7 ⟨v11, rfl, r11, k7⟩
      have K67 := Lib.hid k7; have R11 := Lib.hid r11; clear k7 r11
      have hw67 := K67.out.size
      go_wp2_with fail
      refine (sameAll_eq v6 v11 P P true w7 (R6'.out.no K67.out).arg R11.out.arg (by omega) (by simp)).mono ?_
      rintro e w8 ⟨rfl, k8⟩
      have K78 := Lib.hid k8; clear k8
      have hw78 := K78.out.size
      obtain ⟨A6, c6, e6, hc6, hm6, _⟩ := R6.out.cap.at_
      subst e6
      obtain ⟨A8, c8, e8, hc8, hm8, _⟩ := R8.out.cap.at_
      subst e8
      by_cases hP0 : P.length = 0
      · have HP0 := Lib.hid hP0
        rw [hP0]
        clear hP0
        go_wp2
        go_ret
        exact ⟨rfl, (HK6.out.trans (K67.out.trans K78.out)).below (Nat.le_refl _) (fun _ _ m => m)⟩
      · --B
        have hgood : 0 ≤ n0 ∧ n0 ≤ 1073741824 ∧ l.length ≤ 188 ∧ P = partsS 3 n0.toNat l := by
          have h := HP.out
          unfold packS at h
          by_cases c1 : (3 : Int) < 1 ∨ 1073741824 < (3 : Int) ∨ n0 < 0 ∨ 1073741824 < n0
          · rw [if_pos c1] at h; injection h with h _; rw [← h] at hP0; exact absurd rfl hP0
          · rw [if_neg c1] at h
            by_cases c2 : 188 < l.length
            · rw [if_pos c2] at h; injection h with h _; rw [← h] at hP0; exact absurd rfl hP0
            · rw [if_neg c2] at h; injection h with h1 _; exact ⟨by omega, by omega, by omega, h1.symm⟩
        obtain ⟨hn0, hn1, hl8, hPs0⟩ := hgood
        obtain ⟨s, rfl⟩ := Int.eq_ofNat_of_zero_le hn0
        have hPs : P = partsS 3 s l := hPs0
        clear hPs0
        have hs : s ≤ 1073741824 := by omega
        have hPN : P.length = chunkN l := by rw [hPs, partsS_length]
        have hPpos : 0 < P.length := by omega
        have h64 : ∀ i (hi : i < P.length), (P[i]).length = 64 := fun i hi => by
          subst hPs
          simp only [partsS, List.getElem_map, List.getElem_range]
          exact layS_length _ (by simp [pieceS]; omega)
        have hne : ∀ i j (hi : i < P.length) (hj : j < P.length), i ≠ j → P[i] ≠ P[j] := fun i j hi hj hij => by
          subst hPs
          exact parts_ne2 3 s (by omega) (by omega) hs l hl8 hi hj hij
        have h0 : P[0]'hPpos = layS ⟨3, s, 0, chunkN l, pieceS l 0⟩ := by
          subst hPs
          simp only [partsS, List.getElem_map, List.getElem_range]
        have hok : okPt ⟨3, s, 0, chunkN l, pieceS l 0⟩ := okPt_piece l (by omega) (by omega) hs hl8 (chunk_pos l)
        have hscan : scanS P 3 = if s = 0 then ([l], chunkN l) else ([], 0) := by rw [hPs]; exact scan_one s hs l hl8
        obtain ⟨R, us, hsc⟩ : ∃ R us, scanS P 3 = (R, us) := ⟨_, _, rfl⟩
        have hR1 : R.length ≤ 1 := by
          rw [hsc] at hscan
          by_cases h : s = 0
          · rw [if_pos h] at hscan; injection hscan with h1 _; subst h1; simp
          · rw [if_neg h] at hscan; injection hscan with h1 _; subst h1; simp
        have hR188 : ∀ d ∈ R, d.length ≤ 188 := by
          rw [hsc] at hscan
          by_cases h : s = 0
          · rw [if_pos h] at hscan; injection hscan with h1 _; subst h1; intro d hd; rw [List.mem_singleton.1 hd]; exact hl8
          · rw [if_neg h] at hscan; injection hscan with h1 _; subst h1; intro d hd; simp at hd
        have hxl : (pieceS l 0).length ≤ 47 := by simp [pieceS]; omega
        generalize chunkN l = N at *
        generalize pieceS l 0 = pd at *
        have K48 := Lib.hid (show Kp (One gf) w4 w8 from K45.out.of_no.trans (HKF.out.trans (K67.out.trans K78.out).of_no))
        obtain ⟨xs, hxo, hxr⟩ := R6.out
        have hxol : xs.length = P.length := by have := hxo.1; omega
        obtain ⟨gX, cX, eX, hcX, hgX1, hgX2⟩ := own_form hxo hPpos
        injection eX with eX eXn eX2
        clear eXn
        subst eX eX2
        have hxo8 : w8.ownsRow w3.heap.size 26 1 (.slice (some ⟨gX, 0, none⟩) P.length c6) P.length xs := own_kp hxo K48.out (fun g hg e => by obtain ⟨hb, _⟩ := own_bk hxo hg; have : g = gf := e; omega)
        have hxr8 : ∀ i (hi : i < P.length), ∃ a k, xs[i]? = some (.slice (some ⟨a, 0, none⟩) 64 k) ∧ k ≤ maxLen ∧ OwnB w8 w3.heap.size (.slice (some ⟨a, 0, none⟩) 64 k) P[i] ∧ w3.heap.size ≤ a ∧ a < w4.heap.size := fun i hi => by
          obtain ⟨x, hx, hox⟩ := hxr i hi
          obtain ⟨a, k, hxv, _, ha1, ha2⟩ := own_form hox (by rw [h64 i hi]; omega)
          subst hxv
          obtain ⟨_, _, e, _, hk⟩ := own_cap hox
          injection e with _ _ e
          subst e
          rw [h64 i hi] at hx hox
          exact ⟨a, k, hx, hk, hox.kp K48.out (fun g hg e => by obtain ⟨hb, _⟩ := own_bk hox hg; have : g = gf := e; omega), ha1, ha2⟩
        have R6w := Lib.hid (show Rows w8 w3.heap.size (.slice (some ⟨gX, 0, none⟩) P.length c6) P from ⟨xs, hxo8, fun i hi => by
          obtain ⟨a, k, q1, _, q3, _⟩ := hxr8 i hi
          exact ⟨_, q1, q3⟩⟩)
        obtain ⟨a0, k0, hx0, hk0, hox0, _, _⟩ := hxr8 0 hPpos
        rw [h0] at hox0
        have hc8 : w8.cell? ⟨gX, 0, none⟩ = some (.slice (some ⟨a0, 0, none⟩) 64 k0) := by
          have := hxo8.cells (g := gX) rfl 0 _ hx0
          rwa [Addr.add_mid, Nat.zero_add] at this
        have HO0 := Lib.hid hox0
        obtain ⟨g11, c11, e11, hb11, _, hw11⟩ := R11.out.own_at hPpos (fun i hi => by rw [h64 i hi]; omega)
        subst e11
        obtain ⟨b0, kb, hcb, hkb, hob⟩ := hw11 0 hPpos
        rw [h64 0 hPpos] at hcb hob
        rw [h0] at hob
        have HOB := Lib.hid hob
        have hcb8 : w8.cell? ⟨g11, 0, none⟩ = some (.slice (some ⟨b0, 0, none⟩) 64 kb) := cell_no hcb K78.out
        have hPI : (0 : Int) < (P.length : Int) := by omega
        have hP1 : ((P.length : Int) == 0) = false := by rw [beq_eq_false_iff_ne]; omega
        have hgXl : gX < w8.heap.size := World.block_lt_of_cell? w8 _ hc8
        have HPS := Lib.hid hPs; have H64 := Lib.hid h64; have HNE := Lib.hid hne; have HOK := Lib.hid hok; have HSC := Lib.hid hsc; have HPN := Lib.hid hPN; have HXO := Lib.hid hxo8; have HXR := Lib.hid hxr8; have HXOL := Lib.hid hxol; have HR188 := Lib.hid hR188
        clear hPs h64 hne hok hsc hPN hxo8 hxr8 hxol hR188 h0 hscan hob hox0 hxo hxr hw11 hx0 hP0 hcb
        go_wp2_with fail
        refine (look_lay 3 s 0 N pd (by omega) HOK.out (some ⟨a0, 0, none⟩) 64 k0 w8 (own_argB HO0.out) hk0).mono ?_
        rintro e w9 ⟨Ap, cp, rfl, k9, o9⟩
        have K89 := Lib.hid k9; have HO9 := Lib.hid o9; have hw89 := k9.size
        have hc9 := cell_no hc8 k9
        have hgX9 : ¬ gX = w9.heap.size := by omega
        have hc9a := cell_no hc9 ((Kp.refl No w9).alloc (.cells #[.int .i64 3, .int .i64 (s : Int), .int .i64 0, .int .i64 (N : Int), .slice Ap pd.length cp] 33))
        clear k9 o9
        go_wp2_with fail
        have K8a := Lib.hid (K89.out.alloc (.cells #[.int .i64 3, .int .i64 (s : Int), .int .i64 0, .int .i64 (N : Int), .slice Ap pd.length cp] 33))
        refine (look_lay 3 s 0 N pd (by omega) HOK.out (some ⟨a0, 0, none⟩) 64 k0 _ ((own_argB HO0.out).no K8a.out) hk0).mono ?_
        rintro e w10 ⟨Aq, cq, rfl, k10, o10⟩
        have BP := Lib.hid ((Bk.new w9 33 [.int .i64 3, .int .i64 (s : Int), .int .i64 0, .int .i64 (N : Int), .slice Ap pd.length cp]).no k10)
        have K810 := Lib.hid (K8a.out.trans k10); have HO10 := Lib.hid o10; have K910 := Lib.hid (((Kp.refl No w9).alloc _).trans k10)
        have hw910 : w9.heap.size + 1 ≤ w10.heap.size := by have := k10.size; simpa using this
        have hb10 : (w9.alloc (.cells #[.int .i64 3, .int .i64 (s : Int), .int .i64 0, .int .i64 (N : Int), .slice Ap pd.length cp] 33)).heap.size = w9.heap.size + 1 := by simp
        rw [hb10] at HO10
        clear k10 o10 hb10
        have K8b := Lib.hid (K810.out.alloc (.cells #[.int .i64 3, .int .i64 (s : Int), .int .i64 0, .int .i64 (N : Int), .slice Aq pd.length cq] 33))
        go_wp2_with fail
        refine (scan_as (.slice (some ⟨gX, 0, none⟩) P.length c6) 3 P R us HSC.out _ (R6w.out.no K8b.out).cap (by omega)).mono ?_
        rintro e w11 ⟨v17, rfl, r17, k11⟩
        have BQ := Lib.hid ((Bk.new w10 33 [.int .i64 3, .int .i64 (s : Int), .int .i64 0, .int .i64 (N : Int), .slice Aq pd.length cq]).no k11)
        have K811 := Lib.hid (K8b.out.trans k11); have K1011 := Lib.hid (((Kp.refl No w10).alloc _).trans k11)
        have R17 := Lib.hid (show Rows w11 (w10.heap.size + 1) v17 R by have := r17; simpa using this)
        have hw1011 : w10.heap.size + 1 ≤ w11.heap.size := by have := k11.size; simpa using this
        clear k11 r17
        go_wp2_with fail
        refine (scan_as (.slice (some ⟨gX, 0, none⟩) P.length c6) 3 P R us HSC.out w11 (R6w.out.no K811.out).cap (by omega)).mono ?_
        rintro e w12 ⟨v19, rfl, r19, k12⟩
        have K812 := Lib.hid (K811.out.trans k12); have K1112 := Lib.hid k12; have R19 := Lib.hid r19; have hw1112 := k12.size
        clear k12 r19
        go_wp2_with fail
        refine (sameAll_eq _ _ P P true w12 (R6w.out.no K812.out).arg (R11.out.no (K78.out.trans K812.out)).arg (by omega) (by simp)).mono ?_
        rintro e w13 ⟨rfl, k13⟩
        have K813 := Lib.hid (K812.out.trans k13); have K1213 := Lib.hid k13; have hw1213 := k13.size
        have hc13 := cell_no hcb8 K813.out
        clear k13
        go_wp2_with fail
        refine (rlook_lay 3 s 0 N pd (by omega) HOK.out (some ⟨b0, 0, none⟩) 64 kb w13 ((own_argB HOB.out).no (K78.out.trans K813.out))).mono ?_
        rintro e w14 ⟨At, ct, rfl, k14, o14⟩
        have K814 := Lib.hid (K813.out.trans k14); have K1314 := Lib.hid k14; have HO14 := Lib.hid o14; have hw1314 := k14.size
        clear k14 o14
        have K8c := Lib.hid (K814.out.alloc (.cells #[.int .i64 3, .int .i64 (s : Int), .int .i64 0, .int .i64 (N : Int), .slice At pd.length ct] 33))
        go_wp2_with fail
        refine (rscan_as _ 3 P R us HSC.out _ (R11.out.no (K78.out.trans K8c.out)).arg (by omega)).mono ?_
        rintro e w15 ⟨v23, rfl, r23, k15⟩
        have BT := Lib.hid ((Bk.new w14 33 [.int .i64 3, .int .i64 (s : Int), .int .i64 0, .int .i64 (N : Int), .slice At pd.length ct]).no k15)
        have K815 := Lib.hid (K8c.out.trans k15); have K1415 := Lib.hid (((Kp.refl No w14).alloc _).trans k15)
        have R23 := Lib.hid (show Rows w15 (w14.heap.size + 1) v23 R by have := r23; simpa using this)
        have hw1415 : w14.heap.size + 1 ≤ w15.heap.size := by have := k15.size; simpa using this
        clear k15 r23
        obtain ⟨rs, hro, hrr⟩ := R17.out
        have hrol : rs.length = R.length := by have := hro.1; omega
        obtain ⟨Ar, cr, er, _⟩ := own_len hro
        subst er
        have HAR := Lib.hid (show 0 < R.length → ∃ g, Ar = some ⟨g, 0, none⟩ ∧ w10.heap.size + 1 ≤ g ∧ g < w11.heap.size from fun h => by
          obtain ⟨g, cap, e, _, h1, h2⟩ := own_form hro h
          injection e with e
          exact ⟨g, e, h1, h2⟩)
        have K10x := Lib.hid (K1011.out.trans (K1112.out.trans (K1213.out.trans (K1314.out.trans K1415.out))))
        have K11x := Lib.hid (K1112.out.trans (K1213.out.trans (K1314.out.trans K1415.out)))
        have K12x := Lib.hid (K1213.out.trans (K1314.out.trans K1415.out))
        have K9x := Lib.hid (K910.out.trans K10x.out)
        have hO : OInv (OZ w3.heap.size w4.heap.size w8.heap.size (w9.heap.size + 1) (w10.heap.size + 1) w11.heap.size w15.heap.size) w15 gX w9.heap.size (blk Ar) P.length R.length 188 (.int .i64 3) (.int .i64 (s : Int)) (.int .i64 0) (.int .i64 (N : Int)) (xs ++ .slice Ap pd.length cp :: rs) w15 := by
          refine ⟨Pool.start (by omega) (by omega) (by omega) HXOL.out (fun i hi => ?_) H64.out HNE.out (lp := pd) ?_ (by omega) (fun g hg => ?_) (by omega) (fun i x hx => ?_), by simp [HXOL.out, hrol]; omega, ?_, ⟨_, by rw [List.getElem?_append_right (by rw [HXOL.out]; exact Nat.le_refl _), HXOL.out, Nat.sub_self]; rfl, BP.out.no K10x.out⟩, fun hK => ?_, Kp.refl _ _⟩
          · obtain ⟨a, k, q1, _, q3, q4⟩ := HXR.out i hi
            exact ⟨a, k, q1, (q3.no K815.out).mono (Nat.zero_le _), q4⟩
          · exact (HO9.out.no K9x.out).mono (Nat.zero_le _)
          · obtain ⟨h1, cs, hb⟩ := own_bk HO9.out hg
            have := hb.lt
            omega
          · have hi : i < R.length := by rw [← hrol]; exact (List.getElem?_eq_some_iff.1 hx).1
            obtain ⟨y, hy, hoy⟩ := hrr i hi
            rw [hy] at hx
            injection hx with hx
            subst hx
            refine ⟨R[i], (hoy.no K11x.out).mono (Nat.zero_le _), HR188.out _ (List.getElem_mem hi), fun g hg => ?_⟩
            obtain ⟨h1, cs, hb⟩ := own_bk hoy hg
            exact ⟨h1, hb.lt⟩
          · obtain ⟨cs, hb, hcs⟩ := own_holder HXO.out
            exact ⟨cs, hb.no K815.out, fun j hj => by rw [hcs j hj, List.getElem?_append_left (by rw [HXOL.out]; exact hj)]⟩
          · obtain ⟨g, e, _, _⟩ := HAR.out hK
            subst e
            obtain ⟨cs, hb, hcs⟩ := own_holder hro
            refine ⟨cs, hb.no K11x.out, fun j hj => ?_⟩
            rw [hcs j hj, List.getElem?_append_right (by rw [HXOL.out]; omega), HXOL.out, show P.length + 1 + j - P.length = j + 1 by omega, List.getElem?_cons_succ]
        have HOI := Lib.hid hO
        have HZX := Lib.hid (show OZ w3.heap.size w4.heap.size w8.heap.size (w9.heap.size + 1) (w10.heap.size + 1) w11.heap.size w15.heap.size gX from .inl ⟨hgX1, hgX2⟩)
        have HZP := Lib.hid (show OZ w3.heap.size w4.heap.size w8.heap.size (w9.heap.size + 1) (w10.heap.size + 1) w11.heap.size w15.heap.size w9.heap.size from .inr (.inl ⟨by omega, by omega⟩))
        have HZR := Lib.hid (show 0 < R.length → OZ w3.heap.size w4.heap.size w8.heap.size (w9.heap.size + 1) (w10.heap.size + 1) w11.heap.size w15.heap.size (blk Ar) ∧ gX ≠ blk Ar from fun h => by
          obtain ⟨g, e, h1, h2⟩ := HAR.out h
          subst e
          exact ⟨.inr (.inr (.inl ⟨h1, h2⟩)), fun e => by have : gX = g := e; omega⟩)
        obtain ⟨Z, hZ⟩ : ∃ Z, OZ w3.heap.size w4.heap.size w8.heap.size (w9.heap.size + 1) (w10.heap.size + 1) w11.heap.size w15.heap.size = Z := ⟨_, rfl⟩
        rw [hZ] at HOI HZX HZP HZR
        have HZF := Lib.hid (show ∀ g, w15.heap.size ≤ g → Z g from fun g h => by rw [← hZ]; exact .inr (.inr (.inr h)))
        have HZN := Lib.hid hZ
        obtain ⟨E, hE⟩ : ∃ E, xs ++ .slice Ap pd.length cp :: rs = E := ⟨_, rfl⟩
        rw [hE] at HOI
        have HEP := Lib.hid (show E[P.length]? = some (.slice Ap pd.length cp) by rw [← hE, List.getElem?_append_right (by rw [HXOL.out]; exact Nat.le_refl _), HXOL.out, Nat.sub_self]; rfl)
        have hElen : E.length = P.length + 1 + R.length := HOI.out.len
        clear hE hZ hO hro hrr hrol hc8 hc9 hc9a hc13 hcb8
        have hP4 : P.length ≤ 4 := hlen
        go_wp2
        go_loopw [136] (fun kv wr => ∃ k : Nat, k ≤ P.length ∧ kv = .int .i64 k ∧ OInv Z w15 gX w9.heap.size (blk Ar) P.length R.length 188 (.int .i64 3) (.int .i64 (s : Int)) (.int .i64 0) (.int .i64 (N : Int)) E wr) (fun kv _ => P.length - (intOf kv).toNat)
        case atStart => exact ⟨0, Nat.zero_le _, rfl, HOI.out⟩
        case round =>
          clear HOI
          obtain ⟨k, hk, rfl, hoi⟩ := hrel
          have hk0 : (0 : Int) ≤ (k : Int) := by omega
          have HOI := Lib.hid hoi; clear hoi
          by_cases hlt : k < P.length
          · have hkI : (k : Int) < (P.length : Int) := by omega
            obtain ⟨A1, n1, c1, l1, hE1, ho1, hl1, hm1, ha1⟩ := HOI.out.pool.at_ (i := k) (by omega)
            obtain ⟨cs1, hb1, hcs1⟩ := HOI.out.hx
            have hc1 : wr.cell? ⟨gX, k, none⟩ = some (.slice A1 n1 c1) := by rw [hb1.cell, hcs1 k hlt, hE1]
            have HE1 := Lib.hid hE1; have HA1 := Lib.hid ha1
            clear hE1 ho1 hl1 hb1 hcs1 ha1
            go_wp2
            obtain ⟨wo, hwo⟩ : ∃ wo : World, wo = wr := ⟨_, rfl⟩
            subst hwo
            clear hc1
            go_loopw [144] (fun iv wr => ∃ i : Nat, i ≤ n1 ∧ iv = .int .i64 i ∧ OInv Z w15 gX w9.heap.size (blk Ar) P.length R.length 188 (.int .i64 3) (.int .i64 (s : Int)) (.int .i64 0) (.int .i64 (N : Int)) E wr) (fun iv _ => n1 - (intOf iv).toNat)
            case atStart => exact ⟨0, Nat.zero_le _, rfl, HOI.out⟩
            case round =>
              clear HOI
              obtain ⟨i, hi, rfl, hoi⟩ := hrel
              have hi0 : (0 : Int) ≤ (i : Int) := by omega
              by_cases hin : i < n1
              · have hiI : (i : Int) < (n1 : Int) := by omega
                obtain ⟨a1, rfl⟩ := HA1.out (by omega)
                obtain ⟨cs1, hb1, hcs1⟩ := hoi.hx
                have hc1 : wr.cell? ⟨gX, k, none⟩ = some (.slice (some ⟨a1, 0, none⟩) n1 c1) := by rw [hb1.cell, hcs1 k hlt]; exact HE1.out
                obtain ⟨st1, ⟨sv, st2⟩, st3⟩ := hoi.store HE1.out hin ((k : Int) + 1) (by omega)
                have HS1 := Lib.hid st1
                clear st1 hb1 hcs1 hoi
                go_wp2
                go_roundw
                case rel => exact ⟨i + 1, by omega, by go_num, HS1.out⟩
                case measure => simp [intOf]; omega
              · obtain rfl : i = n1 := by omega
                have hge : ¬ (i : Int) < (i : Int) := by omega
                have HOI := Lib.hid hoi; clear hoi
                go_wp2
                go_roundw
                case rel => exact ⟨k + 1, by omega, by go_num, HOI.out⟩
                case measure => simp [intOf]; omega
          · obtain rfl : k = P.length := by omega
            have hge : ¬ (P.length : Int) < (P.length : Int) := by omega
            obtain ⟨pv, hpv, hbp⟩ := HOI.out.hp
            rw [HEP.out] at hpv
            injection hpv with hpv
            subst hpv
            have hcp4 : wr.cell? ⟨w9.heap.size, 4, none⟩ = some (.slice Ap pd.length cp) := hbp.cell 4
            clear hbp
            go_wp2
            obtain ⟨wo, hwo⟩ : ∃ wo : World, wo = wr := ⟨_, rfl⟩
            subst hwo
            clear hcp4
            go_loopw [161] (fun iv wr => ∃ i : Nat, i ≤ pd.length ∧ iv = .int .i64 i ∧ OInv Z w15 gX w9.heap.size (blk Ar) P.length R.length 188 (.int .i64 3) (.int .i64 (s : Int)) (.int .i64 0) (.int .i64 (N : Int)) E wr) (fun iv _ => pd.length - (intOf iv).toNat)
            case atStart => exact ⟨0, Nat.zero_le _, rfl, HOI.out⟩
            case round =>
              clear HOI
              obtain ⟨i, hi, rfl, hoi⟩ := hrel
              have hi0 : (0 : Int) ≤ (i : Int) := by omega
              by_cases hin : i < pd.length
              · have hiI : (i : Int) < (pd.length : Int) := by omega
                obtain ⟨a1, hA1⟩ : ∃ a1, Ap = some ⟨a1, 0, none⟩ := by
                  obtain ⟨g, cap, e, _⟩ := own_form HO9.out (by omega)
                  injection e with e
                  exact ⟨g, e⟩
                subst hA1
                obtain ⟨pv, hpv, hbp⟩ := hoi.hp
                rw [HEP.out] at hpv
                injection hpv with hpv
                subst hpv
                have hcp4 : wr.cell? ⟨w9.heap.size, 4, none⟩ = some (.slice (some ⟨a1, 0, none⟩) pd.length cp) := hbp.cell 4
                obtain ⟨st1, ⟨sv, st2⟩, st3⟩ := hoi.store HEP.out hin 112 (by omega)
                have HS1 := Lib.hid st1
                clear st1 hbp hoi
                go_wp2
                go_roundw
                case rel => exact ⟨i + 1, by omega, by go_num, HS1.out⟩
                case measure => simp [intOf]; omega
              · obtain rfl : i = pd.length := by omega
                have hge : ¬ (pd.length : Int) < (pd.length : Int) := by omega
                have HOI := Lib.hid hoi; clear hoi
                go_wp2
                obtain ⟨wo, hwo⟩ : ∃ wo : World, wo = wr := ⟨_, rfl⟩
                subst hwo
                go_loopw [171] (fun kv wr => ∃ k : Nat, k ≤ R.length ∧ kv = .int .i64 k ∧ OInv Z w15 gX w9.heap.size (blk Ar) P.length R.length 188 (.int .i64 3) (.int .i64 (s : Int)) (.int .i64 0) (.int .i64 (N : Int)) E wr) (fun kv _ => R.length - (intOf kv).toNat)
                case atStart => exact ⟨0, Nat.zero_le _, rfl, HOI.out⟩
                case round =>
                  clear HOI
                  obtain ⟨k, hk, rfl, hoi⟩ := hrel
                  have hk0 : (0 : Int) ≤ (k : Int) := by omega
                  have HOI := Lib.hid hoi; clear hoi
                  by_cases hlt : k < R.length
                  · have hkI : (k : Int) < (R.length : Int) := by omega
                    obtain ⟨gR, hAr, _, _⟩ := HAR.out (by omega)
                    obtain ⟨A1, n1, c1, l1, hE1, ho1, hl1, hm1, ha1⟩ := HOI.out.pool.at_ (i := P.length + 1 + k) (by omega)
                    obtain ⟨cs1, hb1, hcs1⟩ := HOI.out.hr (by omega)
                    have hc1 : wr.cell? ⟨blk Ar, k, none⟩ = some (.slice A1 n1 c1) := by rw [hb1.cell, hcs1 k hlt, hE1]
                    have HE1 := Lib.hid hE1; have HA1 := Lib.hid ha1
                    subst hAr
                    have hc1 : wr.cell? ⟨gR, k, none⟩ = some (.slice A1 n1 c1) := hc1
                    clear hE1 ho1 hl1 hb1 hcs1 ha1
                    go_wp2
                    obtain ⟨wo, hwo⟩ : ∃ wo : World, wo = wr := ⟨_, rfl⟩
                    subst hwo
                    clear hc1
                    go_loopw [179] (fun iv wr => ∃ i : Nat, i ≤ n1 ∧ iv = .int .i64 i ∧ OInv Z w15 gX w9.heap.size (blk (some ⟨gR, 0, none⟩)) P.length R.length 188 (.int .i64 3) (.int .i64 (s : Int)) (.int .i64 0) (.int .i64 (N : Int)) E wr) (fun iv _ => n1 - (intOf iv).toNat)
                    case atStart => exact ⟨0, Nat.zero_le _, rfl, HOI.out⟩
                    case round =>
                      clear HOI
                      obtain ⟨i, hi, rfl, hoi⟩ := hrel
                      have hi0 : (0 : Int) ≤ (i : Int) := by omega
                      by_cases hin : i < n1
                      · have hiI : (i : Int) < (n1 : Int) := by omega
                        obtain ⟨a1, rfl⟩ := HA1.out (by omega)
                        obtain ⟨cs1, hb1, hcs1⟩ := hoi.hr (by omega)
                        have hc1 : wr.cell? ⟨gR, k, none⟩ = some (.slice (some ⟨a1, 0, none⟩) n1 c1) := by
                          have := hb1.cell k
                          rw [hcs1 k hlt, HE1.out] at this
                          exact this
                        obtain ⟨st1, ⟨sv, st2⟩, st3⟩ := hoi.store HE1.out hin 114 (by omega)
                        have HS1 := Lib.hid st1
                        clear st1 hb1 hcs1 hoi
                        go_wp2
                        go_roundw
                        case rel => exact ⟨i + 1, by omega, by go_num, HS1.out⟩
                        case measure => simp [intOf]; omega
                      · obtain rfl : i = n1 := by omega
                        have hge : ¬ (i : Int) < (i : Int) := by omega
                        have HOI := Lib.hid hoi; clear hoi
                        go_wp2
                        go_roundw
                        case rel => exact ⟨k + 1, by omega, by go_num, HOI.out⟩
                        case measure => simp [intOf]; omega
                  · obtain rfl : k = R.length := by omega
                    have hge : ¬ (R.length : Int) < (R.length : Int) := by omega
                    clear HEP hElen
                    go_wp2
                    obtain ⟨wo, hwo⟩ : ∃ wo : World, wo = wr := ⟨_, rfl⟩
                    subst hwo
                    go_loopw [30] (fun tv wr => ∃ (t : Nat) (E : List Value), t ≤ 70 ∧ tv = .int .i64 t ∧ OInv Z w15 gX w9.heap.size (blk Ar) P.length R.length (188 + 10 * t) (.int .i64 3) (.int .i64 (s : Int)) (.int .i64 0) (.int .i64 (N : Int)) E wr) (fun tv _ => 70 - (intOf tv).toNat)
                    case atStart => exact ⟨0, E, Nat.zero_le _, rfl, HOI.out⟩
                    case round =>
                      clear HOI
                      obtain ⟨t, E, ht, rfl, hoi⟩ := hrel
                      have ht0 : (0 : Int) ≤ (t : Int) := by omega
                      have HOI := Lib.hid hoi; clear hoi
                      have hElen := HOI.out.len
                      by_cases hlt : t < 70
                      · have htI : (t : Int) < 70 := by omega
                        obtain ⟨A1, n1, c1, l1, hE1, ho1, hl1, hm1, _⟩ := HOI.out.pool.at_ (i := P.length) (by omega)
                        obtain ⟨pv, hpv, hbp⟩ := HOI.out.hp
                        rw [hE1] at hpv
                        injection hpv with hpv
                        subst hpv
                        have hcp4 : wr.cell? ⟨w9.heap.size, 4, none⟩ = some (.slice A1 n1 c1) := hbp.cell 4
                        have hw15 : w15.heap.size ≤ wr.heap.size := HOI.out.kp.size
                        have HE1 := Lib.hid hE1; have HO1 := Lib.hid ho1
                        clear hE1 ho1 hbp
                        go_wp2_with (at_builtin; refine wpList_appB3 _ rfl (.tmp 195) (.tmp 196) rfl 0 _ l1 rfl (HO1.out.no ((Kp.refl No _).alloc _)) _ _ _ [122] rfl rfl (cs_new (xs := u8s [122]) rfl rfl) (by omega) (Nat.zero_le _) ?_)
                        intro A2 n2 c2 w16 o16 k16 g16
                        obtain ⟨gp1, gp2, gp3⟩ := (HOI.out.no ((Kp.refl No wr).alloc (.cells #[.int .u8 122] 5))).growP HZP.out HE1.out (HO1.out.no ((Kp.refl No wr).alloc _)) (by omega) (by simp) o16 k16 (fun g h => (g16 g h).imp id (fun e => by rw [e]; simp)) (HZF.out _ (by simp; omega))
                        have HG := Lib.hid gp1
                        clear o16 k16 g16 gp1 hcp4
                        go_wp2
                        clear gp2 gp3
                        clear HOI HE1 HO1
                        generalize E.set P.length (.slice A2 n2 c2) = E1 at HG
                        generalize w16.setCell ⟨w9.heap.size, 4, none⟩ (.slice A2 n2 c2) = w17 at HG ⊢
                        clear hElen
                        go_loopw [201] (fun kv wr => ∃ (k : Nat) (E : List Value), k ≤ P.length ∧ kv = .int .i64 k ∧ OInv Z w15 gX w9.heap.size (blk Ar) P.length R.length (188 + 10 * t + 1 + k) (.int .i64 3) (.int .i64 (s : Int)) (.int .i64 0) (.int .i64 (N : Int)) E wr) (fun kv _ => P.length - (intOf kv).toNat)
                        case atStart => exact ⟨0, E1, Nat.zero_le _, rfl, HG.out⟩
                        case round =>
                          clear HG
                          obtain ⟨k, E, hk, rfl, hoi⟩ := hrel
                          have hk0 : (0 : Int) ≤ (k : Int) := by omega
                          have HOI := Lib.hid hoi; clear hoi
                          have hElen := HOI.out.len
                          by_cases hkl : k < P.length
                          · have hkI : (k : Int) < (P.length : Int) := by omega
                            obtain ⟨A1, n1, c1, l1, hE1, ho1, hl1, hm1, _⟩ := HOI.out.pool.at_ (i := k) (by omega)
                            obtain ⟨cs1, hb1, hcs1⟩ := HOI.out.hx
                            have hc1 : wr.cell? ⟨gX, k, none⟩ = some (.slice A1 n1 c1) := by rw [hb1.cell, hcs1 k hkl, hE1]
                            have hw15 : w15.heap.size ≤ wr.heap.size := HOI.out.kp.size
                            have HE1 := Lib.hid hE1; have HO1 := Lib.hid ho1
                            clear hE1 ho1 hb1 hcs1
                            go_wp2_with (at_builtin; refine wpList_appB3 _ rfl (.tmp 209) (.tmp 210) rfl 0 _ l1 rfl (HO1.out.no ((Kp.refl No _).alloc _)) _ _ _ [121] rfl rfl (cs_new (xs := u8s [121]) rfl rfl) (by omega) (Nat.zero_le _) ?_)
                            intro A2 n2 c2 w18 o16 k16 g16
                            obtain ⟨gp1, ⟨gu, gp2⟩, gp3⟩ := (HOI.out.no ((Kp.refl No wr).alloc (.cells #[.int .u8 121] 5))).growX HZX.out (fun h => (HZR.out h).2) hkl HE1.out (HO1.out.no ((Kp.refl No wr).alloc _)) (by omega) (by simp) o16 k16 (fun g h => (g16 g h).imp id (fun e => by rw [e]; simp)) (HZF.out _ (by simp; omega))
                            have HG := Lib.hid gp1
                            clear o16 k16 g16 gp1 hc1
                            go_wp2
                            go_roundw
                            case rel => exact ⟨k + 1, _, by omega, by go_num, HG.out⟩
                            case measure => simp [intOf]; omega
                          · obtain rfl : k = P.length := by omega
                            have hge : ¬ (P.length : Int) < (P.length : Int) := by omega
                            go_wp2
                            obtain ⟨wo, hwo⟩ : ∃ wo : World, wo = wr := ⟨_, rfl⟩
                            subst hwo
                            go_loopw [216] (fun kv wr => ∃ (k : Nat) (E : List Value), k ≤ R.length ∧ kv = .int .i64 k ∧ OInv Z w15 gX w9.heap.size (blk Ar) P.length R.length (188 + 10 * t + 1 + P.length + k) (.int .i64 3) (.int .i64 (s : Int)) (.int .i64 0) (.int .i64 (N : Int)) E wr) (fun kv _ => R.length - (intOf kv).toNat)
                            case atStart => exact ⟨0, E, Nat.zero_le _, rfl, HOI.out⟩
                            case round =>
                              clear HOI hElen
                              obtain ⟨k, E, hk, rfl, hoi⟩ := hrel
                              have hk0 : (0 : Int) ≤ (k : Int) := by omega
                              have HOI := Lib.hid hoi; clear hoi
                              have hElen := HOI.out.len
                              by_cases hkl : k < R.length
                              · have hkI : (k : Int) < (R.length : Int) := by omega
                                obtain ⟨gR, hAr, _, _⟩ := HAR.out (by omega)
                                obtain ⟨A1, n1, c1, l1, hE1, ho1, hl1, hm1, _⟩ := HOI.out.pool.at_ (i := P.length + 1 + k) (by omega)
                                obtain ⟨cs1, hb1, hcs1⟩ := HOI.out.hr (by omega)
                                have hc1 : wr.cell? ⟨blk Ar, k, none⟩ = some (.slice A1 n1 c1) := by rw [hb1.cell, hcs1 k hkl, hE1]
                                have hw15 : w15.heap.size ≤ wr.heap.size := HOI.out.kp.size
                                have HE1 := Lib.hid hE1; have HO1 := Lib.hid ho1
                                clear hE1 ho1 hb1 hcs1
                                subst hAr
                                have hc2 : wr.cell? ⟨gR, k, none⟩ = some (.slice A1 n1 c1) := hc1
                                clear hc1
                                go_wp2_with (at_builtin; refine wpList_appB3 _ rfl (.tmp 224) (.tmp 225) rfl 0 _ l1 rfl (HO1.out.no ((Kp.refl No _).alloc _)) _ _ _ [119] rfl rfl (cs_new (xs := u8s [119]) rfl rfl) (by omega) (Nat.zero_le _) ?_)
                                intro A2 n2 c2 w18 o16 k16 g16
                                obtain ⟨gp1, ⟨gu, gp2⟩, gp3⟩ := (HOI.out.no ((Kp.refl No wr).alloc (.cells #[.int .u8 119] 5))).growR (HZR.out (by omega)).1 (HZR.out (by omega)).2 hkl HE1.out (HO1.out.no ((Kp.refl No wr).alloc _)) (by omega) (by simp) o16 k16 (fun g h => (g16 g h).imp id (fun e => by rw [e]; simp)) (HZF.out _ (by simp; omega))
                                have gp2' : w18.cell? ⟨gR, k, none⟩ = some gu := gp2
                                have gp3' : w18.frozen? ⟨gR, k, none⟩ = false := gp3
                                have HG := Lib.hid gp1
                                clear o16 k16 g16 gp1 hc2 gp2 gp3
                                go_wp2
                                go_roundw
                                case rel => exact ⟨k + 1, _, by omega, by go_num, HG.out⟩
                                case measure => simp [intOf]; omega
                              · obtain rfl : k = R.length := by omega
                                have hge : ¬ (R.length : Int) < (R.length : Int) := by omega
                                go_wp2
                                go_roundw
                                case rel => exact ⟨t + 1, E, by omega, by go_num, HOI.out.more (by omega)⟩
                                case measure => simp [intOf]; omega
                      · obtain rfl : t = 70 := by omega
                        have hge : ¬ ((70 : Nat) : Int) < 70 := by omega
                        have HKZ := Lib.hid HOI.out.kp
                        clear HOI hElen
                        have K515 := Lib.hid (show Kp (One gf) w5 w15 from HKF.out.trans ((K67.out.trans (K78.out.trans K815.out)).of_no))
                        have hnz := Lib.hid (show ∀ g, ¬ OZ w3.heap.size w4.heap.size w8.heap.size (w9.heap.size + 1) (w10.heap.size + 1) w11.heap.size w15.heap.size g → ¬ Z g from fun g h => by rw [← HZN.out]; exact h)
                        have hoz : ∀ g, OZ w3.heap.size w4.heap.size w8.heap.size (w9.heap.size + 1) (w10.heap.size + 1) w11.heap.size w15.heap.size g → (w3.heap.size ≤ g ∧ g < w4.heap.size) ∨ (w8.heap.size ≤ g ∧ g < w9.heap.size + 1) ∨ (w10.heap.size + 1 ≤ g ∧ g < w11.heap.size) ∨ w15.heap.size ≤ g := fun g h => h
                        have YF := Lib.hid (show Rows wr w4.heap.size (.slice A8 P.length c8) P from R8.out.zone (Kp.refl No w5) ((K515.out.mono (M' := fun g => g = gf ∨ Z g) (fun _ _ h => .inl h)).trans (HKZ.out.mono (fun _ _ h => .inr h))) (fun g h1 h2 h3 => by
                          rcases h3 with h3 | h3
                          · omega
                          · exact hnz.out g (fun h => by have := hoz g h; omega) h3))
                        have WF := Lib.hid (show Rows wr w6.heap.size (.slice (some ⟨g11, 0, none⟩) P.length c11) P from R11.out.zone (K78.out.trans K815.out) HKZ.out (fun g h1 h2 h3 => hnz.out g (fun h => by have := hoz g h; omega) h3))
                        have SF := Lib.hid (show Rows wr w11.heap.size v19 R from R19.out.zone K12x.out HKZ.out (fun g h1 h2 h3 => hnz.out g (fun h => by have := hoz g h; omega) h3))
                        have LF := Lib.hid (show Rows wr (w14.heap.size + 1) v23 R from R23.out.zone (Kp.refl No w15) HKZ.out (fun g h1 h2 h3 => hnz.out g (fun h => by have := hoz g h; omega) h3))
                        have QF := Lib.hid (show Bk wr w10.heap.size 33 [.int .i64 3, .int .i64 (s : Int), .int .i64 0, .int .i64 (N : Int), .slice Aq pd.length cq] from (BQ.out.no K11x.out).kp HKZ.out (fun h3 => hnz.out _ (fun h => by have := hoz _ h; omega) h3))
                        have TF := Lib.hid (show Bk wr w14.heap.size 33 [.int .i64 3, .int .i64 (s : Int), .int .i64 0, .int .i64 (N : Int), .slice At pd.length ct] from BT.out.kp HKZ.out (fun h3 => hnz.out _ (fun h => by have := hoz _ h; omega) h3))
                        have DQ := Lib.hid (show OwnB wr (w9.heap.size + 1) (.slice Aq pd.length cq) pd from HO10.out.zone K10x.out HKZ.out (fun g h1 h2 h3 => hnz.out g (fun h => by have := hoz g h; omega) h3))
                        have DT := Lib.hid (show OwnB wr w13.heap.size (.slice At pd.length ct) pd from HO14.out.zone (K1415.out) HKZ.out (fun g h1 h2 h3 => hnz.out g (fun h => by have := hoz g h; omega) h3))
                        have KF := Lib.hid (show Kp No w wr from (HK6.out.trans (K67.out.trans (K78.out.trans K815.out))).then_ HKZ.out (fun g hg h3 => (hnz.out g (fun h => by have := hoz g h; omega) h3).elim))
                        clear hoz
                        go_wp2_with fail
                        refine (sameAll_eq _ _ P P true wr YF.out.arg WF.out.arg (by omega) (by simp)).mono ?_
                        rintro e w20 ⟨rfl, k20⟩
                        have bq := QF.out.no k20
                        have bt := TF.out.no k20
                        have q0 : w20.cell? ⟨w10.heap.size, 0, none⟩ = some (.int .i64 3) := bq.cell 0
                        have q1 : w20.cell? ⟨w10.heap.size, 1, none⟩ = some (.int .i64 (s : Int)) := bq.cell 1
                        have q2 : w20.cell? ⟨w10.heap.size, 2, none⟩ = some (.int .i64 0) := bq.cell 2
                        have q3 : w20.cell? ⟨w10.heap.size, 3, none⟩ = some (.int .i64 (N : Int)) := bq.cell 3
                        have q4 : w20.cell? ⟨w10.heap.size, 4, none⟩ = some (.slice Aq pd.length cq) := bq.cell 4
                        have t0 : w20.cell? ⟨w14.heap.size, 0, none⟩ = some (.int .i64 3) := bt.cell 0
                        have t1 : w20.cell? ⟨w14.heap.size, 1, none⟩ = some (.int .i64 (s : Int)) := bt.cell 1
                        have t2 : w20.cell? ⟨w14.heap.size, 2, none⟩ = some (.int .i64 0) := bt.cell 2
                        have t3 : w20.cell? ⟨w14.heap.size, 3, none⟩ = some (.int .i64 (N : Int)) := bt.cell 3
                        have t4 : w20.cell? ⟨w14.heap.size, 4, none⟩ = some (.slice At pd.length ct) := bt.cell 4
                        have K20 := Lib.hid k20
                        clear bq bt k20
                        go_wp2_with fail
                        refine (same_true 3 s 0 N (.slice Aq pd.length cq) (.slice At pd.length ct) pd w20 ((own_argB DQ.out).no K20.out) ((own_argB DT.out).no K20.out)).mono ?_
                        rintro e w21 ⟨rfl, k21⟩
                        have K21 := Lib.hid (K20.out.trans k21); clear k21
                        go_wp2_with fail
                        refine (sameAll_eq _ _ R R true w21 (SF.out.no K21.out).arg (LF.out.no K21.out).arg (by omega) (by simp)).mono ?_
                        rintro e w22 ⟨rfl, k22⟩
                        have K22 := Lib.hid (KF.out.trans (K21.out.trans k22)); clear k22
                        go_wp2
                        go_ret
                        exact ⟨rfl, K22.out.below (Nat.le_refl _) (fun _ _ m => m)⟩


set_option maxRecDepth 100000 in
theorem lifted (os : Os) (started : os.Started) (H : Type) (enc : TypeId × Value → H) :
    ReturnsInHanded {} Tryd.checked os 10 .any (fun w args => (Rows.sectorsOwnSpec.pre enc Tryd.prog Tryd.f10 Rows.sectorsOwnRow.domain false w args ∧ laidMetH Tryd.prog [("unicode/utf8.acceptRanges", Rows.laid_unicode_utf8_acceptRanges), ("unicode/utf8.first", Rows.laid_unicode_utf8_first)] w) ∧ sizedMet enc Tryd.prog Tryd.f10 (OpenSpec.ofChange Rows.sectorsOwnSpec) false w args)
      (Rows.sectorsOwnSpec.post enc Tryd.prog Tryd.f10 false true false false) := by
  refine returnsInHanded_and_shaped (C := Tryd.checked) (X := (fun w _ => laidMetH Tryd.prog [("unicode/utf8.acceptRanges", Rows.laid_unicode_utf8_acceptRanges), ("unicode/utf8.first", Rows.laid_unicode_utf8_first)] w)) (fun _ _ _ hh h => h.of_heap hh) own started (by kernel_rfl) Tryd.func10
    (ChangeSpec.witness_shaped (enc := enc) (C := Tryd.checked) (os := os) (X := (fun w _ => laidMetH Tryd.prog [("unicode/utf8.acceptRanges", Rows.laid_unicode_utf8_acceptRanges), ("unicode/utf8.first", Rows.laid_unicode_utf8_first)] w)) false (World.laidAll Tryd.prog os [("unicode/utf8.acceptRanges", Rows.laid_unicode_utf8_acceptRanges), ("unicode/utf8.first", Rows.laid_unicode_utf8_first)]) #[.int .i64 0, .slice none 0 0] 8 (World.laidAll_os _ _ _)
      (World.shaped_of_ZipB (by kernel_rfl) (by kernel_rfl)) (by kernel_rfl) (by kernel_rfl) (by kernel_rfl)
      (by rw [MakeChecks.laidMetH_plain _ _ _ (by kernel_rfl)]; exact laidMet_laidAll _ (by kernel_rfl) (by kernel_rfl))) ?_
  intro W base args ds gs before hval0 hW hcnd hsz0 hL hsh _
  have hval : ∀ (j : Nat) t v, Tryd.f10.params[j]? = some t → args[j]? = some v → Value.okWide Tryd.prog W .any base t v := hval0
  have hW' := hW
  obtain ⟨p, q, hA0, hV, rfl, hfz, hnd⟩ := hW
  have hA : DataW.TrodAll enc Tryd.prog W 0 (fun _ => true) true Tryd.f10.params.toList args.toList ds p := hA0
  rw [Tryd.params10] at hA hval
  obtain ⟨v0, vs0, d0, ds0, p0, q0, hargs, rfl, rfl, h0, r0⟩ := trodAll_cons hA
  obtain ⟨v1, vs1, d1, ds1, p1, q1, rfl, rfl, rfl, h1, r1⟩ := trodAll_cons r0
  obtain ⟨rfl, rfl, rfl⟩ := trodAll_nil r1
  obtain rfl : args = #[v0, v1] := by cases args; simp_all
  obtain ⟨rfl, rfl⟩ := trodVars_none hV
  have hsz : ∀ (j : Nat) (t : TypeId) (d : DataW H), ([3, 26] : List TypeId)[j]? = some t → [d0, d1][j]? = some d → ∀ n ∈ d.weights Tryd.prog t, n ≤ reachBytes := by
    intro j t d ht hd n hn
    have hsz1 : (DataW.weightsEach Tryd.prog ([3, 26] : List TypeId) [d0, d1]).all (· ≤ reachBytes) = true := hsz0
    have := List.all_eq_true.1 hsz1 n (DataW.weights_mem_each ht hd n hn)
    simpa using this
  have k0 := h0
  have lt0 : ∀ x ∈ p0, x.block < W.heap.size := by obtain ⟨m, hm⟩ := k0; exact DataW.trod_lt m _ _ _ hm
  obtain ⟨n0, rfl, rfl, rfl, x0⟩ := open_int Tryd.underlying3 (hval 0 3 v0 rfl rfl) h0
  have k1 := h1
  have lt1 : ∀ x ∈ p1, x.block < W.heap.size := by obtain ⟨m, hm⟩ := k1; exact DataW.trod_lt m _ _ _ hm
  obtain ⟨A1, n1, c1, l1, rfl, a1, z1⟩ := open_bytesA Tryd.underlying26 Tryd.underlying5 (by kernel_rfl) (by kernel_rfl) (hval 1 26 v1 rfl rfl) h1 (hsz 1 26 _ rfl rfl)
  refine (walk n0 A1 n1 c1 l1 W (bounds_i64 x0) a1 z1).mono fun e W' ⟨he, bel⟩ => ?_
  subst he
  exact ⟨_, rfl, _, _, _, [], _, [], hW', trodAll_mk1 (shut_bool Tryd.underlying4 _), (trodAll_cons_mk (Below.trod laidOut (by kernel_rfl) (of_decide_eq_true (by kernel_rfl)) k0 bel lt0) (trodAll_cons_mk (Below.trod laidOut (by kernel_rfl) (of_decide_eq_true (by kernel_rfl)) k1 bel lt1) trodAll_mk0)), rfl, bel.frame _, fun h => by cases h⟩

theorem over : Rows.sectorsOwnRow.holds Tryd.pinned (OpenSpec.ofChange Rows.sectorsOwnSpec) :=
  OpenClaim.holds_of_wide 10 Tryd.f10 rfl rfl rfl rfl rfl rfl rfl ⟨rfl, rfl, rfl, rfl, rfl⟩ rfl rfl rfl rfl rfl (by kernel_rfl) Tryd.func10 (by kernel_rfl)
    (of_decide_eq_true (by kernel_rfl)) (by unfold Func.isWrapper; first | (rw [if_pos (by decide +kernel)]; kernel_rfl) | (rw [if_neg (by decide +kernel)]; exact ⟨rfl, rfl⟩))
    (fun os started H enc _ => lifted os started H enc)

theorem proved : Rows.SectorsOwnCardSaid :=
  Claim7.holds_tied_plain_at .later [] [.data, .pinned] true (true, "dc3eabe4416708f3bf80b9d2489c313fb0226dd42c19edfe3363a148024dce7c") true over (fun _ h => by cases h) (by kernel_rfl) (fun _ h => by cases h) sectorsOwn_row_tie rfl ⟨rfl, rfl⟩ (by kernel_rfl) rfl
    (fun f fn hf hfn => by
      obtain rfl : f = 10 := Option.some.inj ((show Tryd.prog.funcNamed "sublet/subletlaw10.SectorsOwn" = some 10 by kernel_rfl).symm.trans hf) |>.symm
      obtain rfl : fn = Tryd.f10 := (Option.some.inj (Tryd.func10.symm.trans hfn)).symm
      exact ⟨by kernel_rfl, fun j t ht => by
        rw [Tryd.params10] at ht
        have hm : t ∈ ([3, 26] : List TypeId) := by simpa using Array.mem_of_getElem? ht
        have hall : (([3, 26] : List TypeId).all fun u => !Tryd.prog.wantsStandIn u) = true := by kernel_rfl
        exact (show Tryd.prog.wantsStandIn t = false by simpa using List.all_eq_true.1 hall t hm)⟩)
    (by kernel_rfl)
#print axioms proved
end Go.Proofs.YthncnkkpfcbkfaaDoor.sectorsOwn
