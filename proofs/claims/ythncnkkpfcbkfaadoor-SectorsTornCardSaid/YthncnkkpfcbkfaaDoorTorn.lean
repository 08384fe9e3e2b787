/- SectorsTorn returns true for any generation, records and tries: a record written sector by sector is not there till its last sector is written. No condition. -/
import Derived.Test.YthncnkkpfcbkfaaDoorSj
import Derived.Test.YthncnkkpfcbkfaaDoorCards
import Derived.Test.YthncnkkpfcbkfaaDoorRp
import Derived.Test.YthncnkkpfcbkfaaDoorSr
import Derived.Test.YthncnkkpfcbkfaaDoorPd
import Derived.Test.YthncnkkpfcbkfaaDoorTr2
namespace Go.Proofs.YthncnkkpfcbkfaaDoor.sectorsTorn
open Go.ChangeShapes Go.WideShapes Go.ChangeAt Go.RowKit Go.PlainAid
open Go.ChangeMaps (open_string shut_string)

theorem own : ownKnob Tryd.prog.godebug = none := by kernel_rfl
theorem laidOut : laidOutB Tryd.prog = true := by kernel_rfl
theorem scanF_len {L : List (List UInt8)} {gen : Int} : ∀ (f used : Nat) (recs : List (List UInt8)), recs.length ≤ used → used ≤ L.length → (scanF L gen f used recs).1.length ≤ L.length
  | 0, used, recs, h1, h2 => by show recs.length ≤ _; omega
  | f + 1, used, recs, h1, h2 => by
    unfold scanF
    cases ho : oneS L gen used recs.length with
    | none => show recs.length ≤ _; omega
    | some dn =>
      obtain ⟨d, n⟩ := dn
      have := oneS_some ho
      exact scanF_len f (used + n) (recs ++ [d]) (by simp; omega) (by omega)
theorem scanS_len (L : List (List UInt8)) (gen : Int) : (scanS L gen).1.length ≤ L.length := scanF_len _ _ _ (Nat.le_refl _) (Nat.zero_le _)
theorem scan_as (lv : Value) (gen : Int) (L P : List (List UInt8)) (us : Nat) (hp : scanS L gen = (P, us)) (w : World) (hl : CapR w lv L) (hL : (L.length + 1) * 24 ≤ 140737488355328) :
    Calls Tryd.prog 18 #[lv, .int .i64 gen] w fun e w' => ∃ v, e = .returned (.tuple #[v, .int .i64 (us : Int)]) ∧ Rows w' w.heap.size v P ∧ Kp No w w' := by
  refine (scan_any lv gen L w hl hL).mono ?_
  rintro e w' ⟨v, h1, h2, h3⟩
  rw [hp] at h1 h2
  exact ⟨v, h1, h2, h3⟩
theorem rscan_as (lv : Value) (gen : Int) (L P : List (List UInt8)) (us : Nat) (hp : scanS L gen = (P, us)) (w : World) (hl : ArgR w lv L) (hL : (L.length + 1) * 24 ≤ 140737488355328) :
    Calls Tryd.prog 20 #[lv, .int .i64 gen] w fun e w' => ∃ v, e = .returned (.tuple #[v, .int .i64 (us : Int)]) ∧ Rows w' w.heap.size v P ∧ Kp No w w' := by
  refine (rscan_any lv gen L w hl hL).mono ?_
  rintro e w' ⟨v, h1, h2, h3⟩
  rw [hp] at h1 h2
  exact ⟨v, h1, h2, h3⟩
theorem packL_64 (gen : Nat) : ∀ (r : List (List UInt8)) (s : Nat), (∀ d ∈ r, d.length ≤ 188) → ∀ b ∈ packL gen s r, b.length = 64
  | [], _, _, b, hb => by simp [packL] at hb
  | d :: r, s, h, b, hb => by
    simp only [packL] at hb
    rcases List.mem_append.1 hb with hb | hb
    · simp only [partsS, List.mem_map, List.mem_range] at hb
      obtain ⟨i, hi, rfl⟩ := hb
      refine layS_length _ ?_
      simp [pieceS]; omega
    · exact packL_64 gen r (s + 1) (fun e he => h e (List.mem_cons_of_mem _ he)) b hb
def ZeroInv (w : World) (T : List (List UInt8)) (v iv : Value) (wr : World) : Prop :=
  ∃ i : Nat, i ≤ 5 ∧ iv = .int .i64 i ∧ Rows wr w.heap.size v (T ++ List.replicate i zero64S) ∧ (∃ A c, v = .slice A (T.length + i) c) ∧ Kp No w wr
def TornO (w : World) (T : List (List UInt8)) (gn M m g7 c7 : Nat) (iv : Value) (wr : World) : Prop :=
  ∃ (i : Nat) (S : List (List UInt8)), i ≤ m ∧ iv = .int .i64 i ∧ S.length = 5 ∧ (∀ k (h : k < S.length), TornS gn M k S[k]) ∧ Rows wr w.heap.size (.slice (some ⟨g7, 0, none⟩) (T.length + 5) c7) (T ++ S) ∧ Kp No w wr
def TornI (w : World) (T : List (List UInt8)) (gn M m i g7 c7 bP gP N cP : Nat) (data : List UInt8) (kv : Value) (wr : World) : Prop :=
  ∃ (k : Nat) (S : List (List UInt8)), k ≤ N ∧ kv = .int .i64 k ∧ S.length = 5 ∧ (∀ j (h : j < S.length), j < k → S[j] = layS ⟨gn, M, j, N, pieceS data j⟩) ∧ (∀ j (h : j < S.length), k ≤ j → TornS gn M j S[j]) ∧ (k = N → i + 1 = m) ∧
    Rows wr w.heap.size (.slice (some ⟨g7, 0, none⟩) (T.length + 5) c7) (T ++ S) ∧ Rows wr bP (.slice (some ⟨gP, 0, none⟩) N cP) (partsS gn M data) ∧ Kp No w wr
theorem torn_all {gn M N k : Nat} {data : List UInt8} {S : List (List UInt8)} (hok : ∀ j, j < N → okPt ⟨gn, M, j, N, pieceS data j⟩) (hk : k < N) (h1 : ∀ j (h : j < S.length), j < k → S[j] = layS ⟨gn, M, j, N, pieceS data j⟩) (h2 : ∀ j (h : j < S.length), k ≤ j → TornS gn M j S[j]) : ∀ j (h : j < S.length), TornS gn M j S[j] := fun j h => by
  by_cases hj : j < k
  · exact .inr ⟨N, pieceS data j, h1 j h hj, hok j (by omega), by omega⟩
  · exact h2 j h (by omega)
set_option maxRecDepth 100000 in
set_option maxHeartbeats 16000000 in
theorem walk (n0 : Int) (v1 : Value) (R : List (List UInt8)) (v2 : Value) (Y : List (List UInt8)) (w : World) (_x0 : -9223372036854775808 ≤ n0 ∧ n0 ≤ 9223372036854775807) (hv : ArgR w v1 R) (_hs : R.length * 24 ≤ reachBytes) (hz : ∀ l ∈ R, l.length ≤ reachBytes) (hy : ArgR w v2 Y) (_hs2 : Y.length * 24 ≤ reachBytes) (hz2 : ∀ l ∈ Y, l.length ≤ reachBytes) :
    Calls Tryd.prog 8 #[.int .i64 n0, v1, v2] w fun e w' => e = .returned (.bool true) ∧ Below w.heap.size w w' := by
  have hll : ∀ l ∈ R, l.length ≤ 140737488355327 := fun l h => by have := hz l h; unfold reachBytes at this; omega
  have hly : ∀ l ∈ Y, l.length ≤ 140737488355327 := fun l h => by have := hz2 l h; unfold reachBytes at this; omega
  have HLL := Lib.hid hll; have HLY := Lib.hid hly; have HV := Lib.hid hv
  obtain ⟨Av, cv, rfl, hcv, hx⟩ := hv.at_
  obtain ⟨Ay, cy, rfl, hcy, hxy⟩ := hy.at_
  have HY := Lib.hid hxy
  clear hx hxy hv hy hll hly hz hz2 _x0 _hs _hs2
  have HMK := Lib.hid mk_64
  go_enter Tryd.func8, Tryd.ntmps8
  go_wp2_with fail
  refine (awake_any _).mono ?_
  rintro e w1 ⟨rfl, k1⟩
  have K1 := Lib.hid k1; clear k1
  by_cases h20 : (20 : Int) < (R.length : Int)
  · have d1 : decide ((20 : Int) < (R.length : Int)) = true := decide_eq_true h20
    go_wp2
    go_ret
    exact ⟨rfl, K1.out.below (Nat.le_refl _) (fun _ _ m => m)⟩
  have d1 : decide ((20 : Int) < (R.length : Int)) = false := decide_eq_false h20
  by_cases h12 : (12 : Int) < (Y.length : Int)
  · have d2 : decide ((12 : Int) < (Y.length : Int)) = true := decide_eq_true h12
    go_wp2
    go_ret
    exact ⟨rfl, K1.out.below (Nat.le_refl _) (fun _ _ m => m)⟩
  have d2 : decide ((12 : Int) < (Y.length : Int)) = false := decide_eq_false h12
  have hR20 : R.length ≤ 20 := by omega
  have hY12 : Y.length ≤ 12 := by omega
  go_wp2_with fail
  refine (packed_any n0 _ R w1 (HV.out.no K1.out) (by omega) HLL.out).mono ?_
  rintro e w2 ⟨k2, hr⟩
  rcases hr with ⟨Ap, cp, rfl, hrows, hsh, hg⟩ | ⟨rfl, hbad⟩
  · have hTl := packL_le n0.toNat R 0 hsh
    have HSH := Lib.hid hsh; have HG := Lib.hid hg; have R2 := Lib.hid (hrows.mono K1.out.size)
    have H64 := Lib.hid (packL_64 n0.toNat R 0 hsh)
    have K2 := Lib.hid (K1.out.trans k2)
    clear hrows hsh hg k2
    generalize hT : packL n0.toNat 0 R = T at hTl R2 H64 ⊢
    have HT := Lib.hid hT; clear hT
    go_wp2
    go_loopw [7, 10] (fun v i wr => ZeroInv w T v i wr) (fun _ i _ => 5 - (intOf i).toNat)
    case atStart => exact ⟨0, by omega, rfl, by simpa using R2.out, ⟨_, _, rfl⟩, K2.out⟩
    case round =>
      obtain ⟨i, hi, rfl, hrw, ⟨A7, c7, rfl⟩, hkw⟩ := hrel
      have HRW := Lib.hid hrw; have HKW := Lib.hid hkw; clear hrw hkw
      by_cases hlt : i < 5
      · have hi5 : (i : Int) < 5 := by omega
        have hmk := HMK.out
        have hbase := HKW.out.size
        have HZ64 := Lib.hid (fun o2 => (OwnB.alloc (ownB_of_bk (B := w.heap.size) (l := zero64S) (Bk.new wr 5 (u8s zero64S)) hbase (by unfold maxLen; simp [zero64S])) o2 : OwnB _ w.heap.size (.slice (some ⟨wr.heap.size, 0, none⟩) 64 64) zero64S))
        go_wp2_with (at_builtin; refine wpList_appR2 _ rfl (.tmp 44) (.tmp 46) rfl w.heap.size _ (T ++ List.replicate i zero64S) rfl (HRW.out.no (((Kp.refl No _).alloc _).alloc _)) _ _ _ rfl zero64S rfl (cs_new (by simp) rfl) (HZ64.out _) (by simp; omega) (by simp; omega) ?_)
        intro A8 c8 w8 r8 f8
        have HK8 : Kp No w w8 := by
          obtain ⟨xs, hoo, _⟩ := (HRW.out.no (((Kp.refl No wr).alloc (.cells (u8s zero64).toArray 5)).alloc (.cells #[.slice (some ⟨wr.heap.size, 0, none⟩) 64 64] 26)))
          exact kp_own hoo ((HKW.out.alloc _).alloc _) f8
        have hn8 : (T ++ List.replicate i zero64S).length + 1 = T.length + (i + 1) := by simp; omega
        have HR8 := Lib.hid r8; have HK8' := Lib.hid HK8; have HN8 := Lib.hid hn8; clear r8 f8 HK8 hn8 hmk
        go_wp2
        go_roundw
        case rel => exact ⟨i + 1, by omega, by go_num, by rw [List.replicate_succ']; exact HR8.out, ⟨_, _, rfl⟩, HK8'.out⟩
        case measure => simp [intOf]; omega
      · obtain rfl : i = 5 := by omega
        have hge : ¬ ((5 : Nat) : Int) < 5 := by omega
        have hra := HRW.out.at_ (by simp)
        obtain ⟨g7, c7', e7, hB7, hjunk⟩ := hra
        clear hjunk
        injection e7 with e7 e7n e8
        clear e7n
        subst e7 e8
        have hg7 : g7 < wr.heap.size := by obtain ⟨cs, hb, _⟩ := HRW.out.bk; exact hb.lt
        go_wp2
        obtain ⟨wo, hwo⟩ : ∃ wo : World, wo = wr := ⟨_, rfl⟩
        subst hwo
        go_loopw [50] (fun i wr => TornO w T n0.toNat R.length Y.length g7 c7 i wr) (fun i _ => Y.length - (intOf i).toNat)
        case atStart => exact ⟨0, List.replicate 5 zero64S, Nat.zero_le _, rfl, by simp, fun k h => by rw [List.getElem_replicate]; exact .inl rfl, HRW.out, HKW.out⟩
        case round =>
          clear HRW HKW
          obtain ⟨i, S, hi, rfl, hS5, hTS, hrs, hkw⟩ := hrel
          have HKW0 := Lib.hid hkw; have HRS0 := Lib.hid hrs; have HTS := Lib.hid hTS
          clear hkw hrs hTS
          have hi0 : (0 : Int) ≤ (i : Int) := by omega
          by_cases hlt : i < Y.length
          · obtain ⟨g, o, a1, k1, rfl, hcx, hax⟩ := HY.out i hlt
            have hcx' := cell_no hcx HKW0.out
            have hik : (i : Int) < (Y.length : Int) := by omega
            have hdl := HLY.out Y[i] (List.getElem_mem hlt)
            obtain ⟨data, hd⟩ : ∃ d, Y[i] = d := ⟨_, rfl⟩
            rw [hd] at hcx' hax hdl
            have HA := Lib.hid hax
            clear hd hcx hax
            go_wp2_with (at_builtin; refine wpList_appB _ rfl (.tmp 59) (.tmp 60) rfl wr.heap.size _ [] rfl (by exact own_fresh wr _ _ (Nat.le_refl _)) _ _ _ data rfl rfl ((HA.out.no (HKW0.out.alloc _)).cs.1) (by simp; omega) (by simp) ?_)
            intro a2 n2 c2 w3 o2 f2 _
            have K3 := Lib.hid (f2 wr (Nat.le_refl _) ((Kp.refl No wr).alloc _))
            obtain ⟨A3, c3, e3, _, hm3⟩ := own_cap o2
            injection e3 with e1 e2 e3
            subst e1 e3
            clear e2
            have HA2 := Lib.hid (own_argB o2); clear o2 f2
            have pk := pack_any n0 (R.length : Int) a2 n2 c2 data w3 HA2.out hm3
            unfold PackA at pk
            by_cases hgg : 1 ≤ n0 ∧ n0 ≤ 1073741824
            · by_cases hl8 : data.length ≤ 188
              · have hp : packS n0 (R.length : Int) data = (partsS n0.toNat R.length data, 0) := by unfold packS; rw [if_neg (by omega), if_neg (by omega)]; rfl
                rw [hp] at pk
                clear hp
                simp only at pk
                have hch := chunk_le hl8
                have hcp := chunk_pos data
                have HOK := Lib.hid (show ∀ j, j < chunkN data → okPt ⟨n0.toNat, R.length, j, chunkN data, pieceS data j⟩ from fun j hj => okPt_piece data (by omega) (by omega) (by omega) hl8 hj)
                have HFULL := Lib.hid (fun (Z : List (List UInt8)) (hz5 : Z.length = 5) => scan_full n0 R Z data HSH.out (by omega) hgg hl8 hz5)
                obtain ⟨N, hN⟩ : ∃ N, chunkN data = N := ⟨_, rfl⟩
                rw [hN] at HOK hch hcp HFULL
                have HN := Lib.hid hN; clear hN
                go_wp2_with fail
                refine pk.mono ?_
                clear pk
                rintro e w4 ⟨vP, rfl, rP, k4⟩
                have hra := rP.at_ (by rw [partsS_length, HN.out]; omega)
                obtain ⟨gP, cP, eP, hBP, hPA⟩ := hra
                rw [partsS_length, HN.out] at eP
                subst eP
                have HRP0 := Lib.hid rP; have HKW4 := Lib.hid (HKW0.out.trans (K3.out.trans k4)); have HRS4 := Lib.hid (HRS0.out.no (K3.out.trans k4))
                have hbP : g7 < w3.heap.size := by
                  obtain ⟨cs, hb, _⟩ := HRS0.out.bk
                  have := hb.lt; have := K3.out.size; omega
                clear rP k4 hPA
                go_wp2
                obtain ⟨wq, hwq⟩ : ∃ wq : World, wq = wr := ⟨_, rfl⟩
                subst hwq
                go_loopw [69] (fun k wr => TornI w T n0.toNat R.length Y.length i g7 c7 w3.heap.size gP N cP data k wr) (fun k _ => 5 - (intOf k).toNat)
                case atStart => exact ⟨0, S, Nat.zero_le _, rfl, hS5, fun j h hj => by omega, fun j h _ => HTS.out j h, fun h => by omega, HRS4.out, HRP0.out, HKW4.out⟩
                case round =>
                  clear HRP0 HKW4 HRS4 HRS0
                  clear HTS hS5
                  clear S
                  obtain ⟨k, S, hk, rfl, hS5, hp1, hp2, hlastk, hrs, hrp, hkw⟩ := hrel
                  have HRS := Lib.hid hrs; have HRP := Lib.hid hrp; have HKW := Lib.hid hkw; have HP1 := Lib.hid hp1; have HP2 := Lib.hid hp2
                  have HPA := Lib.hid (show ∀ i (hi : i < (partsS n0.toNat R.length data).length), ∃ a k, wr.cell? ⟨gP, i, none⟩ = some (.slice a ((partsS n0.toNat R.length data)[i]).length k) ∧ k ≤ maxLen ∧ ArgB wr (.slice a ((partsS n0.toNat R.length data)[i]).length k) ((partsS n0.toNat R.length data)[i]) from fun i hi => by
                    obtain ⟨g', c', e, _, hx⟩ := hrp.at_ (by omega)
                    injection e with e1 _ _
                    injection e1 with e1
                    injection e1 with e1
                    subst e1
                    exact hx i hi)
                  have HLEN := Lib.hid (show ∀ b ∈ T ++ S, b.length ≤ 140737488355327 from fun b hb => by
                    rcases List.mem_append.1 hb with h | h
                    · rw [H64.out b h]; omega
                    · obtain ⟨j, hj, e⟩ := List.mem_iff_getElem.1 h
                      by_cases hjk : j < k
                      · rw [← e, hp1 j hj hjk, layS_length _ (by simp [pieceS]; omega)]; omega
                      · rcases hp2 j hj (by omega) with h0 | ⟨N', d', h0, ok, _⟩
                        · rw [← e, h0]; decide
                        · rw [← e, h0, layS_length _ (by have := ok.2.2.2.2.2.1; simp only at this ⊢; omega)]; omega)
                  clear hrs hrp hkw hp1 hp2
                  have hk0 : (0 : Int) ≤ (k : Int) := by omega
                  by_cases hkN : k < N
                  · have hkI : (k : Int) < (N : Int) := by omega
                    have HSCN := Lib.hid (show scanS (T ++ S) n0 = (R, T.length) by rw [← HT.out]; exact scan_torn n0 R S HSH.out (by omega) HG.out hS5 (torn_all HOK.out hkN HP1.out HP2.out))
                    go_wp2_with fail
                    refine (own_any (.slice (some ⟨g7, 0, none⟩) (T.length + 5) c7) (T ++ S) wr (HRS.out.arg) (by rw [List.length_append]; omega) HLEN.out).mono ?_
                    rintro e w5 ⟨u, rfl, r5, k5⟩
                    have K5 := Lib.hid k5; have R5 := Lib.hid r5; clear k5 r5
                    go_wp2_with fail
                    refine (scan_as u n0 (T ++ S) R T.length HSCN.out w5 R5.out.cap (by rw [List.length_append]; omega)).mono ?_
                    rintro e w6 ⟨v6, rfl, r6, k6⟩
                    have K6 := Lib.hid (K5.out.trans k6); have R6 := Lib.hid r6; clear k6 r6
                    go_wp2_with fail
                    refine (sameAll_eq v6 _ R R true w6 R6.out.arg (HV.out.no (HKW.out.trans K6.out)) (by omega) (by simp)).mono ?_
                    rintro e w7 ⟨rfl, k7⟩
                    have K7 := Lib.hid (K6.out.trans k7); clear k7 K5 R5 R6 K6
                    by_cases hkl : k + 1 = N
                    · have e1 : ((k : Int) == (N : Int) - 1) = true := by rw [beq_iff_eq]; omega
                      by_cases hil : i + 1 = Y.length
                      · have e2 : decide ((i : Int) < (Y.length : Int) - 1) = false := decide_eq_false (by omega)
                        have hpl : (partsS n0.toNat R.length data).length = N := by rw [partsS_length]; exact HN.out
                        obtain ⟨ap, kp, hcp, hmp, hap⟩ := HPA.out k (by omega)
                        have hcp7 := cell_no hcp K7.out
                        have hcp7a := cell_no hcp7 ((Kp.refl No w7).alloc (.cells #[] 5))
                        have h64 : ((partsS n0.toNat R.length data)[k]'(by omega)) = layS ⟨n0.toNat, R.length, k, N, pieceS data k⟩ := by simp [partsS, HN.out]
                        have hl64 : (layS ⟨n0.toNat, R.length, k, N, pieceS data k⟩).length = 64 := layS_length _ (by simp [pieceS]; omega)
                        rw [h64, hl64] at hcp7 hcp7a
                        rw [h64, hl64] at hap
                        have hap7 := hap.no K7.out
                        obtain ⟨pk, hpk⟩ : ∃ pk, layS ⟨n0.toNat, R.length, k, N, pieceS data k⟩ = pk := ⟨_, rfl⟩
                        rw [hpk] at hap7 hl64
                        have HPK := Lib.hid hpk; have HAP := Lib.hid hap7; have HL64 := Lib.hid hl64
                        clear hpl hcp hap hap7 h64 hpk hl64
                        have hTk : ((T.length : Int) + (k : Int)).toNat = T.length + k := by omega
                        have hTk0 : (0 : Int) ≤ (T.length : Int) + (k : Int) := by omega
                        have hTk1 : (T.length : Int) + (k : Int) < ((T.length + 5 : Nat) : Int) := by omega
                        have hkN2 : (k : Int) < (N : Int) := by omega
                        go_wp2_with (at_builtin; refine wpList_appB _ rfl (.tmp 104) (.tmp 108) rfl w7.heap.size _ [] rfl (by exact own_fresh w7 _ _ (Nat.le_refl _)) _ _ _ pk rfl HL64.out ((HAP.out.no ((Kp.refl No _).alloc _)).cs.1) (by simp) (by simp) ?_)
                        intro a8 n8 c8 w8 o8 f8 _
                        have K8 := Lib.hid (K7.out.trans (f8 w7 (Nat.le_refl _) ((Kp.refl No w7).alloc _)))
                        have O8 := Lib.hid (OwnB.mono o8 (show w.heap.size ≤ w7.heap.size from (HKW.out.trans K7.out).size)); clear o8 f8
                        have R8 := Lib.hid (HRS.out.no K8.out); have P8 := Lib.hid (HRP.out.no K8.out)
                        obtain ⟨cs7, hb7, hc7⟩ := R8.out.bk
                        obtain ⟨x7, hx7⟩ := hc7 (T.length + k) (by rw [List.length_append]; omega)
                        have hcell : w8.cell? ⟨g7, T.length + k, none⟩ = some x7 := by rw [hb7.cell]; exact hx7
                        have hfrz := hb7.frozen (T.length + k)
                        have hs := R8.out.set (i := T.length + k) (by rw [List.length_append]; omega) O8.out
                        obtain ⟨hs1, hs2, hs3, hs4⟩ := hs
                        rw [List.set_append_right _ _ (by omega), show T.length + k - T.length = k by omega] at hs1
                        have HS1 := Lib.hid hs1; have HS2 := Lib.hid hs2
                        clear hs1 hs2 hb7 hc7 hx7
                        go_wp2
                        go_roundw
                        case rel =>
                          refine ⟨k + 1, S.set k pk, by omega, by go_num, by rw [List.length_set]; exact hS5, ?_, ?_, ?_, HS1.out, ?_, (HKW.out.trans K8.out).set (.inr hs3) _ _⟩
                          · intro j h hj
                            by_cases hjk : k = j
                            · subst hjk; rw [List.getElem_set_self]; exact HPK.out.symm
                            · rw [List.getElem_set_ne hjk]; exact HP1.out j (by simpa using h) (by omega)
                          · intro j h hj
                            rw [List.getElem_set_ne (by omega)]; exact HP2.out j (by simpa using h) (by omega)
                          · exact fun _ => hil
                          · exact P8.out.kp HS2.out (fun gg cs hgg _ h1 => by have : gg = g7 := h1; omega)
                        case measure => simp [intOf]; omega
                      · have e2 : decide ((i : Int) < (Y.length : Int) - 1) = true := decide_eq_true (by omega)
                        have e3 : ((i : Int) == (Y.length : Int) - 1) = false := by rw [beq_eq_false_iff_ne]; omega
                        go_wp2
                        go_roundw
                        case rel => exact ⟨i + 1, S, by omega, by go_num, hS5, torn_all HOK.out hkN HP1.out HP2.out, HRS.out.no K7.out, HKW.out.trans K7.out⟩
                        case measure => simp [intOf]; omega
                    · have e1 : ((k : Int) == (N : Int) - 1) = false := by rw [beq_eq_false_iff_ne]; omega
                      have hpl : (partsS n0.toNat R.length data).length = N := by rw [partsS_length]; exact HN.out
                      obtain ⟨ap, kp, hcp, hmp, hap⟩ := HPA.out k (by omega)
                      have hcp7 := cell_no hcp K7.out
                      have hcp7a := cell_no hcp7 ((Kp.refl No w7).alloc (.cells #[] 5))
                      have h64 : ((partsS n0.toNat R.length data)[k]'(by omega)) = layS ⟨n0.toNat, R.length, k, N, pieceS data k⟩ := by simp [partsS, HN.out]
                      have hl64 : (layS ⟨n0.toNat, R.length, k, N, pieceS data k⟩).length = 64 := layS_length _ (by simp [pieceS]; omega)
                      rw [h64, hl64] at hcp7 hcp7a
                      rw [h64, hl64] at hap
                      have hap7 := hap.no K7.out
                      obtain ⟨pk, hpk⟩ : ∃ pk, layS ⟨n0.toNat, R.length, k, N, pieceS data k⟩ = pk := ⟨_, rfl⟩
                      rw [hpk] at hap7 hl64
                      have HPK := Lib.hid hpk; have HAP := Lib.hid hap7; have HL64 := Lib.hid hl64
                      clear hpl hcp hap hap7 h64 hpk hl64
                      have hTk : ((T.length : Int) + (k : Int)).toNat = T.length + k := by omega
                      have hTk0 : (0 : Int) ≤ (T.length : Int) + (k : Int) := by omega
                      have hTk1 : (T.length : Int) + (k : Int) < ((T.length + 5 : Nat) : Int) := by omega
                      have hkN2 : (k : Int) < (N : Int) := by omega
                      go_wp2_with (at_builtin; refine wpList_appB _ rfl (.tmp 104) (.tmp 108) rfl w7.heap.size _ [] rfl (by exact own_fresh w7 _ _ (Nat.le_refl _)) _ _ _ pk rfl HL64.out ((HAP.out.no ((Kp.refl No _).alloc _)).cs.1) (by simp) (by simp) ?_)
                      intro a8 n8 c8 w8 o8 f8 _
                      have K8 := Lib.hid (K7.out.trans (f8 w7 (Nat.le_refl _) ((Kp.refl No w7).alloc _)))
                      have O8 := Lib.hid (OwnB.mono o8 (show w.heap.size ≤ w7.heap.size from (HKW.out.trans K7.out).size)); clear o8 f8
                      have R8 := Lib.hid (HRS.out.no K8.out); have P8 := Lib.hid (HRP.out.no K8.out)
                      obtain ⟨cs7, hb7, hc7⟩ := R8.out.bk
                      obtain ⟨x7, hx7⟩ := hc7 (T.length + k) (by rw [List.length_append]; omega)
                      have hcell : w8.cell? ⟨g7, T.length + k, none⟩ = some x7 := by rw [hb7.cell]; exact hx7
                      have hfrz := hb7.frozen (T.length + k)
                      have hs := R8.out.set (i := T.length + k) (by rw [List.length_append]; omega) O8.out
                      obtain ⟨hs1, hs2, hs3, hs4⟩ := hs
                      rw [List.set_append_right _ _ (by omega), show T.length + k - T.length = k by omega] at hs1
                      have HS1 := Lib.hid hs1; have HS2 := Lib.hid hs2
                      clear hs1 hs2 hb7 hc7 hx7
                      go_wp2
                      go_roundw
                      case rel =>
                        refine ⟨k + 1, S.set k pk, by omega, by go_num, by rw [List.length_set]; exact hS5, ?_, ?_, ?_, HS1.out, ?_, (HKW.out.trans K8.out).set (.inr hs3) _ _⟩
                        · intro j h hj
                          by_cases hjk : k = j
                          · subst hjk; rw [List.getElem_set_self]; exact HPK.out.symm
                          · rw [List.getElem_set_ne hjk]; exact HP1.out j (by simpa using h) (by omega)
                        · intro j h hj
                          rw [List.getElem_set_ne (by omega)]; exact HP2.out j (by simpa using h) (by omega)
                        · exact fun h => absurd h hkl
                        · exact P8.out.kp HS2.out (fun gg cs hgg _ h1 => by have : gg = g7 := h1; omega)
                      case measure => simp [intOf]; omega
                  · obtain rfl : k = N := by omega
                    have hil := hlastk rfl
                    have e3 : ((i : Int) == (Y.length : Int) - 1) = true := by rw [beq_iff_eq]; omega
                    have hge : ¬ (k : Int) < (k : Int) := by omega
                    have HSCN := Lib.hid (show scanS (T ++ S) n0 = (R ++ [data], T.length + k) by
                      rw [← HT.out]
                      exact HFULL.out S hS5 HP1.out HP2.out)
                    go_wp2_with fail
                    refine (own_any (.slice (some ⟨g7, 0, none⟩) (T.length + 5) c7) (T ++ S) wr (HRS.out.arg) (by rw [List.length_append]; omega) HLEN.out).mono ?_
                    rintro e w5 ⟨u, rfl, r5, k5⟩
                    have K5 := Lib.hid k5; have R5 := Lib.hid r5; clear k5 r5
                    go_wp2_with fail
                    refine (scan_as u n0 (T ++ S) (R ++ [data]) (T.length + k) HSCN.out w5 R5.out.cap (by rw [List.length_append]; omega)).mono ?_
                    rintro e w6 ⟨v6, rfl, r6, k6⟩
                    have K6 := Lib.hid (K5.out.trans k6); have R6 := Lib.hid r6; clear k6 r6
                    obtain ⟨g9, c9, e9, hB9, hx9⟩ := R6.out.at_ (by simp)
                    have hlen9 : (R ++ [data]).length = R.length + 1 := by simp
                    obtain ⟨ad, kd, hcd, hmd, had⟩ := hx9 R.length (by simp)
                    have hel : (R ++ [data])[R.length]'(by simp) = data := by simp
                    rw [hel] at hcd had
                    have har := R6.out.arg
                    rw [e9] at har
                    have hat := har.take R.length (by simp)
                    rw [List.take_left' rfl] at hat
                    rw [hlen9] at e9
                    subst e9
                    have sx : ∀ m, (convert 26 9 (.slice ad data.length kd)).run Tryd.prog (w6.drewN m) = .ok (.string ⟨data.toArray⟩) (w6.drewN m) := fun m => (had.no (drewN_no w6 m)).str _ 5 _ Tryd.underlying26 Tryd.underlying5 Tryd.underlying9
                    have sy : ∀ m, (convert 26 9 (.slice a1 data.length k1)).run Tryd.prog (w6.drewN m) = .ok (.string ⟨data.toArray⟩) (w6.drewN m) := fun m => ((HA.out.no (HKW.out.trans K6.out)).no (drewN_no w6 m)).str _ 5 _ Tryd.underlying26 Tryd.underlying5 Tryd.underlying9
                    have qs : ∀ n, Calls Tryd.prog 14 #[.slice (some ⟨g9, 0, none⟩) R.length c9, .slice Av R.length cv] (w6.drewN n) fun e w' => e = .returned (.bool true) ∧ ∃ m, w' = w6.drewN m := fun n => by
                      refine (sameAll_any _ _ R R (w6.drewN n) (hat.no (drewN_no w6 n)) ((HV.out.no (HKW.out.trans K6.out)).no (drewN_no w6 n)) rfl (by omega)).mono ?_
                      rintro e w' ⟨h1, m, h2⟩
                      rw [decide_eq_true rfl] at h1
                      exact ⟨h1, _, h2.trans (World.drewN_drewN w6 n m)⟩
                    have i1 : (0 : Int) ≤ (R.length : Int) := by omega
                    have i2 : (R.length : Int) < ((R.length + 1 : Nat) : Int) := by omega
                    have i3 : (R.length : Int) ≤ (c9 : Int) := by
                      have := har
                      obtain ⟨_, c', _, e, hcc, _⟩ := this
                      injection e with _ _ e3
                      subst e3
                      rw [hlen9] at hcc
                      omega
                    have s1 : IntKind.i64.wrap ((R.length : Int) + 1) = (R.length : Int) + 1 := IntWalk.i64_in _ (by omega)
                    have s2 : IntKind.i64.wrap ((T.length : Int) + (k : Int)) = (T.length : Int) + (k : Int) := IntWalk.i64_in _ (by omega)
                    have HK6 := Lib.hid (HKW.out.trans K6.out)
                    clear har hat had hx9 hel hlen9 R6 K6 K5 R5
                    go_wp2_with fail
                    go_quiet ((go_at_call 14; exact qs _))
                    go_wp2
                    go_ret
                    exact ⟨rfl, (HK6.out.drewN _).below (Nat.le_refl _) (fun _ _ m => m)⟩
              · have hp : packS n0 (R.length : Int) data = ([], 41) := by unfold packS; rw [if_neg (by omega), if_pos (by omega)]
                rw [hp] at pk
                clear hp
                simp only at pk
                go_wp2_with fail
                refine pk.mono ?_
                clear pk
                rintro e w4 ⟨vP, rfl, rP, k4⟩
                have K4 := Lib.hid (K3.out.trans k4); clear k4 rP
                go_wp2
                go_roundw
                case rel => exact ⟨i + 1, S, by omega, by go_num, hS5, HTS.out, HRS0.out.no K4.out, HKW0.out.trans K4.out⟩
                case measure => simp [intOf]; omega
            · have hp : packS n0 (R.length : Int) data = ([], 2) := by unfold packS; rw [if_pos (by omega)]
              rw [hp] at pk
              clear hp
              simp only at pk
              go_wp2_with fail
              refine pk.mono ?_
              clear pk
              rintro e w4 ⟨vP, rfl, rP, k4⟩
              have K4 := Lib.hid (K3.out.trans k4); clear k4 rP
              go_wp2
              go_roundw
              case rel => exact ⟨i + 1, S, by omega, by go_num, hS5, HTS.out, HRS0.out.no K4.out, HKW0.out.trans K4.out⟩
              case measure => simp [intOf]; omega
          · have hge2 : ¬ (i : Int) < (Y.length : Int) := by omega
            go_wp2
            go_ret
            exact ⟨rfl, HKW0.out.below (Nat.le_refl _) (fun _ _ m => m)⟩
  · go_wp2
    go_ret
    exact ⟨rfl, (K1.out.trans k2).below (Nat.le_refl _) (fun _ _ m => m)⟩

set_option maxRecDepth 100000 in
theorem lifted (os : Os) (started : os.Started) (H : Type) (enc : TypeId × Value → H) :
    ReturnsInHanded {} Tryd.checked os 8 .any (fun w args => (Rows.sectorsTornSpec.pre enc Tryd.prog Tryd.f8 Rows.sectorsTornRow.domain false w args ∧ laidMetH Tryd.prog [("unicode/utf8.acceptRanges", Rows.laid_unicode_utf8_acceptRanges), ("unicode/utf8.first", Rows.laid_unicode_utf8_first)] w) ∧ sizedMet enc Tryd.prog Tryd.f8 (OpenSpec.ofChange Rows.sectorsTornSpec) false w args)
      (Rows.sectorsTornSpec.post enc Tryd.prog Tryd.f8 false true false false) := by
  refine returnsInHanded_and_shaped (C := Tryd.checked) (X := (fun w _ => laidMetH Tryd.prog [("unicode/utf8.acceptRanges", Rows.laid_unicode_utf8_acceptRanges), ("unicode/utf8.first", Rows.laid_unicode_utf8_first)] w)) (fun _ _ _ hh h => h.of_heap hh) own started (by kernel_rfl) Tryd.func8
    (ChangeSpec.witness_shaped (enc := enc) (C := Tryd.checked) (os := os) (X := (fun w _ => laidMetH Tryd.prog [("unicode/utf8.acceptRanges", Rows.laid_unicode_utf8_acceptRanges), ("unicode/utf8.first", Rows.laid_unicode_utf8_first)] w)) false (World.laidAll Tryd.prog os [("unicode/utf8.acceptRanges", Rows.laid_unicode_utf8_acceptRanges), ("unicode/utf8.first", Rows.laid_unicode_utf8_first)]) #[.int .i64 0, .slice none 0 0, .slice none 0 0] 8 (World.laidAll_os _ _ _)
      (World.shaped_of_ZipB (by kernel_rfl) (by kernel_rfl)) (by kernel_rfl) (by kernel_rfl) (by kernel_rfl)
      (by rw [MakeChecks.laidMetH_plain _ _ _ (by kernel_rfl)]; exact laidMet_laidAll _ (by kernel_rfl) (by kernel_rfl))) ?_
  intro W base args ds gs before hval0 hW hcnd hsz0 hL hsh _
  have hval : ∀ (j : Nat) t v, Tryd.f8.params[j]? = some t → args[j]? = some v → Value.okWide Tryd.prog W .any base t v := hval0
  have hW' := hW
  obtain ⟨p, q, hA0, hV, rfl, hfz, hnd⟩ := hW
  have hA : DataW.TrodAll enc Tryd.prog W 0 (fun _ => true) true Tryd.f8.params.toList args.toList ds p := hA0
  rw [Tryd.params8] at hA hval
  obtain ⟨v0, vs0, d0, ds0, p0, q0, hargs, rfl, rfl, h0, r0⟩ := trodAll_cons hA
  obtain ⟨v1, vs1, d1, ds1, p1, q1, rfl, rfl, rfl, h1, r1⟩ := trodAll_cons r0
  obtain ⟨v2, vs2, d2, ds2, p2, q2, rfl, rfl, rfl, h2, r2⟩ := trodAll_cons r1
  obtain ⟨rfl, rfl, rfl⟩ := trodAll_nil r2
  obtain rfl : args = #[v0, v1, v2] := by cases args; simp_all
  obtain ⟨rfl, rfl⟩ := trodVars_none hV
  have hsz : ∀ (j : Nat) (t : TypeId) (d : DataW H), ([3, 22, 22] : List TypeId)[j]? = some t → [d0, d1, d2][j]? = some d → ∀ n ∈ d.weights Tryd.prog t, n ≤ reachBytes := by
    intro j t d ht hd n hn
    have hsz1 : (DataW.weightsEach Tryd.prog ([3, 22, 22] : List TypeId) [d0, d1, d2]).all (· ≤ reachBytes) = true := hsz0
    have := List.all_eq_true.1 hsz1 n (DataW.weights_mem_each ht hd n hn)
    simpa using this
  have k0 := h0
  have lt0 : ∀ x ∈ p0, x.block < W.heap.size := by obtain ⟨m, hm⟩ := k0; exact DataW.trod_lt m _ _ _ hm
  obtain ⟨n0, rfl, rfl, rfl, x0⟩ := open_int Tryd.underlying3 (hval 0 3 v0 rfl rfl) h0
  have k1 := h1
  have lt1 : ∀ x ∈ p1, x.block < W.heap.size := by obtain ⟨m, hm⟩ := k1; exact DataW.trod_lt m _ _ _ hm
  obtain ⟨L1, a1, s1, z1⟩ := open_rowsR Tryd.underlying22 Tryd.underlying26 Tryd.underlying5 (by kernel_rfl) (by kernel_rfl) (by kernel_rfl) (by kernel_rfl) (hval 1 22 v1 rfl rfl) h1 (hsz 1 22 _ rfl rfl)
  have k2 := h2
  have lt2 : ∀ x ∈ p2, x.block < W.heap.size := by obtain ⟨m, hm⟩ := k2; exact DataW.trod_lt m _ _ _ hm
  obtain ⟨L2, a2, s2, z2⟩ := open_rowsR Tryd.underlying22 Tryd.underlying26 Tryd.underlying5 (by kernel_rfl) (by kernel_rfl) (by kernel_rfl) (by kernel_rfl) (hval 2 22 v2 rfl rfl) h2 (hsz 2 22 _ rfl rfl)
  refine (walk n0 v1 L1 v2 L2 W (bounds_i64 x0) a1 s1 z1 a2 s2 z2).mono fun e W' ⟨he, bel⟩ => ?_
  subst he
  exact ⟨_, rfl, _, _, _, [], _, [], hW', trodAll_mk1 (shut_bool Tryd.underlying4 _), (trodAll_cons_mk (Below.trod laidOut (by kernel_rfl) (of_decide_eq_true (by kernel_rfl)) k0 bel lt0) (trodAll_cons_mk (Below.trod laidOut (by kernel_rfl) (of_decide_eq_true (by kernel_rfl)) k1 bel lt1) (trodAll_cons_mk (Below.trod laidOut (by kernel_rfl) (of_decide_eq_true (by kernel_rfl)) k2 bel lt2) trodAll_mk0))), rfl, bel.frame _, fun h => by cases h⟩

theorem over : Rows.sectorsTornRow.holds Tryd.pinned (OpenSpec.ofChange Rows.sectorsTornSpec) :=
  OpenClaim.holds_of_wide 8 Tryd.f8 rfl rfl rfl rfl rfl rfl rfl ⟨rfl, rfl, rfl, rfl, rfl⟩ rfl rfl rfl rfl rfl (by kernel_rfl) Tryd.func8 (by kernel_rfl)
    (of_decide_eq_true (by kernel_rfl)) (by unfold Func.isWrapper; first | (rw [if_pos (by decide +kernel)]; kernel_rfl) | (rw [if_neg (by decide +kernel)]; exact ⟨rfl, rfl⟩))
    (fun os started H enc _ => lifted os started H enc)

theorem proved : Rows.SectorsTornCardSaid :=
  Claim7.holds_tied_plain_at .later [] [.data, .pinned] true (true, "dc3eabe4416708f3bf80b9d2489c313fb0226dd42c19edfe3363a148024dce7c") true over (fun _ h => by cases h) (by kernel_rfl) (fun _ h => by cases h) sectorsTorn_row_tie rfl ⟨rfl, rfl⟩ (by kernel_rfl) rfl
    (fun f fn hf hfn => by
      obtain rfl : f = 8 := Option.some.inj ((show Tryd.prog.funcNamed "sublet/subletlaw10.SectorsTorn" = some 8 by kernel_rfl).symm.trans hf) |>.symm
      obtain rfl : fn = Tryd.f8 := (Option.some.inj (Tryd.func8.symm.trans hfn)).symm
      exact ⟨by kernel_rfl, fun j t ht => by
        rw [Tryd.params8] at ht
        have hm : t ∈ ([3, 22, 22] : List TypeId) := by simpa using Array.mem_of_getElem? ht
        have hall : (([3, 22, 22] : List TypeId).all fun u => !Tryd.prog.wantsStandIn u) = true := by kernel_rfl
        exact (show Tryd.prog.wantsStandIn t = false by simpa using List.all_eq_true.1 hall t hm)⟩)
    (by kernel_rfl)
#print axioms proved
end Go.Proofs.YthncnkkpfcbkfaaDoor.sectorsTorn
