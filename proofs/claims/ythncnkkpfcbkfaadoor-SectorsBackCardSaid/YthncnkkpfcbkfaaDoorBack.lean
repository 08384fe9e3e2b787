/- SectorsBack returns true for any generation, records and bytes behind: packed records are scanned to just these records, whatever stands behind them. No condition. -/
import Derived.Test.YthncnkkpfcbkfaaDoorSj
import Derived.Test.YthncnkkpfcbkfaaDoorCards
import Derived.Test.YthncnkkpfcbkfaaDoorRp
import Derived.Test.YthncnkkpfcbkfaaDoorSr
import Derived.Test.YthncnkkpfcbkfaaDoorPd
namespace Go.Proofs.YthncnkkpfcbkfaaDoor.sectorsBack
open Go.ChangeShapes Go.WideShapes Go.ChangeAt Go.RowKit Go.PlainAid
open Go.ChangeMaps (open_string shut_string)

theorem own : ownKnob Tryd.prog.godebug = none := by kernel_rfl
theorem laidOut : laidOutB Tryd.prog = true := by kernel_rfl
theorem scanF_len {L : List (List UInt8)} {gen : Int} : ∀ (f used : Nat) (recs : List (List UInt8)), recs.length ≤ used → used ≤ L.length → (scanF L gen f used recs).1.length ≤ L.length
  | 0, used, recs, h1, h2 => by show recs.length ≤ _; omega
  | f + 1, used, recs, h1, h2 => by
    unfold scanF
    cases ho : oneS L gen used recs.length with
    | none => show recs.length ≤ _; omega
    | some dn =>
      obtain ⟨d, n⟩ := dn
      have := oneS_some ho
      exact scanF_len f (used + n) (recs ++ [d]) (by simp; omega) (by omega)
theorem scanS_len (L : List (List UInt8)) (gen : Int) : (scanS L gen).1.length ≤ L.length := scanF_len _ _ _ (Nat.le_refl _) (Nat.zero_le _)
theorem scan_as (lv : Value) (gen : Int) (L P : List (List UInt8)) (us : Nat) (hp : scanS L gen = (P, us)) (w : World) (hl : CapR w lv L) (hL : (L.length + 1) * 24 ≤ 140737488355328) :
    Calls Tryd.prog 18 #[lv, .int .i64 gen] w fun e w' => ∃ v, e = .returned (.tuple #[v, .int .i64 (us : Int)]) ∧ Rows w' w.heap.size v P ∧ Kp No w w' := by
  refine (scan_any lv gen L w hl hL).mono ?_
  rintro e w' ⟨v, h1, h2, h3⟩
  rw [hp] at h1 h2
  exact ⟨v, h1, h2, h3⟩
theorem rscan_as (lv : Value) (gen : Int) (L P : List (List UInt8)) (us : Nat) (hp : scanS L gen = (P, us)) (w : World) (hl : ArgR w lv L) (hL : (L.length + 1) * 24 ≤ 140737488355328) :
    Calls Tryd.prog 20 #[lv, .int .i64 gen] w fun e w' => ∃ v, e = .returned (.tuple #[v, .int .i64 (us : Int)]) ∧ Rows w' w.heap.size v P ∧ Kp No w w' := by
  refine (rscan_any lv gen L w hl hL).mono ?_
  rintro e w' ⟨v, h1, h2, h3⟩
  rw [hp] at h1 h2
  exact ⟨v, h1, h2, h3⟩
theorem packL_at (gen : Nat) (L : List (List UInt8)) (k j : Nat) (hk : k < L.length) (hj : j < chunkN L[k]) : (packL gen 0 L)[(packL gen 0 (L.take k)).length + j]? = some (layS ⟨gen, k, j, chunkN L[k], pieceS L[k] j⟩) := by
  have e : L = L.take k ++ (L[k] :: L.drop (k + 1)) := by rw [List.getElem_cons_drop]; exact (List.take_append_drop k L).symm
  have h : packL gen 0 L = packL gen 0 (L.take k) ++ (partsS gen k L[k] ++ packL gen (k + 1) (L.drop (k + 1))) := by
    conv => lhs; rw [e]
    rw [packL_split]
    have ht : (L.take k).length = k := by rw [List.length_take]; omega
    rw [ht, Nat.zero_add]
    rfl
  rw [h, List.getElem?_append_right (by omega), show (packL gen 0 (L.take k)).length + j - (packL gen 0 (L.take k)).length = j by omega, List.getElem?_append_left (by rw [partsS_length]; exact hj)]
  simp [partsS, hj]
theorem packL_take_succ (gen : Nat) (L : List (List UInt8)) (k : Nat) (hk : k < L.length) : (packL gen 0 (L.take (k + 1))).length = (packL gen 0 (L.take k)).length + chunkN L[k] := by
  rw [List.take_succ_eq_append_getElem hk, packL_snoc, List.length_append, partsS_length]
theorem packL_take_le (gen : Nat) (L : List (List UInt8)) (k : Nat) : (packL gen 0 (L.take k)).length ≤ (packL gen 0 L).length := by
  conv => rhs; rw [← List.take_append_drop k L, packL_split]
  rw [List.length_append]; omega
theorem packL_64 (gen : Nat) : ∀ (r : List (List UInt8)) (s : Nat), (∀ d ∈ r, d.length ≤ 188) → ∀ b ∈ packL gen s r, b.length = 64
  | [], _, _, b, hb => by simp [packL] at hb
  | d :: r, s, h, b, hb => by
    simp only [packL] at hb
    rcases List.mem_append.1 hb with hb | hb
    · simp only [partsS, List.mem_map, List.mem_range] at hb
      obtain ⟨i, hi, rfl⟩ := hb
      refine layS_length _ ?_
      simp [pieceS]; omega
    · exact packL_64 gen r (s + 1) (fun e he => h e (List.mem_cons_of_mem _ he)) b hb
/-- Look at a sector that was packed -/
theorem look_lay (gen : Int) (k j N : Nat) (x : List UInt8) (hg : 0 ≤ gen) (ok : okPt ⟨gen.toNat, k, j, N, x⟩) (A : Option Addr) (n c : Nat) (W : World) (hv : ArgB W (.slice A n c) (layS ⟨gen.toNat, k, j, N, x⟩)) (hm : c ≤ maxLen) :
    Calls Tryd.prog 15 #[.slice A n c] W fun e w' => ∃ Ad cd, e = .returned (.tuple #[.agg #[.int .i64 gen, .int .i64 (k : Int), .int .i64 (j : Int), .int .i64 (N : Int), .slice Ad x.length cd], .int .i64 0]) ∧ Kp No W w' ∧ OwnB w' W.heap.size (.slice Ad x.length cd) x := by
  refine (look_any A n c _ W hv hm).mono ?_
  rintro e w' ⟨hk, hr⟩
  rw [lookS_layS _ ok] at hr
  obtain ⟨dv, rfl, hd⟩ := hr
  obtain ⟨Ad, cd, hdv, _⟩ := own_len hd
  subst hdv
  refine ⟨Ad, cd, ?_, hk, hd⟩
  have e : ((gen.toNat : Nat) : Int) = gen := by omega
  show Ending.returned (.tuple #[.agg #[.int .i64 ((gen.toNat : Nat) : Int), .int .i64 (k : Int), .int .i64 (j : Int), .int .i64 (N : Int), .slice Ad x.length cd], .int .i64 0]) = _
  rw [e]
theorem pieces_take (l : List UInt8) (j : Nat) : l.take (47 * (j + 1)) = l.take (47 * j) ++ pieceS l j := by
  rw [show 47 * (j + 1) = 47 * j + 47 by omega, List.take_add]; rfl
/-- what the outer loop keeps -/
def BackOut (w : World) (gen : Nat) (L : List (List UInt8)) (atv iv : Value) (wr : World) : Prop :=
  ∃ k t : Nat, k ≤ L.length ∧ iv = .int .i64 k ∧ atv = .int .i64 (t : Int) ∧ t = (packL gen 0 (L.take k)).length ∧ Kp No w wr
/-- what the inner loop keeps -/
def BackIn (w : World) (base N : Nat) (d : List UInt8) (atv dv nv jv : Value) (wr : World) : Prop :=
  ∃ (j t : Nat) (A : Option Addr) (c : Nat) (dj : List UInt8), j ≤ N ∧ jv = .int .i64 j ∧ atv = .int .i64 (t : Int) ∧ t = base + j ∧ (j = 0 ∧ nv = .int .i64 1 ∨ 0 < j ∧ nv = .int .i64 (N : Int)) ∧ dv = .slice A dj.length c ∧ dj = d.take (47 * j) ∧ OwnB wr w.heap.size dv dj ∧ Kp No w wr
/-- Look at any bytes, its answer in one form -/
theorem look_uni (l : List UInt8) (A : Option Addr) (n c : Nat) (W : World) (hv : ArgB W (.slice A n c) l) (hm : c ≤ maxLen) :
    Calls Tryd.prog 15 #[.slice A n c] W fun e w' => ∃ (gn sq ix pr er : Int) (Ad : Option Addr) (nd cd : Nat), e = .returned (.tuple #[.agg #[.int .i64 gn, .int .i64 sq, .int .i64 ix, .int .i64 pr, .slice Ad nd cd], .int .i64 er]) ∧ Kp No W w' ∧ (∀ p, lookS l = some p → er = 0 ∧ gn = p.gen ∧ sq = p.seq) := by
  refine (look_any A n c _ W hv hm).mono ?_
  rintro e w' ⟨hk, hr⟩
  cases hlo : lookS l with
  | none =>
    rw [hlo] at hr
    subst hr
    exact ⟨0, 0, 0, 0, 43, none, 0, 0, rfl, hk, fun p h => by cases h⟩
  | some p =>
    rw [hlo] at hr
    obtain ⟨dv, rfl, hd⟩ := hr
    obtain ⟨Ad, cd, hdv, _⟩ := own_len hd
    subst hdv
    exact ⟨p.gen, p.seq, p.idx, p.parts, 0, Ad, p.data.length, cd, rfl, hk, fun q h => by injection h with h; subst h; exact ⟨rfl, rfl, rfl⟩⟩
def HitB (er gn sq n0 : Int) (m : Nat) (s : Value) : Prop := s = .bool (decide (er = 0 ∧ gn = n0 ∧ sq = (m : Int)))
theorem scan_behind (gen : Int) (L : List (List UInt8)) (b : List UInt8) (hsh : ∀ d ∈ L, d.length ≤ 188) (hl : L.length ≤ 40) (hg : L = [] ∨ 1 ≤ gen ∧ gen ≤ 1073741824) (hb : ∀ p, lookS b = some p → ¬ ((p.gen : Int) = gen ∧ p.seq = L.length)) :
    scanS (packL gen.toNat 0 L ++ [b]) gen = (L, (packL gen.toNat 0 L).length) := by
  have hp : ∀ (pre : List (List UInt8)), partS (pre ++ [b]) gen pre.length L.length 0 0 = none := fun pre => by
    unfold partS
    rw [List.getElem?_append_right (Nat.le_refl _), Nat.sub_self]
    simp only [List.getElem?_cons_zero]
    cases h : lookS b with
    | none => rfl
    | some p => simp only; rw [if_neg (fun hh => hb p h ⟨hh.1, hh.2.1⟩)]
  rcases hg with rfl | hg
  · have h1 : oneS ([] ++ [b]) gen 0 0 = none := oneS_none (hp [])
    exact scan_stop (L := [] ++ [b]) (used := 0) (recs := []) rfl (by simp) h1
  · have e : ((gen.toNat : Nat) : Int) = gen := by omega
    have h := scanS_packL gen.toNat (by omega) (by omega) L [b] hsh (by omega) (by rw [e]; exact oneS_none (hp _))
    rw [e] at h
    exact h
set_option maxRecDepth 100000 in
set_option maxHeartbeats 16000000 in
theorem walk (n0 : Int) (v : Value) (L : List (List UInt8)) (A : Option Addr) (n c : Nat) (l : List UInt8) (w : World) (_x0 : -9223372036854775808 ≤ n0 ∧ n0 ≤ 9223372036854775807) (hv : ArgR w v L) (hs : L.length * 24 ≤ reachBytes) (hz : ∀ l ∈ L, l.length ≤ reachBytes) (hb : ArgB w (.slice A n c) l) (hc : c ≤ 140737488351232) :
    Calls Tryd.prog 7 #[.int .i64 n0, v, .slice A n c] w fun e w' => e = .returned (.bool true) ∧ Below w.heap.size w w' := by
  obtain ⟨_, hn, hnc⟩ := hb.cs
  subst hn
  have hll : ∀ l ∈ L, l.length ≤ 140737488355327 := fun l h => by have := hz l h; unfold reachBytes at this; omega
  have HLL := Lib.hid hll; have HB := Lib.hid hb; have HV := Lib.hid hv
  obtain ⟨Av, cv, rfl, hcv, hx⟩ := hv.at_
  have HX := Lib.hid hx
  clear hx hv hll hz hs hb
  go_enter Tryd.func7, Tryd.ntmps7
  go_wp2_with fail
  refine (awake_any _).mono ?_
  rintro e w1 ⟨rfl, k1⟩
  have K1 := Lib.hid k1; clear k1
  by_cases h40 : (40 : Int) < (L.length : Int)
  · go_wp2
    go_ret
    exact ⟨rfl, K1.out.below (Nat.le_refl _) (fun _ _ m => m)⟩
  have hL40 : L.length ≤ 40 := by omega
  go_wp2_with fail
  refine (packed_any n0 _ L w1 (HV.out.no K1.out) hL40 HLL.out).mono ?_
  rintro e w2 ⟨k2, hr⟩
  have K2 := Lib.hid (K1.out.trans k2); clear k2
  rcases hr with ⟨Ap, cp, rfl, hrows, hsh, hg⟩ | ⟨rfl, hbad⟩
  · have HX2 : Hid (∀ i (hi : i < (packL n0.toNat 0 L).length), ∃ g o a k, Ap = some ⟨g, o, none⟩ ∧ w2.cell? ⟨g, o + i, none⟩ = some (.slice a ((packL n0.toNat 0 L)[i]).length k) ∧ k ≤ maxLen ∧ ArgB w2 (.slice a ((packL n0.toNat 0 L)[i]).length k) ((packL n0.toNat 0 L)[i])) := Lib.hid (by
      obtain ⟨_, _, e, _, _, hx2⟩ := hrows.cap.at_
      injection e with e1 _ e3
      subst e1 e3
      exact hx2)
    have hTl := packL_le n0.toNat L 0 hsh
    have HSH := Lib.hid hsh; have HG := Lib.hid hg; have R2 := Lib.hid hrows
    have H64 := Lib.hid (packL_64 n0.toNat L 0 hsh)
    clear hrows hsh hg
    generalize hT : packL n0.toNat 0 L = T at HX2 hTl R2 H64 ⊢
    have HT := Lib.hid hT; clear hT
    go_wp2
    go_loopw [11, 54] (fun a i wr => BackOut w2 n0.toNat L a i wr) (fun _ i _ => L.length - (intOf i).toNat)
    case atStart => exact ⟨0, 0, Nat.zero_le _, rfl, rfl, by simp [packL], Kp.refl _ _⟩
    case round =>
      obtain ⟨k, t0, hk, rfl, rfl, ht0, hkw⟩ := hrel
      have HKW := Lib.hid hkw; clear hkw
      have hi0 : (0 : Int) ≤ (k : Int) := by omega
      by_cases hlt : k < L.length
      · obtain ⟨g, o, a1, k1, rfl, hcx, hax⟩ := HX.out k hlt
        have hcx' := cell_no hcx (K2.out.trans HKW.out)
        have hik : (k : Int) < (L.length : Int) := by omega
        have hgg : 1 ≤ n0 ∧ n0 ≤ 1073741824 := by
          rcases HG.out with h | h
          · rw [h] at hlt; simp at hlt
          · exact h
        have HAT := Lib.hid (show ∀ j, j < chunkN L[k] → T[t0 + j]? = some (layS ⟨n0.toNat, k, j, chunkN L[k], pieceS L[k] j⟩) from fun j hj => by rw [← HT.out, ht0]; exact packL_at n0.toNat L k j hlt hj)
        have hts := packL_take_succ n0.toNat L k hlt
        have htl := packL_take_le n0.toNat L (k + 1)
        rw [HT.out] at htl
        have hd188 := HSH.out L[k] (List.getElem_mem hlt)
        obtain ⟨d, hd⟩ : ∃ d, L[k] = d := ⟨_, rfl⟩
        rw [hd] at hcx' hax HAT hts hd188
        have hch := chunk_le hd188
        have hcp := chunk_pos d
        have HPI := Lib.hid (show ∀ j, j < chunkN d → okPt ⟨n0.toNat, k, j, chunkN d, pieceS d j⟩ from fun j hj => okPt_piece d (by omega) (by omega) (by omega) hd188 hj)
        have HFU := Lib.hid (show d.take (47 * chunkN d) = d from List.take_of_length_le (by unfold chunkN; omega))
        have HAX := Lib.hid hax
        obtain ⟨N, hN⟩ : ∃ N, chunkN d = N := ⟨_, rfl⟩
        rw [hN] at HAT hts hch hcp HPI HFU
        have HTS := Lib.hid hts; have HT0 := Lib.hid ht0; have HTLE := Lib.hid (show t0 + N ≤ T.length by omega)
        clear hN hd hcx hax hts htl ht0
        go_wp2
        obtain ⟨wo, hwo⟩ : ∃ wo : World, wo = wr := ⟨_, rfl⟩
        subst hwo
        go_loopw [11, 14, 15, 16] (fun a dv nv jv wq => BackIn wo t0 N d a dv nv jv wq) (fun _ _ _ j _ => 5 - (intOf j).toNat)
        case atStart => exact ⟨0, t0, none, 0, [], Nat.zero_le _, rfl, rfl, rfl, .inl ⟨rfl, rfl⟩, rfl, by simp, OwnB.nil _ _, Kp.refl _ _⟩
        case round =>
          obtain ⟨j, t, Ad, cd, dj, hj, rfl, rfl, ht, hnv, rfl, hdj, hod, hkq⟩ := hrel
          have HOD := Lib.hid hod; have HKQ := Lib.hid hkq
          have hwr := hkq.size
          have hdl : dj.length ≤ 47 * j := by rw [hdj, List.length_take]; omega
          clear hod hkq
          have hj0 : (0 : Int) ≤ (j : Int) := by omega
          by_cases hjN : j < N
          · have htT : t < T.length := by have := HTLE.out; omega
            have htI : (t : Int) < (T.length : Int) := by omega
            have ht0' : (0 : Int) ≤ (t : Int) := by omega
            obtain ⟨g2, o2, a2, k2', rfl, hc2, hm2, ha2⟩ := HX2.out t htT
            have hc2' := cell_no hc2 (HKW.out.trans HKQ.out)
            have hTt := HAT.out j hjN
            rw [← ht, List.getElem?_eq_getElem htT] at hTt
            injection hTt with hTt
            have h64 := H64.out _ (List.getElem_mem htT)
            rw [h64] at hc2' ha2
            rw [hTt] at ha2
            have lk := look_lay n0 k j N (pieceS d j) (by omega) (HPI.out j hjN) a2 64 k2' wr (ha2.no (HKW.out.trans HKQ.out)) hm2
            have hxl : (pieceS d j).length ≤ 47 := by simp [pieceS]; omega
            have HNX := Lib.hid (show d.take (47 * (j + 1)) = dj ++ pieceS d j by rw [pieces_take, hdj])
            obtain ⟨x, hx⟩ : ∃ x, pieceS d j = x := ⟨_, rfl⟩
            rw [hx] at lk hxl HNX
            have HT1 := Lib.hid ht; have HD1 := Lib.hid hdj
            clear hx hTt h64 ha2 hc2 ht hdj
            have d7 : decide ((N : Int) < 1) = false := decide_eq_false (by omega)
            have d8 : decide ((4 : Int) < (N : Int)) = false := decide_eq_false (by omega)
            rcases hnv with ⟨rfl, rfl⟩ | ⟨hjp, rfl⟩
            · go_wp2_with fail
              refine lk.mono ?_
              clear lk
              rintro e w5 ⟨Aq, cq, rfl, k5, o5⟩
              have KA : Kp No w5 (w5.alloc (.cells #[.int .i64 n0, .int .i64 (k : Int), .int .i64 0, .int .i64 (N : Int), .slice Aq x.length cq] 33)) := (Kp.refl _ _).alloc _
              have HK5 := Lib.hid k5; have HX5 := Lib.hid ((own_argB o5).no KA).cs.1; have HO5 := Lib.hid ((HOD.out.no k5).no KA); have HKA := Lib.hid KA
              clear k5 o5 KA
              go_wp2_with (at_builtin; refine wpList_appB _ rfl (.tmp 118) (.tmp 120) rfl wo.heap.size _ dj rfl HO5.out _ _ _ x rfl rfl HX5.out (by omega) (by have := HK5.out.size; simp; omega) ?_)
              intro A6 n6 c6 w6 o6 f6 _
              have K6 := Lib.hid (f6 wo (Nat.le_refl _) (HKQ.out.trans (HK5.out.trans HKA.out)))
              obtain ⟨_, hn6, _⟩ := (own_argB o6).cs
              subst hn6
              have HO6 := Lib.hid o6; clear o6 f6
              go_wp2
              go_roundw
              case rel => exact ⟨1, t + 1, A6, c6, dj ++ x, by omega, by first | rfl | go_num, by go_num, by have := HT1.out; omega, .inr ⟨by omega, rfl⟩, rfl, HNX.out.symm, HO6.out, K6.out⟩
              case measure => simp [intOf]
            · have d4 : decide ((0 : Int) < (j : Int)) = true := decide_eq_true (by omega)
              have hjN' : (j : Int) < (N : Int) := by omega
              go_wp2_with fail
              refine lk.mono ?_
              clear lk
              rintro e w5 ⟨Aq, cq, rfl, k5, o5⟩
              have KA : Kp No w5 (w5.alloc (.cells #[.int .i64 n0, .int .i64 (k : Int), .int .i64 (j : Int), .int .i64 (N : Int), .slice Aq x.length cq] 33)) := (Kp.refl _ _).alloc _
              have HK5 := Lib.hid k5; have HX5 := Lib.hid ((own_argB o5).no KA).cs.1; have HO5 := Lib.hid ((HOD.out.no k5).no KA); have HKA := Lib.hid KA
              clear k5 o5 KA
              go_wp2_with (at_builtin; refine wpList_appB _ rfl (.tmp 118) (.tmp 120) rfl wo.heap.size _ dj rfl HO5.out _ _ _ x rfl rfl HX5.out (by omega) (by have := HK5.out.size; simp; omega) ?_)
              intro A6 n6 c6 w6 o6 f6 _
              have K6 := Lib.hid (f6 wo (Nat.le_refl _) (HKQ.out.trans (HK5.out.trans HKA.out)))
              obtain ⟨_, hn6, _⟩ := (own_argB o6).cs
              subst hn6
              have HO6 := Lib.hid o6; clear o6 f6
              go_wp2
              go_roundw
              case rel => exact ⟨j + 1, t + 1, A6, c6, dj ++ x, by omega, by go_num, by go_num, by have := HT1.out; omega, .inr ⟨by omega, rfl⟩, rfl, HNX.out.symm, HO6.out, K6.out⟩
              case measure => simp [intOf]; omega
          · obtain rfl : j = N := by omega
            rcases hnv with ⟨rfl, rfl⟩ | ⟨hjp, rfl⟩
            · omega
            rw [HFU.out] at hdj
            subst hdj
            have sx : (convert 26 9 (.slice Ad dj.length cd)).run Tryd.prog wr = .ok (.string ⟨dj.toArray⟩) wr := (own_argB HOD.out).str _ 5 _ Tryd.underlying26 Tryd.underlying5 Tryd.underlying9
            have sy : (convert 26 9 (.slice a1 dj.length k1)).run Tryd.prog wr = .ok (.string ⟨dj.toArray⟩) wr := (HAX.out.no (K2.out.trans (HKW.out.trans HKQ.out))).str _ 5 _ Tryd.underlying26 Tryd.underlying5 Tryd.underlying9
            have HT1 := Lib.hid ht; clear ht
            go_wp2
            go_roundw
            case rel => exact ⟨k + 1, t, by omega, by go_num, rfl, by have := HT1.out; have := HTS.out; have := HT0.out; omega, HKW.out.trans HKQ.out⟩
            case measure => simp [intOf]; omega
      · obtain rfl : k = L.length := by omega
        have ht1 : t0 = T.length := by rw [ht0, List.take_length, HT.out]
        subst ht1
        clear ht0
        have HSC := Lib.hid (show (∀ p, lookS l = some p → ¬ ((p.gen : Int) = n0 ∧ p.seq = L.length)) → scanS (T ++ [l]) n0 = (L, T.length) from fun h => by rw [← HT.out]; exact scan_behind n0 L l HSH.out hL40 HG.out h)
        go_wp2_with (at_builtin; refine wpList_appB _ rfl (.tmp 131) (.tmp 132) rfl wr.heap.size _ [] rfl (by exact own_fresh wr _ _ (Nat.le_refl _)) _ _ _ l rfl rfl ((HB.out.no ((K2.out.trans HKW.out).alloc _)).cs.1) (by simp; omega) (by simp) ?_)
        intro a3 n3 c3 w3 o3 f3 _
        have K23 := Lib.hid (HKW.out.trans (f3 wr (Nat.le_refl _) ((Kp.refl No wr).alloc _)))
        obtain ⟨A4, c4, e4, _, hm4⟩ := own_cap o3
        injection e4 with e1 e2 e3
        subst e1 e3
        clear e2
        have HA3 := Lib.hid (own_argB o3); clear o3 f3 HKW
        go_wp2_with fail
        refine (look_uni l a3 n3 c3 w3 HA3.out hm4).mono ?_
        rintro e w4 ⟨gn, sq, ix, pr, er, Ad, nd, cd, rfl, k4, hpp⟩
        have K24 := Lib.hid (K23.out.trans k4); have HPP := Lib.hid hpp; clear k4 hpp K23 HA3
        go_upto_region 35 with (fail)
        go_cut [151] (fun s wx => HitB er gn sq n0 L.length s ∧ Kp No w4 wx)
        case first =>
          by_cases e0 : er = 0
          · have de : (er == 0) = true := beq_iff_eq.2 e0
            have E0 := Lib.hid e0; clear e0
            by_cases e1 : gn = n0
            · have dg : (gn == n0) = true := beq_iff_eq.2 e1
              have E1 := Lib.hid e1; clear e1
              by_cases e2 : sq = (L.length : Int)
              · have ds : (sq == (L.length : Int)) = true := beq_iff_eq.2 e2
                have HF := Lib.hid (show decide (er = 0 ∧ gn = n0 ∧ sq = (L.length : Int)) = true from decide_eq_true ⟨E0.out, E1.out, e2⟩)
                clear e2
                go_wp2
                go_meet
                exact ⟨by unfold HitB; rw [HF.out], (Kp.refl _ _).alloc _⟩
              · have ds : (sq == (L.length : Int)) = false := beq_eq_false_iff_ne.2 e2
                have HF := Lib.hid (show decide (er = 0 ∧ gn = n0 ∧ sq = (L.length : Int)) = false from decide_eq_false (fun h => e2 h.2.2))
                clear e2
                go_wp2
                go_meet
                exact ⟨by unfold HitB; rw [HF.out], (Kp.refl _ _).alloc _⟩
            · have dg : (gn == n0) = false := beq_eq_false_iff_ne.2 e1
              have HF := Lib.hid (show decide (er = 0 ∧ gn = n0 ∧ sq = (L.length : Int)) = false from decide_eq_false (fun h => e1 h.2.1))
              clear e1
              go_wp2
              go_meet
              exact ⟨by unfold HitB; rw [HF.out], (Kp.refl _ _).alloc _⟩
          · have de : (er == 0) = false := beq_eq_false_iff_ne.2 e0
            have HF := Lib.hid (show decide (er = 0 ∧ gn = n0 ∧ sq = (L.length : Int)) = false from decide_eq_false (fun h => e0 h.1))
            clear e0
            go_wp2
            go_meet
            exact ⟨by unfold HitB; rw [HF.out], (Kp.refl _ _).alloc _⟩
        case rest =>
          obtain ⟨hhb, kc⟩ := hcut
          unfold HitB at hhb
          subst hhb
          have KC := Lib.hid (K24.out.trans kc); clear kc K24
          cases hh : decide (er = 0 ∧ gn = n0 ∧ sq = (L.length : Int)) with
          | true =>
            clear hh
            go_wp2
            go_ret
            exact ⟨rfl, (K2.out.trans KC.out).below (Nat.le_refl _) (fun _ _ m => m)⟩
          | false =>
            have HS := Lib.hid (HSC.out (fun p hp hpg => by
              have h1 := HPP.out p hp
              exact of_decide_eq_false hh ⟨h1.1, by rw [h1.2.1]; exact hpg.1, by rw [h1.2.2, hpg.2]⟩))
            clear hh
            have hwc : w.heap.size ≤ wc.heap.size := (K2.out.trans KC.out).size
            go_wp2_with fail
            refine (own_any (.slice Ap T.length cp) T wc ((R2.out.no KC.out).arg) (by omega) (fun b hb => by rw [H64.out b hb]; omega)).mono ?_
            rintro e w5 ⟨u, rfl, r5, k5⟩
            have K5 := Lib.hid (KC.out.trans k5); have R5 := Lib.hid r5; have hw5 := k5.size; have KQ := Lib.hid k5; clear k5 r5
            go_wp2_with (at_builtin; refine wpList_appB _ rfl (.tmp 159) (.tmp 160) rfl w5.heap.size _ [] rfl (by exact own_fresh w5 _ _ (Nat.le_refl _)) _ _ _ l rfl rfl ((HB.out.no ((K2.out.trans K5.out).alloc _)).cs.1) (by simp; omega) (by simp) ?_)
            intro a6 n6 c6 w6 o6 f6 _
            have k6 := f6 w5 (Nat.le_refl _) ((Kp.refl No w5).alloc _)
            have K6 := Lib.hid (K5.out.trans k6)
            have O6 := Lib.hid (OwnB.mono o6 hw5); have R6 := Lib.hid (R5.out.no k6); have K56 := Lib.hid k6
            have hw6 := k6.size
            clear o6 f6 k6
            go_wp2_with (at_builtin; refine wpList_appR _ rfl (.tmp 158) (.tmp 162) rfl wc.heap.size _ T rfl (R6.out.no ((Kp.refl No _).alloc _)) _ _ _ rfl ([] ++ l) rfl (cs_new rfl rfl) (O6.out.alloc _) (by omega) (by simp; omega) ?_)
            intro a7 n7 c7 w7 r7 f7
            have K7 := Lib.hid (KC.out.trans (f7 wc (Nat.le_refl _) ((KQ.out.trans K56.out).alloc _)))
            have R7 := Lib.hid r7; clear r7 f7
            go_wp2_with fail
            refine (scan_as _ n0 (T ++ [l]) L T.length HS.out w7 R7.out.cap (by simp; omega)).mono ?_
            rintro e w8 ⟨v8, rfl, r8, k8⟩
            have K8 := Lib.hid (K7.out.trans k8); have R8 := Lib.hid r8; clear r8 k8
            go_wp2_with fail
            refine (sameAll_eq v8 _ L L true w8 R8.out.arg (HV.out.no (K2.out.trans K8.out)) (by omega) (by simp)).mono ?_
            rintro e w9 ⟨rfl, k9⟩
            have K9 := Lib.hid ((K2.out.trans K8.out).trans k9); clear k9
            go_wp2
            go_ret
            exact ⟨rfl, K9.out.below (Nat.le_refl _) (fun _ _ m => m)⟩
  · have HBAD := Lib.hid hbad; clear hbad
    go_wp2
    go_loop [38] (fun i => ∃ k : Nat, k ≤ L.length ∧ i = .int .i64 k ∧ Hid (∀ d ∈ L.take k, d.length ≤ 188)) (fun i => L.length - (intOf i).toNat)
    case atStart => exact ⟨0, Nat.zero_le _, rfl, Lib.hid (by simp)⟩
    case round =>
      obtain ⟨k, hk, rfl, hsh⟩ := hrel
      have hi0 : (0 : Int) ≤ (k : Int) := by omega
      by_cases hlt : k < L.length
      · obtain ⟨g, o, a1, k1, rfl, hcx, _⟩ := HX.out k hlt
        have hcx' := cell_no hcx K2.out
        have hik : (k : Int) < (L.length : Int) := by omega
        have hnext : L.take (k + 1) = L.take k ++ [L[k]] := List.take_succ_eq_append_getElem hlt
        obtain ⟨d, hd⟩ : ∃ d, L[k] = d := ⟨_, rfl⟩
        rw [hd] at hcx' hnext
        have HNX := Lib.hid hnext; clear hnext hd hcx
        by_cases h188 : (188 : Int) < (d.length : Int)
        · go_wp2
          go_ret
          exact ⟨rfl, K2.out.below (Nat.le_refl _) (fun _ _ m => m)⟩
        · go_wp2
          go_round
          case rel => exact ⟨k + 1, by omega, by go_num, Lib.hid (by rw [HNX.out]; intro e he; rcases List.mem_append.1 he with he | he; exact hsh.out e he; rw [List.mem_singleton.1 he]; omega)⟩
          case measure => simp [intOf]; omega
      · obtain rfl : k = L.length := by omega
        have hbd : n0 < 1 ∨ 1073741824 < n0 := by
          rcases HBAD.out with ⟨d, hd, h1⟩ | h
          · have h2 := hsh.out d (by rw [List.take_length]; exact hd); omega
          · exact h
        by_cases g1 : n0 < 1
        · clear hbd
          go_wp2
          go_ret
          exact ⟨rfl, K2.out.below (Nat.le_refl _) (fun _ _ m => m)⟩
        · have g2 : 1073741824 < n0 := by omega
          have d1 : decide (n0 < 1) = false := decide_eq_false g1
          have d2 : decide (1073741824 < n0) = true := decide_eq_true g2
          clear hbd
          go_wp2
          go_ret
          exact ⟨rfl, K2.out.below (Nat.le_refl _) (fun _ _ m => m)⟩

set_option maxRecDepth 100000 in
theorem lifted (os : Os) (started : os.Started) (H : Type) (enc : TypeId × Value → H) :
    ReturnsInHanded {} Tryd.checked os 7 .any (fun w args => (Rows.sectorsBackSpec.pre enc Tryd.prog Tryd.f7 Rows.sectorsBackRow.domain false w args ∧ laidMetH Tryd.prog [("unicode/utf8.acceptRanges", Rows.laid_unicode_utf8_acceptRanges), ("unicode/utf8.first", Rows.laid_unicode_utf8_first)] w) ∧ sizedMet enc Tryd.prog Tryd.f7 (OpenSpec.ofChange Rows.sectorsBackSpec) false w args)
      (Rows.sectorsBackSpec.post enc Tryd.prog Tryd.f7 false true false false) := by
  refine returnsInHanded_and_shaped (C := Tryd.checked) (X := (fun w _ => laidMetH Tryd.prog [("unicode/utf8.acceptRanges", Rows.laid_unicode_utf8_acceptRanges), ("unicode/utf8.first", Rows.laid_unicode_utf8_first)] w)) (fun _ _ _ hh h => h.of_heap hh) own started (by kernel_rfl) Tryd.func7
    (ChangeSpec.witness_shaped (enc := enc) (C := Tryd.checked) (os := os) (X := (fun w _ => laidMetH Tryd.prog [("unicode/utf8.acceptRanges", Rows.laid_unicode_utf8_acceptRanges), ("unicode/utf8.first", Rows.laid_unicode_utf8_first)] w)) false (World.laidAll Tryd.prog os [("unicode/utf8.acceptRanges", Rows.laid_unicode_utf8_acceptRanges), ("unicode/utf8.first", Rows.laid_unicode_utf8_first)]) #[.int .i64 0, .slice none 0 0, .slice none 0 0] 8 (World.laidAll_os _ _ _)
      (World.shaped_of_ZipB (by kernel_rfl) (by kernel_rfl)) (by kernel_rfl) (by kernel_rfl) (by kernel_rfl)
      (by rw [MakeChecks.laidMetH_plain _ _ _ (by kernel_rfl)]; exact laidMet_laidAll _ (by kernel_rfl) (by kernel_rfl))) ?_
  intro W base args ds gs before hval0 hW hcnd hsz0 hL hsh _
  have hval : ∀ (j : Nat) t v, Tryd.f7.params[j]? = some t → args[j]? = some v → Value.okWide Tryd.prog W .any base t v := hval0
  have hW' := hW
  obtain ⟨p, q, hA0, hV, rfl, hfz, hnd⟩ := hW
  have hA : DataW.TrodAll enc Tryd.prog W 0 (fun _ => true) true Tryd.f7.params.toList args.toList ds p := hA0
  rw [Tryd.params7] at hA hval
  obtain ⟨v0, vs0, d0, ds0, p0, q0, hargs, rfl, rfl, h0, r0⟩ := trodAll_cons hA
  obtain ⟨v1, vs1, d1, ds1, p1, q1, rfl, rfl, rfl, h1, r1⟩ := trodAll_cons r0
  obtain ⟨v2, vs2, d2, ds2, p2, q2, rfl, rfl, rfl, h2, r2⟩ := trodAll_cons r1
  obtain ⟨rfl, rfl, rfl⟩ := trodAll_nil r2
  obtain rfl : args = #[v0, v1, v2] := by cases args; simp_all
  obtain ⟨rfl, rfl⟩ := trodVars_none hV
  have hsz : ∀ (j : Nat) (t : TypeId) (d : DataW H), ([3, 22, 26] : List TypeId)[j]? = some t → [d0, d1, d2][j]? = some d → ∀ n ∈ d.weights Tryd.prog t, n ≤ reachBytes := by
    intro j t d ht hd n hn
    have hsz1 : (DataW.weightsEach Tryd.prog ([3, 22, 26] : List TypeId) [d0, d1, d2]).all (· ≤ reachBytes) = true := hsz0
    have := List.all_eq_true.1 hsz1 n (DataW.weights_mem_each ht hd n hn)
    simpa using this
  have k0 := h0
  have lt0 : ∀ x ∈ p0, x.block < W.heap.size := by obtain ⟨m, hm⟩ := k0; exact DataW.trod_lt m _ _ _ hm
  obtain ⟨n0, rfl, rfl, rfl, x0⟩ := open_int Tryd.underlying3 (hval 0 3 v0 rfl rfl) h0
  have k1 := h1
  have lt1 : ∀ x ∈ p1, x.block < W.heap.size := by obtain ⟨m, hm⟩ := k1; exact DataW.trod_lt m _ _ _ hm
  obtain ⟨L1, a1, s1, z1⟩ := open_rowsR Tryd.underlying22 Tryd.underlying26 Tryd.underlying5 (by kernel_rfl) (by kernel_rfl) (by kernel_rfl) (by kernel_rfl) (hval 1 22 v1 rfl rfl) h1 (hsz 1 22 _ rfl rfl)
  have k2 := h2
  have lt2 : ∀ x ∈ p2, x.block < W.heap.size := by obtain ⟨m, hm⟩ := k2; exact DataW.trod_lt m _ _ _ hm
  obtain ⟨A2, n2, c2, l2, rfl, a2, z2⟩ := open_bytesA Tryd.underlying26 Tryd.underlying5 (by kernel_rfl) (by kernel_rfl) (hval 2 26 v2 rfl rfl) h2 (hsz 2 26 _ rfl rfl)
  refine (walk n0 v1 L1 A2 n2 c2 l2 W (bounds_i64 x0) a1 s1 z1 a2 z2).mono fun e W' ⟨he, bel⟩ => ?_
  subst he
  exact ⟨_, rfl, _, _, _, [], _, [], hW', trodAll_mk1 (shut_bool Tryd.underlying4 _), (trodAll_cons_mk (Below.trod laidOut (by kernel_rfl) (of_decide_eq_true (by kernel_rfl)) k0 bel lt0) (trodAll_cons_mk (Below.trod laidOut (by kernel_rfl) (of_decide_eq_true (by kernel_rfl)) k1 bel lt1) (trodAll_cons_mk (Below.trod laidOut (by kernel_rfl) (of_decide_eq_true (by kernel_rfl)) k2 bel lt2) trodAll_mk0))), rfl, bel.frame _, fun h => by cases h⟩

theorem over : Rows.sectorsBackRow.holds Tryd.pinned (OpenSpec.ofChange Rows.sectorsBackSpec) :=
  OpenClaim.holds_of_wide 7 Tryd.f7 rfl rfl rfl rfl rfl rfl rfl ⟨rfl, rfl, rfl, rfl, rfl⟩ rfl rfl rfl rfl rfl (by kernel_rfl) Tryd.func7 (by kernel_rfl)
    (of_decide_eq_true (by kernel_rfl)) (by unfold Func.isWrapper; first | (rw [if_pos (by decide +kernel)]; kernel_rfl) | (rw [if_neg (by decide +kernel)]; exact ⟨rfl, rfl⟩))
    (fun os started H enc _ => lifted os started H enc)

theorem proved : Rows.SectorsBackCardSaid :=
  Claim7.holds_tied_plain_at .later [] [.data, .pinned] true (true, "dc3eabe4416708f3bf80b9d2489c313fb0226dd42c19edfe3363a148024dce7c") true over (fun _ h => by cases h) (by kernel_rfl) (fun _ h => by cases h) sectorsBack_row_tie rfl ⟨rfl, rfl⟩ (by kernel_rfl) rfl
    (fun f fn hf hfn => by
      obtain rfl : f = 7 := Option.some.inj ((show Tryd.prog.funcNamed "sublet/subletlaw10.SectorsBack" = some 7 by kernel_rfl).symm.trans hf) |>.symm
      obtain rfl : fn = Tryd.f7 := (Option.some.inj (Tryd.func7.symm.trans hfn)).symm
      exact ⟨by kernel_rfl, fun j t ht => by
        rw [Tryd.params7] at ht
        have hm : t ∈ ([3, 22, 26] : List TypeId) := by simpa using Array.mem_of_getElem? ht
        have hall : (([3, 22, 26] : List TypeId).all fun u => !Tryd.prog.wantsStandIn u) = true := by kernel_rfl
        exact (show Tryd.prog.wantsStandIn t = false by simpa using List.all_eq_true.1 hall t hm)⟩)
    (by kernel_rfl)
#print axioms proved
end Go.Proofs.YthncnkkpfcbkfaaDoor.sectorsBack
