/- Several texts of this claim in one. No condition beyond what each theorem states. -/
import Derived.Test.YtlgbmkdeamgpkaaGreatDoorB06
import Derived.Test.YtlgbmkdeamgpkaaGreatDoorG06
import Derived.Test.YtlgbmkdeamgpkaaGreatDoorG07
import Derived.Test.YtlgbmkdeamgpkaaGreatDoorH03
import Derived.Test.YtlgbmkdeamgpkaaGreatDoorH01
/- The document's stamps by contract: Valid, Compare. No condition beyond what each theorem states. -/
namespace Go.Proofs.YtlgbmkdeamgpkaaGreatDoor
open Go Go.RowKit Go.PlainAid

set_option maxHeartbeats 1000000 in
theorem rvalidS_any (v : Value) (L : List Int) (w : World) (hv : ArgInts w v L) (_hl : L.length ≤ maxLen) :
    Calls Tryz.prog 81 #[v] w fun e w' => e = .returned (.bool (validS L)) ∧ w = w' := by
  have HV := Lib.hid hv
  obtain ⟨A, c, rfl, hc, _⟩ := hv
  go_enter Tryz.func81, Tryz.ntmps81
  by_cases h4 : L.length ≤ 4
  · have h4' : ¬ 4 < (L.length : Int) := by omega
    have HS := Lib.hid (show validS L = L.all okN by unfold validS; rw [decide_eq_true h4]; simp)
    go_wp2
    go_loopw [3] (fun i wr => ∃ k : Nat, k ≤ L.length ∧ i = .int .i64 k ∧ wr = w ∧ (L.take k).all okN = true) (fun i _ => L.length - (intOf i).toNat)
    case atStart => exact ⟨0, Nat.zero_le _, rfl, rfl, by simp⟩
    case round =>
      obtain ⟨k, hk, rfl, rfl, hF⟩ := hrel
      have HF := Lib.hid hF; clear hF
      by_cases hlt : k < L.length
      · have hk0 : (0 : Int) ≤ (k : Int) := by omega
        have hk1 : (k : Int) < (L.length : Int) := by omega
        obtain ⟨g, o, c', e1, hxx⟩ := HV.out.at_ hlt
        have hx := hxx k _ (List.getElem?_eq_getElem hlt)
        clear hxx
        injection e1 with e1 _ e1c
        subst e1 e1c
        have HT := Lib.hid (all_take okN hlt)
        have HM := Lib.hid (show okN L[k] = false → L.all okN = false from fun h => by
          rw [Bool.eq_false_iff]; intro ha
          have := List.all_eq_true.1 ha _ (List.getElem_mem hlt)
          rw [h] at this; cases this)
        generalize L[k] = x at *
        by_cases h1 : x < 1
        · have HO := Lib.hid (show okN x = false by unfold okN; simp; omega)
          go_wp2
          go_ret
          exact ⟨ret_bool rfl (by rw [HS.out, HM.out HO.out]), rfl⟩
        · by_cases h2 : 1099511627776 < x
          · have HO := Lib.hid (show okN x = false by unfold okN; simp; omega)
            go_wp2
            go_ret
            exact ⟨ret_bool rfl (by rw [HS.out, HM.out HO.out]), rfl⟩
          · have HO := Lib.hid (show okN x = true by unfold okN; simp; omega)
            go_wp2
            go_roundw
            case rel => exact ⟨k + 1, by omega, by go_num, by trivial, by rw [HT.out, HF.out, HO.out]; rfl⟩
            case measure => simp [intOf]; omega
      · have hk' : k = L.length := by omega
        have hall : L.all okN = true := by have := HF.out; rwa [hk', List.take_length] at this
        have HA := Lib.hid hall; clear hall hk'
        have hk1 : ¬ (k : Int) < (L.length : Int) := by omega
        go_wp2
        go_ret
        exact ⟨ret_bool rfl (by rw [HS.out, HA.out]), rfl⟩
  · have h4' : 4 < (L.length : Int) := by omega
    have HS := Lib.hid (show validS L = false by unfold validS; rw [decide_eq_false h4]; simp)
    go_wp2
    go_ret
    exact ⟨ret_bool rfl HS.out.symm, rfl⟩

set_option maxHeartbeats 1000000 in
set_option maxRecDepth 100000 in
theorem rcompareS_any (v u : Value) (L M : List Int) (w : World) (hv : ArgInts w v L) (hu : ArgInts w u M) (hl : L.length ≤ maxLen) (hm0 : M.length ≤ maxLen) :
    Calls Tryz.prog 50 #[v, u] w fun e w' => e = .returned (.int .i64 (cmpS L M)) ∧ Kp No w w' := by
  have hm := hm0
  unfold maxLen at hl hm
  have HV := Lib.hid hv; have HU := Lib.hid hu
  obtain ⟨A, c, rfl, hc, _⟩ := hv
  obtain ⟨B, d, rfl, hd, _⟩ := hu
  go_enter Tryz.func50, Tryz.ntmps50
  go_wp2
  go_loopw [5] (fun i wr => ∃ k : Nat, k ≤ L.length ∧ k ≤ M.length ∧ i = .int .i64 k ∧ Kp No w wr ∧ cmpS (L.drop k) (M.drop k) = cmpS L M) (fun i _ => L.length - (intOf i).toNat)
  case atStart => exact ⟨0, Nat.zero_le _, Nat.zero_le _, rfl, Kp.refl _ _, rfl⟩
  case round =>
    obtain ⟨k, hk, hk', rfl, hkp, hF⟩ := hrel
    by_cases h1 : k < L.length
    · by_cases h2 : k < M.length
      · have hk0 : (0 : Int) ≤ (k : Int) := by omega
        have hk1 : (k : Int) < (L.length : Int) := by omega
        have hk2 : (k : Int) < (M.length : Int) := by omega
        obtain ⟨g, o, c', e1, hxx⟩ := (HV.out.no hkp).at_ h1
        have hx := hxx k _ (List.getElem?_eq_getElem h1)
        obtain ⟨g2, o2, d', e2, hyy⟩ := (HU.out.no hkp).at_ h2
        have hy := hyy k _ (List.getElem?_eq_getElem h2)
        clear hxx hyy
        injection e1 with e1 _ e1c; injection e2 with e2 _ e2c
        subst e1 e2 e1c e2c
        rw [cmpS_step h1 h2] at hF
        generalize L[k] = x at *
        generalize M[k] = y at *
        rcases cmpI_cases x y with ⟨e, hc⟩ | ⟨e, hc⟩ | ⟨e, hc⟩
        · rw [if_pos hc] at hF
          have HF := Lib.hid hF; clear hF e
          go_wp2
          go_quiet (fail)
          go_wp2
          go_ret
          exact ⟨ret_int rfl HF.out, hkp.drewN _⟩
        · rw [if_neg (by omega), if_pos hc] at hF
          have HF := Lib.hid hF; clear hF e
          have hc2 : ¬ x < y := by omega
          go_wp2
          go_quiet (fail)
          go_wp2
          go_quiet (fail)
          go_wp2
          go_ret
          exact ⟨ret_int rfl HF.out, (hkp.drewN _).drewN _⟩
        · subst hc
          rw [if_neg (by omega), if_neg (by omega)] at hF
          have HF := Lib.hid hF; clear hF e
          have hc2 : ¬ x < x := by omega
          go_wp2
          go_quiet (fail)
          go_wp2
          go_quiet (fail)
          go_wp2
          go_roundw
          case rel => exact ⟨k + 1, by omega, by omega, by go_num, hkp.drewN _, HF.out⟩
          case measure => simp [intOf]; omega
      · have h1' : (k : Int) < L.length := by omega
        have h2' : ¬ (k : Int) < M.length := by omega
        have h3 : ¬ L.length < M.length := by omega
        have h4 : M.length < L.length := by omega
        have h3' : ¬ (L.length : Int) < M.length := by omega
        have h4' : (M.length : Int) < L.length := by omega
        rw [cmpS_end2 h1 (by omega)] at hF
        have HF := Lib.hid hF; clear hF
        go_wp2
        go_ret
        exact ⟨ret_int rfl HF.out, hkp⟩
    · have hks : k = L.length := by omega
      have h1' : ¬ (k : Int) < L.length := by omega
      by_cases h2 : L.length < M.length
      · have h2' : (L.length : Int) < M.length := by omega
        rw [cmpS_end1 (by omega) (by omega)] at hF
        have HF := Lib.hid hF; clear hF hks
        go_wp2
        go_ret
        exact ⟨ret_int rfl HF.out, hkp⟩
      · have h2' : ¬ (L.length : Int) < M.length := by omega
        have h3 : ¬ M.length < L.length := by omega
        have h3' : ¬ (M.length : Int) < L.length := by omega
        rw [cmpS_end0 (by omega) (by omega)] at hF
        have HF := Lib.hid hF; clear hF hks
        go_wp2
        go_ret
        exact ⟨ret_int rfl HF.out, hkp⟩

end Go.Proofs.YtlgbmkdeamgpkaaGreatDoor

/- How the document reads a mark, in plain words. No condition beyond what each theorem states. -/
namespace Go.Proofs.YtlgbmkdeamgpkaaGreatDoor
open Go

theorem rdNum_bad (l : List UInt8) {e : Int} (h : e ≠ 0) : rdNum (l, e) = (0, (l, e)) := by unfold rdNum; simp [h]
theorem rdNum_inv {l r : List UInt8} {n : Nat} (h : rdNum (l, 0) = (n, (r, 0))) : l = numS n ++ r := by
  unfold rdNum at h
  rw [if_neg (by simp)] at h
  rcases ht : takeN 0 l with ⟨a, k, e⟩
  rw [show (l, (0 : Int)).1 = l from rfl, ht] at h
  simp only at h
  by_cases he : e = 0
  · rw [if_pos he] at h
    subst he
    injection h with h1 h2
    injection h2 with h2 _
    subst h1
    rw [← h2]
    exact (take_inv ht).1
  · rw [if_neg he] at h
    injection h with _ h2
    injection h2 with _ h3
    exact absurd h3 he
theorem rdNums_bad : ∀ (k : Nat) (l : List UInt8) {e : Int}, e ≠ 0 → (rdNums k (l, e)).2 = (l, e)
  | 0, _, _, _ => rfl
  | k + 1, l, e, h => by
    show (rdNums k (rdNum (l, e)).2).2 = (l, e)
    rw [rdNum_bad l h]
    exact rdNums_bad k l h
theorem rdNums_inv : ∀ (k : Nat) (l r : List UInt8), (rdNums k (l, 0)).2 = (r, 0) → l = numsS (rdNums k (l, 0)).1 ++ r
  | 0, _, _, h => congrArg Prod.fst h
  | k + 1, l, r, h => by
    have h : (rdNums k (rdNum (l, 0)).2).2 = (r, 0) := h
    rcases ha : rdNum (l, 0) with ⟨n, l', e⟩
    rw [ha] at h
    by_cases he : e = 0
    · subst he
      have h1 := rdNum_inv ha
      have h2 := rdNums_inv k l' r h
      have e1 : (rdNums (k + 1) (l, 0)).1 = n :: (rdNums k (l', 0)).1 := by
        show (rdNum (l, 0)).1 :: (rdNums k (rdNum (l, 0)).2).1 = _
        rw [ha]
      rw [e1]
      show l = (numS n ++ numsS (rdNums k (l', 0)).1) ++ r
      rw [List.append_assoc, ← h2]
      exact h1
    · rw [rdNums_bad k l' he] at h
      injection h with _ h
      exact absurd h he
/-- what the document reads of a mark is what the gate reads of it -/
theorem mark_ref (b : List UInt8) : (natI (rdCnts (b, 0)).1 ≠ [] ∧ validS (natI (rdCnts (b, 0)).1) = true ∧ bytesG (natI (rdCnts (b, 0)).1) = b → listedG b = some (natI (rdCnts (b, 0)).1)) ∧
    (¬ (natI (rdCnts (b, 0)).1 ≠ [] ∧ validS (natI (rdCnts (b, 0)).1) = true ∧ bytesG (natI (rdCnts (b, 0)).1) = b) → ∀ t, listedG b = some t → validS t = false) := by
  constructor
  · rintro ⟨h1, h2, h3⟩
    have := listed_bytes h2 h1
    rwa [h3] at this
  · intro hn t ht
    cases hv : validS t with
    | false => rfl
    | true =>
      exfalso
      apply hn
      have ht0 := ht
      unfold listedG at ht
      split at ht
      · cases ht
      · rename_i h1
        split at ht
        · rename_i h2
          have ht : natI (rdNums (rdNum (b, 0)).1 (rdNum (b, 0)).2).1 = t := by injection ht
          have e1 : rdCnts (b, 0) = rdNums (rdNum (b, 0)).1 (rdNum (b, 0)).2 := by unfold rdCnts; rw [Nat.min_eq_left (by omega)]
          rw [e1, ht]
          have hlen : t.length = (rdNum (b, 0)).1 := by rw [← ht]; unfold natI; rw [List.length_map, (rdNums_len _ _).1]
          refine ⟨fun e => by rw [e] at hlen; simp at hlen; omega, hv, ?_⟩
          rcases ha : rdNum (b, 0) with ⟨n, l', e⟩
          rw [ha] at h1 h2 ht hlen
          simp only at h1 h2 ht hlen
          by_cases he : e = 0
          · subst he
            have i1 := rdNum_inv ha
            have i2 := rdNums_inv n l' [] h2
            have en : natsG t = (rdNums n (l', 0)).1 := by
              rw [← ht]
              unfold natsG natI
              rw [List.map_map]
              conv => rhs; rw [← List.map_id (rdNums n (l', 0)).1]
              exact List.map_congr_left fun x _ => by simp
            unfold bytesG cntsS
            rw [en, (rdNums_len _ _).1, i1]
            rw [List.append_nil] at i2
            rw [← i2]
          · rw [rdNums_bad n l' he] at h2
            injection h2 with _ h2
            exact absurd h2 he
        · cases ht
end Go.Proofs.YtlgbmkdeamgpkaaGreatDoor

/- The document's bytes and mark by contract. No condition beyond what each theorem states. -/
namespace Go.Proofs.YtlgbmkdeamgpkaaGreatDoor
open Go Go.RowKit Go.PlainAid

def RkS (w : World) (b B : Nat) (s : Rd) : Prop := ∃ A c, Bk w b 163 [.slice A s.1.length c, .int .i64 s.2] ∧ ArgB w (.slice A s.1.length c) s.1 ∧ (s.1 ≠ [] → ∀ g, (Value.slice A s.1.length c).ownBlock = some g → g < B)
theorem RkS.kp {w w' : World} {b B : Nat} {s : Rd} {M : Nat → Prop} (h : RkS w b B s) (k : Kp M w w') (h1 : ¬ M b) (h2 : ∀ g, M g → B ≤ g) : RkS w' b B s := by
  obtain ⟨A, c, hb, hv, hn⟩ := h
  refine ⟨A, c, hb.kp k h1, ?_, hn⟩
  by_cases h0 : s.1 = []
  · rw [h0]; exact ArgB.nil _ _ _
  · exact hv.kp k fun g o n c' e m => by
      have h3 := hn h0 g (by rw [e]; simp [Value.ownBlock])
      have := h2 g m; omega
theorem RkS.no {w w' : World} {b B : Nat} {s : Rd} (h : RkS w b B s) (k : Kp No w w') : RkS w' b B s := h.kp k (fun m => m) fun _ m => m.elim
theorem RkS.lt {w : World} {b B : Nat} {s : Rd} (h : RkS w b B s) : b < w.heap.size := by obtain ⟨A, c, hb, _⟩ := h; exact hb.lt
theorem rdK2 {w w2 : World} {b : Nat} {x y : Value} (k : Kp No w w2) : Kp (One b) w ((w2.setCell ⟨b, 0, none⟩ x).setCell ⟨b, 1, none⟩ y) := by
  have k1 : Kp (One b) w w2 := k.mono fun _ _ m => m.elim
  exact (k1.set (.inl rfl) 0 x).set (.inl rfl) 1 y
/-- both cells are stored anew -/
theorem RkS.put {w w2 : World} {b B : Nat} {s s2 : Rd} {A A2 : Option Addr} {c c2 : Nat} (hb : Bk w b 163 [.slice A s.1.length c, .int .i64 s.2]) (hn : s.1 ≠ [] → ∀ g, (Value.slice A s.1.length c).ownBlock = some g → g < B) (hB : B ≤ b) (k : Kp No w w2) (ha : ArgB w2 (.slice A2 s2.1.length c2) s2.1) (hs : SameBlk (.slice A s.1.length c) (.slice A2 s2.1.length c2)) (hl : s2.1.length ≤ s.1.length) :
    RkS ((w2.setCell ⟨b, 0, none⟩ (.slice A2 s2.1.length c2)).setCell ⟨b, 1, none⟩ (.int .i64 s2.2)) b B s2 := by
  have hb2 := hb.no k
  have k2 : Kp (One b) w2 ((w2.setCell ⟨b, 0, none⟩ (.slice A2 s2.1.length c2)).setCell ⟨b, 1, none⟩ (.int .i64 s2.2)) := rdK2 (Kp.refl No w2)
  refine ⟨A2, c2, (hb2.set_ 0 _).set_ 1 _, ?_, ?_⟩
  · by_cases h0 : s2.1 = []
    · rw [h0]; exact ArgB.nil _ _ _
    · refine ha.kp k2 fun g o n c' e m => ?_
      have h1 : s.1 ≠ [] := fun h => h0 (List.eq_nil_of_length_eq_zero (by rw [h] at hl; simpa using hl))
      have h3 := hn h1 g (hs g (by rw [e]; simp [Value.ownBlock]))
      have h4 : g = b := m
      omega
  · intro h0 g hg
    have h1 : s.1 ≠ [] := fun h => h0 (List.eq_nil_of_length_eq_zero (by rw [h] at hl; simpa using hl))
    exact hn h1 g (hs g hg)
theorem rdNums_ltG : ∀ (k : Nat) (s : Rd), ∀ y ∈ natI (rdNums k s).1, y < 9223372036854775808
  | 0, s, y, h => by simp [rdNums, natI] at h
  | k + 1, s, y, h => by
    have e : (rdNums (k + 1) s).1 = (rdNum s).1 :: (rdNums k (rdNum s).2).1 := rfl
    rw [e] at h
    unfold natI at h
    rw [List.map_cons, List.mem_cons] at h
    rcases h with rfl | h
    · have := rdNum_lt s; omega
    · exact rdNums_ltG k _ y h
set_option maxHeartbeats 2000000 in
theorem rbytes_any (v : Value) (L : List Int) (w : World) (hv : ArgInts w v L) (hl : L.length ≤ 1000) (hx63 : ∀ x ∈ L, x < 9223372036854775808) :
    Calls Tryz.prog 52 #[v] w fun e w' => ∃ v, e = .returned v ∧ OwnB w' w.heap.size v (bytesG L) ∧ Kp No w w' := by
  have HV := Lib.hid hv; have HX := Lib.hid hx63
  obtain ⟨A, c, rfl, _, _⟩ := hv
  have pn0 := refNum_any (L.length : Int) w (by omega)
  rw [Int.toNat_natCast] at pn0
  have HNL0 := Lib.hid (numS_len 8 L.length (by omega))
  have HBG := Lib.hid (bytesG_out L)
  clear hx63
  go_enter Tryz.func52, Tryz.ntmps52
  go_wp2_with fail
  refine pn0.mono ?_
  rintro e w0 ⟨v0, rfl, o0, k0⟩
  have HO0 := Lib.hid o0; have HK0 := Lib.hid k0
  clear o0 k0 pn0
  go_wp2
  go_loopw [3, 4] (fun v i wr => ∃ k : Nat, k ≤ L.length ∧ i = .int .i64 k ∧ OwnB wr w.heap.size v (numS L.length ++ outI (L.take k)) ∧ Kp No w wr) (fun _ i _ => L.length - (intOf i).toNat)
  case atStart => exact ⟨0, Nat.zero_le _, rfl, by rw [List.take_zero]; simpa [outI] using HO0.out, HK0.out⟩
  case round =>
    obtain ⟨k, hk, rfl, ho, hK⟩ := hrel
    obtain ⟨l', hle⟩ : ∃ l', l' = numS L.length ++ outI (L.take k) := ⟨_, rfl⟩
    rw [← hle] at ho
    obtain ⟨A1, c1, rfl, _⟩ := own_len ho
    have hol := outI_len (L.take k) fun x hx => HX.out x (List.mem_of_mem_take hx)
    rw [List.length_take] at hol
    by_cases hlt : k < L.length
    · have hk0 : (0 : Int) ≤ (k : Int) := by omega
      have hk1 : (k : Int) < (L.length : Int) := by omega
      obtain ⟨g, o, c', e1, hxx⟩ := (HV.out.no hK).at_ hlt
      have hx := hxx k _ (List.getElem?_eq_getElem hlt)
      clear hxx
      injection e1 with e1 _ e1c
      subst e1 e1c
      have HT := Lib.hid (outI_snoc hlt)
      have hx63 := HX.out _ (List.getElem_mem hlt)
      generalize L[k] = x at *
      have pn := refNum_any x wr hx63
      have hnl : (numS x.toNat).length ≤ 9 := numS_len 8 x.toNat (by omega)
      have hll : l'.length ≤ 20000 := by have := HNL0.out; rw [hle, List.length_append]; omega
      have HLE := Lib.hid hle
      clear hle hol
      have HO := Lib.hid ho; have HK := Lib.hid hK; have HNL := Lib.hid hnl; clear ho hK hx63 hnl
      go_wp2_with fail
      refine pn.mono ?_
      rintro e w1 ⟨v1, rfl, o1, k1⟩
      obtain ⟨A2, c2, rfl, _⟩ := own_len o1
      have HO1 := Lib.hid (HO.out.no k1); have HK1 := Lib.hid (HK.out.trans k1); have HA2 := Lib.hid (own_argB o1)
      have hsz : w.heap.size ≤ w1.heap.size := HK1.out.size
      clear o1 k1 pn
      go_wp2_with (at_builtin; refine (wpList_appV _ rfl _ _ 69 rfl w.heap.size 5 _ 1 Tryz.underlying69 Tryz.infoByte rfl _ l'.length (u8s l') rfl HO1.out A2 (numS x.toNat).length c2 (u8s (numS x.toNat)) rfl (by simp) HA2.out.cs.1 (u8s_one _) (by have := HNL.out; omega) (by have := HNL.out; omega) hsz ?_); intro v3 w3 o3 k3 _)
      have O3 : Hid (OwnB w3 w.heap.size v3 (l' ++ numS x.toNat)) := Lib.hid (own_of o3 rfl)
      have K3 := Lib.hid (kp_own HO1.out HK1.out k3)
      clear o3 k3
      go_roundw
      case rel => exact ⟨k + 1, by omega, by go_num, by rw [HT.out, ← List.append_assoc, ← HLE.out]; exact O3.out, K3.out⟩
      case measure => simp [intOf]; omega
    · have hk' : k = L.length := by omega
      have hk1 : ¬ (k : Int) < (L.length : Int) := by omega
      have HLE := Lib.hid (show l' = bytesG L by rw [hle, hk', List.take_length, HBG.out])
      clear hle
      have HO := Lib.hid ho; have HK := Lib.hid hK
      clear hk' ho hK
      go_wp2
      go_ret
      exact ⟨_, rfl, by rw [← HLE.out]; exact HO.out, HK.out⟩
set_option maxRecDepth 100000 in
set_option maxHeartbeats 8000000 in
theorem rmark_any (A : Option Addr) (n c : Nat) (l : List UInt8) (at_ : Nat) (W : World) (hv : ArgB W (.slice A n c) l) : Calls Tryz.prog 75 #[.slice A n c, .int .i64 (at_ : Int)] W (MarkR W l at_) := by
  have pl := rlook_any A n c l W hv
  have HG : Hid (markG l at_ = match lookS l with
    | none => ([], 0)
    | some p => if p.gen = 1 ∧ p.parts = 1 ∧ 1 ≤ p.seq ∧ p.seq % 2 = at_ then
        match listedG p.data with
        | none => ([], 0)
        | some s => if validS s = true then (s, p.seq) else ([], 0)
      else ([], 0)) := Lib.hid rfl
  clear hv
  go_enter Tryz.func75, Tryz.ntmps75
  go_wp2_with fail
  refine pl.mono ?_
  rintro e w1 ⟨k1, hl⟩
  have HK := Lib.hid k1
  clear k1 pl
  cases hlk : lookS l with
  | none =>
    rw [hlk] at hl HG
    simp only at hl
    subst hl
    have HF := Lib.hid (mark_none (show markG l at_ = ([], 0) from HG.out) (HK.out.alloc (.cells #[.int .i64 0, .int .i64 0, .int .i64 0, .int .i64 0, .slice none 0 0] 95)))
    clear hlk HG
    unfold noPt ptC
    go_wp2
    go_ret2
    exact HF.out
  | some p =>
    have hlk2 := hlk
    rw [hlk] at hl HG
    obtain ⟨dv, rfl, ho⟩ := hl
    have hok := (lookS_some hlk2).1
    have hdl : p.data.length ≤ 47 := hok.2.2.2.2.2.1
    have hsq : p.seq ≤ 1073741824 := hok.2.2.1
    obtain ⟨D, dc, rfl, hdc⟩ : ∃ D dc, dv = .slice D p.data.length dc ∧ p.data.length ≤ dc := own_len ho
    have HOW := Lib.hid ho
    simp only at HG
    clear ho hlk hlk2 hok
    unfold ptV ptC
    have hs0 : (0 : Int) ≤ (p.seq : Int) := by omega
    go_upto_region 2 with (fail)
    have HK2 := Lib.hid (HK.out.alloc (.cells #[.int .i64 (p.gen : Int), .int .i64 (p.seq : Int), .int .i64 (p.idx : Int), .int .i64 (p.parts : Int), .slice D p.data.length dc] 95))
    have HB2 := Lib.hid (show Bk (w1.alloc (.cells #[.int .i64 (p.gen : Int), .int .i64 (p.seq : Int), .int .i64 (p.idx : Int), .int .i64 (p.parts : Int), .slice D p.data.length dc] 95)) w1.heap.size 95 [.int .i64 (p.gen : Int), .int .i64 (p.seq : Int), .int .i64 (p.idx : Int), .int .i64 (p.parts : Int), .slice D p.data.length dc] from Bk.new' rfl rfl)
    have HD2 := Lib.hid (show ArgB (w1.alloc (.cells #[.int .i64 (p.gen : Int), .int .i64 (p.seq : Int), .int .i64 (p.idx : Int), .int .i64 (p.parts : Int), .slice D p.data.length dc] 95)) (.slice D p.data.length dc) p.data from (own_argB HOW.out).no ((Kp.refl No w1).alloc _))
    have HOW2 := Lib.hid (own_kp HOW.out ((Kp.refl No w1).alloc (.cells #[.int .i64 (p.gen : Int), .int .i64 (p.seq : Int), .int .i64 (p.idx : Int), .int .i64 (p.parts : Int), .slice D p.data.length dc] 95)) fun _ _ m => m)
    have hsz : W.heap.size ≤ w1.heap.size := HK.out.size
    clear HOW HK
    generalize (w1.alloc (.cells #[.int .i64 (p.gen : Int), .int .i64 (p.seq : Int), .int .i64 (p.idx : Int), .int .i64 (p.parts : Int), .slice D p.data.length dc] 95)) = w2 at *
    have z0 : w2.cell? ⟨w1.heap.size, 0, none⟩ = some (.int .i64 (p.gen : Int)) := HB2.out.cell 0
    have z1 : w2.cell? ⟨w1.heap.size, 1, none⟩ = some (.int .i64 (p.seq : Int)) := HB2.out.cell 1
    have z3 : w2.cell? ⟨w1.heap.size, 3, none⟩ = some (.int .i64 (p.parts : Int)) := HB2.out.cell 3
    generalize w1.heap.size = pb at *
    go_cut [43] (fun s wx => s = .bool (decide (¬ (p.gen = 1 ∧ p.parts = 1 ∧ 1 ≤ p.seq ∧ p.seq % 2 = at_))) ∧ w2 = wx)
    case first =>
      by_cases c1 : p.gen = 1
      · have d1 : ((p.gen : Int) != 1) = false := by rw [bne_eq_false_iff_eq]; omega
        by_cases c2 : p.parts = 1
        · have d2 : ((p.parts : Int) != 1) = false := by rw [bne_eq_false_iff_eq]; omega
          by_cases c3 : 1 ≤ p.seq
          · have d3 : ¬ (p.seq : Int) < 1 := by omega
            by_cases c4 : p.seq % 2 = at_
            · have d4 : ((p.seq : Int) % 2 != (at_ : Int)) = false := by rw [bne_eq_false_iff_eq]; omega
              have HXX := Lib.hid (show decide (¬ (p.gen = 1 ∧ p.parts = 1 ∧ 1 ≤ p.seq ∧ p.seq % 2 = at_)) = false from decide_eq_false (fun h => h ⟨c1, c2, c3, c4⟩))
              clear c1 c2 c3 c4
              go_wp2
              go_meet
              exact ⟨by rw [HXX.out], by first | trivial | rfl⟩
            · have d4 : ((p.seq : Int) % 2 != (at_ : Int)) = true := by rw [bne_iff_ne]; omega
              have HXX := Lib.hid (show decide (¬ (p.gen = 1 ∧ p.parts = 1 ∧ 1 ≤ p.seq ∧ p.seq % 2 = at_)) = true from decide_eq_true (fun h => c4 h.2.2.2))
              clear c1 c2 c3 c4
              go_wp2
              go_meet
              exact ⟨by rw [HXX.out], by first | trivial | rfl⟩
          · have d3 : (p.seq : Int) < 1 := by omega
            have HXX := Lib.hid (show decide (¬ (p.gen = 1 ∧ p.parts = 1 ∧ 1 ≤ p.seq ∧ p.seq % 2 = at_)) = true from decide_eq_true (fun h => c3 h.2.2.1))
            clear c1 c2 c3
            go_wp2
            go_meet
            exact ⟨by rw [HXX.out], by first | trivial | rfl⟩
        · have d2 : ((p.parts : Int) != 1) = true := by rw [bne_iff_ne]; omega
          have HXX := Lib.hid (show decide (¬ (p.gen = 1 ∧ p.parts = 1 ∧ 1 ≤ p.seq ∧ p.seq % 2 = at_)) = true from decide_eq_true (fun h => c2 h.2.1))
          clear c1 c2
          go_wp2
          go_meet
          exact ⟨by rw [HXX.out], by first | trivial | rfl⟩
      · have d1 : ((p.gen : Int) != 1) = true := by rw [bne_iff_ne]; omega
        have HXX := Lib.hid (show decide (¬ (p.gen = 1 ∧ p.parts = 1 ∧ 1 ≤ p.seq ∧ p.seq % 2 = at_)) = true from decide_eq_true (fun h => c1 h.1))
        clear c1
        go_wp2
        go_meet
        exact ⟨by rw [HXX.out], by first | trivial | rfl⟩
    case rest =>
      obtain ⟨rfl, rfl⟩ := hcut
      by_cases hc : p.gen = 1 ∧ p.parts = 1 ∧ 1 ≤ p.seq ∧ p.seq % 2 = at_
      · rw [decide_eq_false (fun h => h hc)]
        rw [if_pos hc] at HG
        clear hc z0 z3
        have z4 : w2.cell? ⟨pb, 4, none⟩ = some (.slice D p.data.length dc) := HB2.out.cell 4
        have HN0 := Lib.hid (show p.data ≠ [] → ∀ g, (Value.slice D p.data.length dc).ownBlock = some g → g < w2.heap.size from fun hne g hg => by
          obtain ⟨g', o', e', hr'⟩ := HD2.out.cs.1 (by intro e; apply hne; exact List.eq_nil_of_length_eq_zero (by rw [← u8s_length p.data, e]; rfl))
          rw [e'] at hg
          have hg : g' = g := by simpa [Value.ownBlock] using hg
          rw [← hg]
          exact range_lt hr' (by rw [u8s_length]; exact List.length_pos_iff.2 hne))
        have HB3 := Lib.hid (HB2.out.alloc (.cells #[.slice D p.data.length dc, .int .i64 0] 163))
        have HRB := Lib.hid (show Bk (w2.alloc (.cells #[.slice D p.data.length dc, .int .i64 0] 163)) w2.heap.size 163 [.slice D p.data.length dc, .int .i64 0] from Bk.new' rfl rfl)
        have HK3 := Lib.hid (HK2.out.alloc (.cells #[.slice D p.data.length dc, .int .i64 0] 163))
        have HD3 := Lib.hid (HD2.out.no ((Kp.refl No w2).alloc (.cells #[.slice D p.data.length dc, .int .i64 0] 163)))
        have HW3 := Lib.hid (own_kp HOW2.out ((Kp.refl No w2).alloc (.cells #[.slice D p.data.length dc, .int .i64 0] 163)) fun _ _ m => m)
        have pr := refReadNum_any D dc (p.data, 0) (w2.alloc (.cells #[.slice D p.data.length dc, .int .i64 0] 163)) HD3.out (by show p.data.length ≤ _; unfold maxLen; omega)
        unfold RefRd at pr
        obtain ⟨n1, r1, e1, hrd⟩ : ∃ a b c, rdNum (p.data, 0) = (a, (b, c)) := ⟨_, _, _, rfl⟩
        have hn1 : n1 < 9223372036854775808 := by have := rdNum_lt (p.data, 0); rw [hrd] at this; exact this
        have hr1 : r1.length ≤ p.data.length := by have := (rdNums_len 1 (p.data, 0)).2; rw [show (rdNums 1 (p.data, 0)).2 = (rdNum (p.data, 0)).2 from rfl, hrd] at this; exact this
        rw [hrd] at pr
        have HRD := Lib.hid (show rdCnts (p.data, 0) = rdNums (min n1 5) (r1, e1) from by unfold rdCnts; rw [hrd])
        have hsz2 : W.heap.size ≤ w2.heap.size := HK2.out.size
        clear hrd HB2 HK2 HD2 z1 HOW2
        go_wp2_with fail
        clear z4
        refine pr.mono ?_
        rintro e w3 ⟨v3, rfl, ha3, sb3, k3⟩
        obtain ⟨A3, c3, hv3, _⟩ := id ha3
        subst hv3
        have HR5 := Lib.hid (RkS.put (s := (p.data, 0)) (s2 := (r1, e1)) HRB.out HN0.out (Nat.le_refl _) k3 ha3 sb3 hr1)
        have k5 := rdK2 (b := w2.heap.size) (x := .slice A3 r1.length c3) (y := .int .i64 e1) k3
        have HB5 := Lib.hid (HB3.out.kp k5 (fun e => HB3.out.ne_ HRB.out (by decide) e))
        have HW5 := Lib.hid (own_kp HW3.out k5 fun q e m => by
          obtain ⟨cs, hq⟩ := own_bk HW3.out q e
          exact hq.ne_ HRB.out (by decide) m)
        have HK5 := Lib.hid (HK3.out.then_ k5 fun i hi e => by have e : i = w2.heap.size := e; omega)
        have q0 : w3.cell? ⟨w2.heap.size, 0, none⟩ = some (.slice D p.data.length dc) := (HRB.out.no k3).cell 0
        have q1 : w3.cell? ⟨w2.heap.size, 1, none⟩ = some (.int .i64 0) := (HRB.out.no k3).cell 1
        have gf := (HRB.out.no k3).frozen
        clear pr ha3 sb3 k3 k5 HB3 HRB HK3 HD3 HW3 HN0
        go_upto_region 6 with (fail)
        clear q0 q1 gf
        generalize (w3.setCell ⟨w2.heap.size, 0, none⟩ (.slice A3 r1.length c3)).setCell ⟨w2.heap.size, 1, none⟩ (.int .i64 e1) = w5 at *
        generalize w2.heap.size = rb at *
        go_wp2
        go_loopw [11, 10] (fun i v wr => ∃ k : Nat, k ≤ n1 ∧ k ≤ 5 ∧ i = .int .i64 k ∧ RkS wr rb rb (rdNums k (r1, e1)).2 ∧ wr.ownsRow W.heap.size 3 1 v k (ints (natI (rdNums k (r1, e1)).1)) ∧ OwnB wr W.heap.size (.slice D p.data.length dc) p.data ∧ Bk wr pb 95 [.int .i64 (p.gen : Int), .int .i64 (p.seq : Int), .int .i64 (p.idx : Int), .int .i64 (p.parts : Int), .slice D p.data.length dc] ∧ (∀ q, v.ownBlock = some q → rb ≤ q) ∧ Kp No W wr) (fun i _ _ => 5 - (intOf i).toNat)
        case atStart => exact ⟨0, Nat.zero_le _, Nat.zero_le _, rfl, HR5.out, nil_own _ _ _ _, HW5.out, HB5.out, (fun q e => by simp [Value.ownBlock] at e), HK5.out⟩
        case round =>
        obtain ⟨k, hkn, hk5, rfl, hrk, ho, hw, hbp, hqb, hkp⟩ := hrel
        have HQB := Lib.hid hqb
        clear HR5 HW5 HB5 HK5
        have HRK := Lib.hid hrk; have HO := Lib.hid ho; have HWR := Lib.hid hw; have HBP := Lib.hid hbp; have HKP := Lib.hid hkp
        obtain ⟨AO, cO, rfl, _⟩ := own_len ho
        have hln := rdNums_len k (r1, e1)
        clear hrk ho hw hbp hqb hkp
        by_cases hk : k < n1 ∧ k < 5
        · obtain ⟨hk1, hk2⟩ := hk
          have hk1b : (k : Int) < (n1 : Int) := by omega
          have hk2b : (k : Int) < 5 := by omega
          obtain ⟨sn1, sn2⟩ := rdNums_snoc k (r1, e1)
          have HS1 := Lib.hid sn1; have HS2 := Lib.hid sn2
          clear sn1 sn2
          generalize hst : rdNums k (r1, e1) = q at *
          obtain ⟨xs, st⟩ := q
          simp only at HRK HO hln HS1 HS2
          obtain ⟨Ar, cr, hb, hv, hn⟩ := HRK.out
          have z0 : wr.cell? ⟨rb, 0, none⟩ = some (.slice Ar st.1.length cr) := hb.cell 0
          have z1 : wr.cell? ⟨rb, 1, none⟩ = some (.int .i64 st.2) := hb.cell 1
          have pr := refReadNum_any Ar cr st wr hv (by have := hln.2; unfold maxLen; show st.1.length ≤ _; have h : st.1.length ≤ r1.length := hln.2; omega)
          unfold RefRd at pr
          have hle : (rdNum st).2.1.length ≤ st.1.length := (rdNums_len 1 st).2
          have hxl := rdNum_lt st
          generalize hq : rdNum st = q at *
          obtain ⟨x, st2⟩ := q
          simp only at pr hle hxl HS1 HS2
          have HB := Lib.hid hb; have HN := Lib.hid hn
          clear hb hv hn hst hq
          go_wp2_with fail
          clear z0 z1
          refine pr.mono ?_
          rintro e w3 ⟨v3, rfl, ha3, sb3, k3⟩
          obtain ⟨A4, c4, hv4, _⟩ := id ha3
          subst hv4
          have HR5 := Lib.hid ((RkS.put (s := st) (s2 := st2) HB.out HN.out (Nat.le_refl _) k3 ha3 sb3 hle).no ((Kp.refl No _).alloc (.cells #[.slice A4 st2.1.length c4, .int .i64 st2.2] 163)))
          have k5 := (rdK2 (b := rb) (x := .slice A4 st2.1.length c4) (y := .int .i64 st2.2) k3).alloc (.cells #[.slice A4 st2.1.length c4, .int .i64 st2.2] 163)
          have HB5 := Lib.hid (HBP.out.kp k5 (fun e => HBP.out.ne_ HB.out (by decide) e))
          have HW5 := Lib.hid (own_kp HWR.out k5 fun q e m => by
            obtain ⟨cs, hq⟩ := own_bk HWR.out q e
            exact hq.ne_ HB.out (by decide) m)
          have HO5 := Lib.hid (own_kp HO.out k5 fun q e m => by
            obtain ⟨cs, hq⟩ := own_bk HO.out q e
            exact hq.ne_ HB.out (by decide) m)
          have HK5 := Lib.hid (HKP.out.then_ k5 fun i hi e => by have e : i = rb := e; omega)
          have y0 : w3.cell? ⟨rb, 0, none⟩ = some (.slice Ar st.1.length cr) := (HB.out.no k3).cell 0
          have y1 : w3.cell? ⟨rb, 1, none⟩ = some (.int .i64 st.2) := (HB.out.no k3).cell 1
          have yf := (HB.out.no k3).frozen
          have hlt : rb < w3.heap.size := (HB.out.no k3).lt
          clear pr ha3 sb3 k3 k5
          go_upto_region 12 with (fail)
          clear y0 y1 yf hlt
          generalize ((w3.setCell ⟨rb, 0, none⟩ (.slice A4 st2.1.length c4)).setCell ⟨rb, 1, none⟩ (.int .i64 st2.2)).alloc (.cells #[.slice A4 st2.1.length c4, .int .i64 st2.2] 163) = w6 at *
          have HOA := Lib.hid (own_kp HO5.out ((Kp.refl No w6).alloc (.cells #[.int .i64 (x : Int)] 3)) fun _ _ m => m)
          have hsz6 : W.heap.size ≤ (w6.alloc (.cells #[.int .i64 (x : Int)] 3)).heap.size := (HK5.out.alloc (.cells #[.int .i64 (x : Int)] 3)).size
          go_wp2_with (at_builtin; refine (wpList_appV _ rfl _ _ 31 rfl W.heap.size 3 _ 8 Tryz.underlying31 Tryz.infoI rfl _ k (ints (natI xs)) rfl HOA.out (some ⟨w6.heap.size, 0, none⟩) 1 1 [.int .i64 (x : Int)] rfl rfl (cs_new rfl rfl) (by simp [Value.oneCell']) (by omega) (by omega) hsz6 ?_); intro v9 w9 on kn nn; have HON := Lib.hid on; have HKN := Lib.hid kn; have HNN := Lib.hid nn; clear on kn nn)
          have kn2 := ((Kp.refl (fun q => (Value.slice AO k cO).ownBlock = some q) w6).alloc (.cells #[.int .i64 (x : Int)] 3)).trans HKN.out
          have HR9 := Lib.hid (HR5.out.kp kn2 (fun e => by
            obtain ⟨cs, hq⟩ := own_bk HO5.out rb e
            obtain ⟨_, _, hb, _⟩ := HR5.out
            exact hq.ne_ hb (by decide) rfl) fun q e => HQB.out q e)
          have HB9 := Lib.hid (HB5.out.kp kn2 fun e => by
            obtain ⟨cs, hq⟩ := own_bk HO5.out pb e
            exact hq.ne_ HB5.out (by decide) rfl)
          have HW9 := Lib.hid (own_kp HW5.out kn2 fun q e m => by
            obtain ⟨cs, hq⟩ := own_bk HW5.out q e
            obtain ⟨cs2, hq2⟩ := own_bk HO5.out q m
            exact hq.ne_ hq2 (by decide) rfl)
          have HK9 := Lib.hid (kp_own HO5.out HK5.out kn2)
          have hrl : rb < w6.heap.size := by obtain ⟨_, _, hb, _⟩ := HR5.out; exact hb.lt
          have HQ9 := Lib.hid (show ∀ q, v9.ownBlock = some q → rb ≤ q from fun q e => by
            rcases HNN.out q e with h | h
            · exact HQB.out q h
            · rw [h]
              have := ((Kp.refl No w6).alloc (.cells #[.int .i64 (x : Int)] 3)).size
              omega)
          clear kn2 hrl
          go_roundw
          case rel =>
            refine ⟨k + 1, by omega, by omega, by go_num, by rw [HS2.out]; exact HR9.out, ?_, HW9.out, HB9.out, HQ9.out, HK9.out⟩
            rw [HS1.out]
            have e : ints (natI (xs ++ [x])) = ints (natI xs) ++ [.int .i64 (x : Int)] := by simp [ints, natI]
            rw [e]
            exact HON.out
          case measure => simp [intOf]; omega
        · have hkm : k = min n1 5 := by omega
          have HXS := Lib.hid (show (rdNums k (r1, e1)).1 = (rdCnts (p.data, 0)).1 from by rw [HRD.out, hkm])
          have HMR := Lib.hid (mark_ref p.data)
          have hxl : ∀ y ∈ natI (rdNums k (r1, e1)).1, y < 9223372036854775808 := rdNums_ltG k (r1, e1)
          have hlx : (natI (rdNums k (r1, e1)).1).length = k := by unfold natI; rw [List.length_map]; exact hln.1
          rw [← HXS.out] at HMR
          generalize natI (rdNums k (r1, e1)).1 = S at *
          have HLX := Lib.hid hlx
          clear hln HRK HRD HQB HXS hkm hr1
          have hk5c : k ≤ 5 := hk5
          -- the test
          have e1b : (decide ((k : Int) < (n1 : Int)) && decide ((k : Int) < 5)) = false := by simp; omega
          have HNK := Lib.hid hk
          clear e1b
          have hag : ArgInts wr (.slice AO k cO) S := by
            have h : wr.ownsRow W.heap.size 3 1 (.slice AO S.length cO) S.length (ints S) := by rw [HLX.out]; exact HO.out
            have h2 := own_argI h
            rw [HLX.out] at h2
            exact h2
          have pb1 := rbytes_any (.slice AO k cO) S wr hag (by rw [HLX.out]; omega) hxl
          have HAG := Lib.hid hag
          clear hag
          have HEX := Lib.hid hxl
          clear hxl hlx
          by_cases hk1 : k < n1
          · have hk1b : (k : Int) < (n1 : Int) := by omega
            have hk2b : ¬ (k : Int) < 5 := by omega
            clear hk
            go_wp2_with fail
            refine pb1.mono ?_
            rintro e w4 ⟨vb, rfl, ob, kb⟩
            obtain ⟨Ab, cb, rfl, _⟩ := own_len ob
            have HBY := Lib.hid ob
            have HK4 := Lib.hid (HKP.out.trans kb)
            have HS4 := Lib.hid (HAG.out.no kb)
            have HO4 := Lib.hid (own_kp HO.out kb fun _ _ m => m)
            have HB4 := Lib.hid (HBP.out.no kb)
            have HW4 := Lib.hid (own_kp HWR.out kb fun _ _ m => m)
            clear pb1 ob kb HKP HAG HBP HO HWR
            generalize bytesG S = bb at *
            go_upto_region 14 with (fail)
            go_cut [88] (fun s wx => s = .bool (decide (¬ (S ≠ [] ∧ validS S = true ∧ bb = p.data))) ∧ w4 = wx)
            case first =>
              by_cases hk0 : k = 0
              · have hS : S = [] := List.eq_nil_of_length_eq_zero (by rw [HLX.out, hk0])
                have HXX := Lib.hid (show decide (¬ (S ≠ [] ∧ validS S = true ∧ bb = p.data)) = true from decide_eq_true (fun h => h.1 hS))
                have hk0b : ((k : Int) == 0) = true := by rw [hk0]; rfl
                clear hS hk0
                go_wp2
                go_meet
                exact ⟨by rw [HXX.out], by first | trivial | rfl⟩
              · have hk0b : ((k : Int) == 0) = false := by rw [beq_eq_false_iff_ne]; omega
                have hSne : S ≠ [] := fun e => hk0 (by rw [← HLX.out, e]; rfl)
                have pv := rvalidS_any (.slice AO k cO) S w4 HS4.out (by rw [HLX.out]; unfold maxLen; omega)
                cases hv : validS S with
                | false =>
                  rw [hv] at pv
                  have HXX := Lib.hid (show decide (¬ (S ≠ [] ∧ validS S = true ∧ bb = p.data)) = true from decide_eq_true (fun h => by have h2 := h.2.1; rw [hv] at h2; cases h2))
                  clear hv hk0 hSne
                  go_wp2_with fail
                  refine pv.mono ?_
                  rintro e w' ⟨rfl, rfl⟩
                  clear pv
                  go_wp2
                  go_meet
                  exact ⟨by rw [HXX.out], by first | trivial | rfl⟩
                | true =>
                  rw [hv] at pv
                  have sx : (convert 69 9 (.slice Ab bb.length cb)).run Tryz.prog w4 = .ok (.string ⟨bb.toArray⟩) w4 := (own_argB HBY.out).str _ 5 _ Tryz.underlying69 Tryz.underlying5 Tryz.underlying9
                  have sy : (convert 69 9 (.slice D p.data.length dc)).run Tryz.prog w4 = .ok (.string ⟨p.data.toArray⟩) w4 := (own_argB HW4.out).str _ 5 _ Tryz.underlying69 Tryz.underlying5 Tryz.underlying9
                  have z4 : w4.cell? ⟨pb, 4, none⟩ = some (.slice D p.data.length dc) := HB4.out.cell 4
                  have HBE := Lib.hid (show ∀ q : Bool, (bb == p.data) = q → decide (¬ (S ≠ [] ∧ validS S = true ∧ bb = p.data)) = !q from fun q hq => by
                    cases q with
                    | true => exact decide_eq_false (fun h => h ⟨hSne, hv, eq_of_beq hq⟩)
                    | false => exact decide_eq_true (fun h => by rw [h.2.2] at hq; simp at hq))
                  clear hk0 hSne hv
                  cases hq : (bb == p.data) with
                  | true =>
                    have HXX := Lib.hid (HBE.out true hq)
                    go_wp2_with fail
                    refine pv.mono ?_
                    rintro e w' ⟨rfl, rfl⟩
                    clear pv
                    go_wp2
                    go_meet
                    exact ⟨by rw [HXX.out]; rfl, by first | trivial | rfl⟩
                  | false =>
                    have HXX := Lib.hid (HBE.out false hq)
                    go_wp2_with fail
                    refine pv.mono ?_
                    rintro e w' ⟨rfl, rfl⟩
                    clear pv
                    go_wp2
                    go_meet
                    exact ⟨by rw [HXX.out]; rfl, by first | trivial | rfl⟩
            case rest =>
              obtain ⟨rfl, rfl⟩ := hcut
              by_cases hc : S ≠ [] ∧ validS S = true ∧ bb = p.data
              · rw [decide_eq_false (fun h => h hc)]
                have HF := Lib.hid (show MarkR W l at_ (.returned (.tuple #[.slice AO k cO, .int .i64 (p.seq : Int)])) w4 from by
                  have e : markG l at_ = (S, p.seq) := by
                    rw [HG.out, HMR.out.1 hc]
                    show (if validS S = true then (S, p.seq) else ([], 0)) = _
                    rw [if_pos hc.2.1]
                  refine ⟨_, by rw [e], ?_, HK4.out⟩
                  rw [e]
                  show w4.ownsRow W.heap.size 3 1 (.slice AO k cO) S.length (ints S)
                  rw [HLX.out]; exact HO4.out)
                have y1 : w4.cell? ⟨pb, 1, none⟩ = some (.int .i64 (p.seq : Int)) := HB4.out.cell 1
                clear hc
                go_wp2
                go_quiet (fail)
                go_wp2
                go_ret2
                obtain ⟨sv, h1, h2, h3⟩ := HF.out
                exact ⟨sv, h1, own_kp h2 ((Kp.refl No w4).drewN _) (fun _ _ m => m), h3.drewN _⟩
              · rw [decide_eq_true hc]
                have HF := Lib.hid (mark_none (show markG l at_ = ([], 0) from by
                  have hno := HMR.out.2 hc
                  rw [HG.out]
                  cases hd : listedG p.data with
                  | none => rfl
                  | some t =>
                    show (if validS t = true then (t, p.seq) else ([], 0)) = _
                    rw [if_neg (by rw [hno t hd]; decide)]) HK4.out)
                clear hc
                go_wp2
                go_ret2
                exact HF.out
          · have hk1b : ¬ (k : Int) < (n1 : Int) := by omega
            clear hk
            go_wp2_with fail
            refine pb1.mono ?_
            rintro e w4 ⟨vb, rfl, ob, kb⟩
            obtain ⟨Ab, cb, rfl, _⟩ := own_len ob
            have HBY := Lib.hid ob
            have HK4 := Lib.hid (HKP.out.trans kb)
            have HS4 := Lib.hid (HAG.out.no kb)
            have HO4 := Lib.hid (own_kp HO.out kb fun _ _ m => m)
            have HB4 := Lib.hid (HBP.out.no kb)
            have HW4 := Lib.hid (own_kp HWR.out kb fun _ _ m => m)
            clear pb1 ob kb HKP HAG HBP HO HWR
            generalize bytesG S = bb at *
            go_upto_region 14 with (fail)
            go_cut [88] (fun s wx => s = .bool (decide (¬ (S ≠ [] ∧ validS S = true ∧ bb = p.data))) ∧ w4 = wx)
            case first =>
              by_cases hk0 : k = 0
              · have hS : S = [] := List.eq_nil_of_length_eq_zero (by rw [HLX.out, hk0])
                have HXX := Lib.hid (show decide (¬ (S ≠ [] ∧ validS S = true ∧ bb = p.data)) = true from decide_eq_true (fun h => h.1 hS))
                have hk0b : ((k : Int) == 0) = true := by rw [hk0]; rfl
                clear hS hk0
                go_wp2
                go_meet
                exact ⟨by rw [HXX.out], by first | trivial | rfl⟩
              · have hk0b : ((k : Int) == 0) = false := by rw [beq_eq_false_iff_ne]; omega
                have hSne : S ≠ [] := fun e => hk0 (by rw [← HLX.out, e]; rfl)
                have pv := rvalidS_any (.slice AO k cO) S w4 HS4.out (by rw [HLX.out]; unfold maxLen; omega)
                cases hv : validS S with
                | false =>
                  rw [hv] at pv
                  have HXX := Lib.hid (show decide (¬ (S ≠ [] ∧ validS S = true ∧ bb = p.data)) = true from decide_eq_true (fun h => by have h2 := h.2.1; rw [hv] at h2; cases h2))
                  clear hv hk0 hSne
                  go_wp2_with fail
                  refine pv.mono ?_
                  rintro e w' ⟨rfl, rfl⟩
                  clear pv
                  go_wp2
                  go_meet
                  exact ⟨by rw [HXX.out], by first | trivial | rfl⟩
                | true =>
                  rw [hv] at pv
                  have sx : (convert 69 9 (.slice Ab bb.length cb)).run Tryz.prog w4 = .ok (.string ⟨bb.toArray⟩) w4 := (own_argB HBY.out).str _ 5 _ Tryz.underlying69 Tryz.underlying5 Tryz.underlying9
                  have sy : (convert 69 9 (.slice D p.data.length dc)).run Tryz.prog w4 = .ok (.string ⟨p.data.toArray⟩) w4 := (own_argB HW4.out).str _ 5 _ Tryz.underlying69 Tryz.underlying5 Tryz.underlying9
                  have z4 : w4.cell? ⟨pb, 4, none⟩ = some (.slice D p.data.length dc) := HB4.out.cell 4
                  have HBE := Lib.hid (show ∀ q : Bool, (bb == p.data) = q → decide (¬ (S ≠ [] ∧ validS S = true ∧ bb = p.data)) = !q from fun q hq => by
                    cases q with
                    | true => exact decide_eq_false (fun h => h ⟨hSne, hv, eq_of_beq hq⟩)
                    | false => exact decide_eq_true (fun h => by rw [h.2.2] at hq; simp at hq))
                  clear hk0 hSne hv
                  cases hq : (bb == p.data) with
                  | true =>
                    have HXX := Lib.hid (HBE.out true hq)
                    go_wp2_with fail
                    refine pv.mono ?_
                    rintro e w' ⟨rfl, rfl⟩
                    clear pv
                    go_wp2
                    go_meet
                    exact ⟨by rw [HXX.out]; rfl, by first | trivial | rfl⟩
                  | false =>
                    have HXX := Lib.hid (HBE.out false hq)
                    go_wp2_with fail
                    refine pv.mono ?_
                    rintro e w' ⟨rfl, rfl⟩
                    clear pv
                    go_wp2
                    go_meet
                    exact ⟨by rw [HXX.out]; rfl, by first | trivial | rfl⟩
            case rest =>
              obtain ⟨rfl, rfl⟩ := hcut
              by_cases hc : S ≠ [] ∧ validS S = true ∧ bb = p.data
              · rw [decide_eq_false (fun h => h hc)]
                have HF := Lib.hid (show MarkR W l at_ (.returned (.tuple #[.slice AO k cO, .int .i64 (p.seq : Int)])) w4 from by
                  have e : markG l at_ = (S, p.seq) := by
                    rw [HG.out, HMR.out.1 hc]
                    show (if validS S = true then (S, p.seq) else ([], 0)) = _
                    rw [if_pos hc.2.1]
                  refine ⟨_, by rw [e], ?_, HK4.out⟩
                  rw [e]
                  show w4.ownsRow W.heap.size 3 1 (.slice AO k cO) S.length (ints S)
                  rw [HLX.out]; exact HO4.out)
                have y1 : w4.cell? ⟨pb, 1, none⟩ = some (.int .i64 (p.seq : Int)) := HB4.out.cell 1
                clear hc
                go_wp2
                go_quiet (fail)
                go_wp2
                go_ret2
                obtain ⟨sv, h1, h2, h3⟩ := HF.out
                exact ⟨sv, h1, own_kp h2 ((Kp.refl No w4).drewN _) (fun _ _ m => m), h3.drewN _⟩
              · rw [decide_eq_true hc]
                have HF := Lib.hid (mark_none (show markG l at_ = ([], 0) from by
                  have hno := HMR.out.2 hc
                  rw [HG.out]
                  cases hd : listedG p.data with
                  | none => rfl
                  | some t =>
                    show (if validS t = true then (t, p.seq) else ([], 0)) = _
                    rw [if_neg (by rw [hno t hd]; decide)]) HK4.out)
                clear hc
                go_wp2
                go_ret2
                exact HF.out
      · rw [decide_eq_true hc]
        rw [if_neg hc] at HG
        have HF := Lib.hid (mark_none (show markG l at_ = ([], 0) from HG.out) HK2.out)
        clear hc HG
        go_wp2
        go_ret2
        exact HF.out
end Go.Proofs.YtlgbmkdeamgpkaaGreatDoor
