/- Several texts of this claim in one. No condition beyond what each theorem states. -/
import Derived.Test.YtifdceofglocdaaB37
import Derived.Test.YtifdceofglocdaaB13
import Derived.Test.YtifdceofglocdaaB15
/- The document's TakeText and ReadText by contract. No condition beyond what each theorem states. -/
namespace Go.Proofs.Ytifdceofglocdaa
open Go Go.RowKit Go.PlainAid

def takeT (most : Nat) (l : List UInt8) : List UInt8 × Nat × Int := if (takeN 0 l).2.2 ≠ 0 then ([], 0, (takeN 0 l).2.2) else if most < (takeN 0 l).1 then ([], 0, 21) else if l.length - (takeN 0 l).2.1 < (takeN 0 l).1 then ([], 0, 20) else ((l.drop (takeN 0 l).2.1).take (takeN 0 l).1, (takeN 0 l).2.1 + (takeN 0 l).1, 0)
set_option maxRecDepth 100000 in
set_option maxHeartbeats 2000000 in
theorem refTakeText_any (A : Option Addr) (c : Nat) (l : List UInt8) (w : World) (hv : ArgB w (.slice A l.length c) l) (hm : l.length ≤ maxLen) :
    Calls Try.prog 87 #[.slice A l.length c, .int .i64 188] w fun e w' => e = .returned (.tuple #[.string ⟨(takeT 188 l).1.toArray⟩, .int .i64 ((takeT 188 l).2.1 : Int), .int .i64 (takeT 188 l).2.2]) ∧ w = w' := by
  have pt := refTake_any A c l w hv hm
  have hkl := takeN_len l
  have hn63 := takeN_lt l
  unfold maxLen at hm
  have HE := Lib.hid (show takeT 188 l = if (takeN 0 l).2.2 ≠ 0 then ([], 0, (takeN 0 l).2.2) else if 188 < (takeN 0 l).1 then ([], 0, 21) else if l.length - (takeN 0 l).2.1 < (takeN 0 l).1 then ([], 0, 20) else ((l.drop (takeN 0 l).2.1).take (takeN 0 l).1, (takeN 0 l).2.1 + (takeN 0 l).1, 0) from rfl)
  obtain ⟨n, k, er, ht⟩ : ∃ n k er, takeN 0 l = (n, k, er) := ⟨_, _, _, rfl⟩
  rw [ht] at pt hkl hn63 HE
  simp only at pt hkl hn63 HE
  by_cases he : er = 0
  · subst he
    have hpos : 0 < l.length := by
      rcases Nat.eq_zero_or_pos l.length with h0 | h0
      · rw [List.eq_nil_of_length_eq_zero h0] at ht
        simp [takeN] at ht
      · exact h0
    by_cases h1 : 188 < n
    · have d1 : (188 : Int) < (n : Int) := by omega
      have HR := Lib.hid (show takeT 188 l = ([], 0, 21) by rw [HE.out]; simp [h1])
      clear hv ht h1
      go_enter Try.func87, Try.ntmps87
      go_wp2_with fail
      refine pt.mono ?_
      rintro e w' ⟨rfl, rfl⟩
      clear pt
      go_wp2
      go_ret3
      exact ⟨by rw [HR.out]; rfl, rfl⟩
    · have d1 : ¬ (188 : Int) < (n : Int) := by omega
      by_cases h2 : l.length - k < n
      · have d2 : (l.length : Int) - (k : Int) < (n : Int) := by omega
        have HR := Lib.hid (show takeT 188 l = ([], 0, 20) by rw [HE.out]; simp [h1, h2])
        clear hv ht h1 h2
        go_enter Try.func87, Try.ntmps87
        go_wp2_with fail
        refine pt.mono ?_
        rintro e w' ⟨rfl, rfl⟩
        clear pt
        go_wp2
        go_ret3
        exact ⟨by rw [HR.out]; rfl, rfl⟩
      · have d2 : ¬ (l.length : Int) - (k : Int) < (n : Int) := by omega
        have HR := Lib.hid (show takeT 188 l = ((l.drop k).take n, k + n, 0) by rw [HE.out]; simp [h1, h2])
        obtain ⟨g, o, c', e2, _⟩ := hv.at_ hpos
        injection e2 with e2 _ e3
        subst e2 e3
        obtain ⟨⟨o1, r1, a1⟩, _⟩ := argB_mid hv k n (by omega)
        have hcv := conv_argB a1
        have hl1 : ((l.drop k).take n).length = n := by rw [List.length_take, List.length_drop]; omega
        rw [hl1] at hcv
        obtain ⟨S, hS⟩ : ∃ S : ByteArray, S = ⟨((l.drop k).take n).toArray⟩ := ⟨_, rfl⟩
        rw [← hS] at hcv
        have HS := Lib.hid hS
        clear hv ht h1 h2 a1 hl1 hS
        go_enter Try.func87, Try.ntmps87
        go_wp2_with fail
        refine pt.mono ?_
        rintro e w' ⟨rfl, rfl⟩
        clear pt
        go_wp2
        go_ret3
        refine ⟨?_, rfl⟩
        rw [HR.out, ← HS.out]
        simp only [Int.natCast_add]
        rfl
  · have HR := Lib.hid (show takeT 188 l = ([], 0, er) by rw [HE.out]; simp [he])
    have d1 : (er != 0) = true := by rw [bne_iff_ne]; exact he
    clear hv ht he
    go_enter Try.func87, Try.ntmps87
    go_wp2_with fail
    refine pt.mono ?_
    rintro e w' ⟨rfl, rfl⟩
    clear pt
    go_wp2
    go_ret3
    exact ⟨by rw [HR.out]; rfl, rfl⟩
set_option maxRecDepth 100000 in
set_option maxHeartbeats 2000000 in
theorem refReadT_err (A : Option Addr) (c : Nat) (l : List UInt8) (err : Int) (w : World) (hv : ArgB w (.slice A l.length c) l) (he : err ≠ 0) :
    Calls Try.prog 65 #[.agg #[.slice A l.length c, .int .i64 err], .int .i64 188] w (RefRd w (.slice A l.length c) (rdText 188 (l, err)).2 (.string ⟨(rdText 188 (l, err)).1.toArray⟩)) := by
  have e1 : rdText 188 (l, err) = ([], (l, err)) := by unfold rdText; simp [he]
  rw [e1]
  have HV := Lib.hid hv; clear hv
  have d1 : (err != 0) = true := by rw [bne_iff_ne]; exact he
  clear he e1
  go_enter Try.func65, Try.ntmps65
  go_wp2
  go_region
  all_goals
    go_wp2
    have K : Kp No w ((w.alloc (.cells #[.slice A l.length c, .int .i64 err] 94)).alloc (.cells #[.slice A l.length c, .int .i64 err] 94)).drew := (((Kp.refl No w).alloc _).alloc _).drew
    refine bodyPost_ret (v := .tuple #[.string ⟨#[]⟩, .agg #[.slice A l.length c, .int .i64 err]]) (by simp [results, Try.results65, go_sem]) rfl ?_
    exact ⟨_, rfl, HV.out.no K, fun g h => h, K⟩
set_option maxRecDepth 100000 in
set_option maxHeartbeats 2000000 in
theorem refReadT_any (A : Option Addr) (c : Nat) (l : List UInt8) (w : World) (hv : ArgB w (.slice A l.length c) l) (hm : l.length ≤ maxLen) :
    Calls Try.prog 65 #[.agg #[.slice A l.length c, .int .i64 0], .int .i64 188] w (RefRd w (.slice A l.length c) (rdText 188 (l, 0)).2 (.string ⟨(rdText 188 (l, 0)).1.toArray⟩)) := by
  have kA : Kp No w ((w.alloc (.cells #[.slice A l.length c, .int .i64 0] 94)).alloc (.cells #[.slice none 0 0, .int .i64 0] 94)) := ((Kp.refl No w).alloc _).alloc _
  have pt := refTakeText_any A c l _ (hv.no kA) hm
  have HK := Lib.hid kA
  have hkl : (takeT 188 l).2.1 ≤ l.length := by
    have := takeN_len l
    unfold takeT
    repeat' split
    all_goals simp
    all_goals omega
  have hrd : rdText 188 (l, 0) = if (takeT 188 l).2.2 = 0 then ((takeT 188 l).1, (l.drop (takeT 188 l).2.1, 0)) else ([], (l, (takeT 188 l).2.2)) := by
    unfold rdText takeT
    simp only [ne_eq, not_true_eq_false, if_false]
    generalize takeN 0 l = q
    obtain ⟨n, k, e⟩ := q
    simp only
    by_cases h0 : e = 0
    · by_cases h1 : 188 < n
      · simp [h0, h1]
      · by_cases h2 : l.length - k < n
        · simp [h0, h1, h2]
        · simp [h0, h1, h2]
    · simp [h0]
  have hne : (takeT 188 l).2.2 = 0 → 0 < l.length := fun h => by
    rcases Nat.eq_zero_or_pos l.length with h0 | h0
    · rw [List.eq_nil_of_length_eq_zero h0] at h
      simp [takeT, takeN] at h
    · exact h0
  obtain ⟨tx, k, er, ht⟩ : ∃ tx k er, takeT 188 l = (tx, k, er) := ⟨_, _, _, rfl⟩
  rw [ht] at pt hkl hrd hne
  simp only at pt hkl hrd hne
  by_cases he : er = 0
  · subst he
    rw [if_pos rfl] at hrd
    rw [hrd]
    have hpos := hne rfl
    obtain ⟨g, o, c', e2, _⟩ := hv.at_ hpos
    injection e2 with e2 _ e3
    subst e2 e3
    obtain ⟨o2, hsl, ha2⟩ := slice_from hv k hkl
    have HA := Lib.hid ha2
    have hk1 : (k : Int) ≤ (l.length : Int) := by omega
    obtain ⟨S, hS⟩ : ∃ S : ByteArray, S = ⟨tx.toArray⟩ := ⟨_, rfl⟩
    rw [← hS] at pt ⊢
    clear hv ht kA ha2 hrd hne hS
    go_enter Try.func65, Try.ntmps65
    go_wp2_with fail
    refine pt.mono ?_
    rintro e w' ⟨rfl, rfl⟩
    clear pt
    go_wp2
    go_region
    all_goals
      go_wp2
      have K : Kp No w ((w.alloc (.cells #[.slice (some ⟨g, o, none⟩) l.length c, .int .i64 0] 94)).alloc (.cells #[.slice (some ⟨g, o2, none⟩) (l.length - k) (c - k), .int .i64 0] 94)).drew := (((Kp.refl No w).alloc _).alloc _).drew
      have ha := HA.out
      rw [List.length_drop] at ha
      refine bodyPost_ret (v := .tuple #[.string S, .agg #[.slice (some ⟨g, o2, none⟩) (l.length - k) (c - k), .int .i64 0]]) (by simp [results, Try.results65, go_sem]) rfl ?_
      exact ⟨_, rfl, ha.no K, fun g' h => by simpa [Value.ownBlock] using h, K⟩
  · rw [if_neg he] at hrd
    rw [hrd]
    have d1 : (er != 0) = true := by rw [bne_iff_ne]; exact he
    have HV := Lib.hid hv
    clear hv ht kA he hrd hne
    go_enter Try.func65, Try.ntmps65
    go_wp2_with fail
    refine pt.mono ?_
    rintro e w' ⟨rfl, rfl⟩
    clear pt
    go_wp2
    go_region
    all_goals
      go_wp2
      have K : Kp No w ((w.alloc (.cells #[.slice A l.length c, .int .i64 0] 94)).alloc (.cells #[.slice A l.length c, .int .i64 er] 94)).drew := (((Kp.refl No w).alloc _).alloc _).drew
      refine bodyPost_ret (v := .tuple #[.string ⟨#[]⟩, .agg #[.slice A l.length c, .int .i64 er]]) (by simp [results, Try.results65, go_sem]) rfl ?_
      exact ⟨_, rfl, HV.out.no K, fun g h => h, K⟩
theorem refReadText_any (A : Option Addr) (c : Nat) (s : Rd) (w : World) (hv : ArgB w (.slice A s.1.length c) s.1) (hm : s.1.length ≤ maxLen) :
    Calls Try.prog 65 #[.agg #[.slice A s.1.length c, .int .i64 s.2], .int .i64 188] w (RefRd w (.slice A s.1.length c) (rdText 188 s).2 (.string ⟨(rdText 188 s).1.toArray⟩)) := by
  obtain ⟨l, err⟩ := s
  by_cases he : err = 0
  · subst he; exact refReadT_any A c l w hv hm
  · exact refReadT_err A c l err w hv he
end Go.Proofs.Ytifdceofglocdaa

/- The document's lists of numbers as bytes, by contract. No condition beyond what each theorem states. -/
namespace Go.Proofs.Ytifdceofglocdaa
open Go Go.RowKit Go.PlainAid

set_option maxHeartbeats 2000000 in
theorem refNums_any (v : Value) (L : List Int) (w : World) (hv : ArgInts w v L) (hl : L.length ≤ 1000) (hx63 : ∀ x ∈ L, x < 9223372036854775808) :
    Calls Try.prog 58 #[v] w fun e w' => ∃ v, e = .returned v ∧ OwnB w' w.heap.size v (outI L) ∧ Kp No w w' := by
  have HV := Lib.hid hv; have HX := Lib.hid hx63
  obtain ⟨A, c, rfl, _, _⟩ := hv
  clear hx63
  go_enter Try.func58, Try.ntmps58
  go_wp2
  go_loopw [3, 4] (fun v i wr => ∃ k : Nat, k ≤ L.length ∧ i = .int .i64 k ∧ OwnB wr w.heap.size v (outI (L.take k)) ∧ Kp No w wr) (fun _ i _ => L.length - (intOf i).toNat)
  case atStart => exact ⟨0, Nat.zero_le _, rfl, OwnB.nil _ _, Kp.refl _ _⟩
  case round =>
    obtain ⟨k, hk, rfl, ho, hK⟩ := hrel
    obtain ⟨A1, c1, rfl, _⟩ := own_len ho
    have hol := outI_len (L.take k) fun x hx => HX.out x (List.mem_of_mem_take hx)
    rw [List.length_take] at hol
    by_cases hlt : k < L.length
    · have hk0 : (0 : Int) ≤ (k : Int) := by omega
      have hk1 : (k : Int) < (L.length : Int) := by omega
      obtain ⟨g, o, c', e1, hxx⟩ := (HV.out.no hK).at_ hlt
      have hx := hxx k _ (List.getElem?_eq_getElem hlt)
      clear hxx
      injection e1 with e1 _ e1c
      subst e1 e1c
      have HT := Lib.hid (outI_snoc hlt)
      have hx63 := HX.out _ (List.getElem_mem hlt)
      generalize L[k] = x at *
      have pn := refNum_any x wr hx63
      have hnl : (numS x.toNat).length ≤ 9 := numS_len 8 x.toNat (by omega)
      generalize outI (L.take k) = l' at *
      have HO := Lib.hid ho; have HK := Lib.hid hK; have HNL := Lib.hid hnl; clear ho hK hx63 hnl
      go_wp2_with fail
      refine pn.mono ?_
      rintro e w1 ⟨v1, rfl, o1, k1⟩
      obtain ⟨A2, c2, rfl, _⟩ := own_len o1
      have HO1 := Lib.hid (HO.out.no k1); have HK1 := Lib.hid (HK.out.trans k1); have HA2 := Lib.hid (own_argB o1)
      have hsz : w.heap.size ≤ w1.heap.size := HK1.out.size
      clear o1 k1 pn
      go_wp2_with (at_builtin; refine (wpList_appV _ rfl _ _ 46 rfl w.heap.size 5 _ 1 Try.underlying46 Try.infoByte rfl _ l'.length (u8s l') rfl HO1.out A2 (numS x.toNat).length c2 (u8s (numS x.toNat)) rfl (by simp) HA2.out.cs.1 (u8s_one _) (by have := HNL.out; omega) (by have := HNL.out; omega) hsz ?_); intro v3 w3 o3 k3 _)
      have O3 : Hid (OwnB w3 w.heap.size v3 (l' ++ numS x.toNat)) := Lib.hid (own_of o3 rfl)
      have K3 := Lib.hid (kp_own HO1.out HK1.out k3)
      clear o3 k3
      go_roundw
      case rel => exact ⟨k + 1, by omega, by go_num, by rw [HT.out]; exact O3.out, K3.out⟩
      case measure => simp [intOf]; omega
    · have hk' : k = L.length := by omega
      have hk1 : ¬ (k : Int) < (L.length : Int) := by omega
      have HLE := Lib.hid (show outI (L.take k) = outI L by rw [hk', List.take_length])
      generalize outI (L.take k) = l' at *
      have HO := Lib.hid ho; have HK := Lib.hid hK
      clear hk' ho hK
      go_wp2
      go_ret
      exact ⟨_, rfl, by rw [← HLE.out]; exact HO.out, HK.out⟩
end Go.Proofs.Ytifdceofglocdaa

/- The document's taker by contract. No condition beyond what each theorem states. -/
namespace Go.Proofs.Ytifdceofglocdaa
open Go Go.RowKit Go.PlainAid

/-- a taker at b in the state s: what is left lies below B -/
def TkS (w : World) (b B : Nat) (s : Rd) : Prop := ∃ A c, Bk w b 96 [.slice A s.1.length c, .int .i64 s.2] ∧ ArgB w (.slice A s.1.length c) s.1 ∧ (s.1 ≠ [] → ∀ g, (Value.slice A s.1.length c).ownBlock = some g → g < B)
theorem TkS.kp {w w' : World} {b B : Nat} {s : Rd} {M : Nat → Prop} (h : TkS w b B s) (k : Kp M w w') (h1 : ¬ M b) (h2 : ∀ g, M g → B ≤ g) : TkS w' b B s := by
  obtain ⟨A, c, hb, hv, hn⟩ := h
  refine ⟨A, c, hb.kp k h1, ?_, hn⟩
  by_cases h0 : s.1 = []
  · rw [h0]; exact ArgB.nil _ _ _
  · exact hv.kp k fun g o n c' e m => by
      have h3 := hn h0 g (by rw [e]; simp [Value.ownBlock])
      have := h2 g m; omega
theorem TkS.no {w w' : World} {b B : Nat} {s : Rd} (h : TkS w b B s) (k : Kp No w w') : TkS w' b B s := h.kp k (fun m => m) fun _ m => m.elim
theorem TkS.lt {w : World} {b B : Nat} {s : Rd} (h : TkS w b B s) : b < w.heap.size := by obtain ⟨A, c, hb, _⟩ := h; exact hb.lt
theorem rdK2 {w w2 : World} {b : Nat} {x y : Value} (k : Kp No w w2) : Kp (One b) w ((w2.setCell ⟨b, 0, none⟩ x).setCell ⟨b, 1, none⟩ y) := by
  have k1 : Kp (One b) w w2 := k.mono fun _ _ m => m.elim
  exact (k1.set (.inl rfl) 0 x).set (.inl rfl) 1 y
/-- both cells are stored anew -/
theorem TkS.put {w w2 : World} {b B : Nat} {s s2 : Rd} {A A2 : Option Addr} {c c2 : Nat} (hb : Bk w b 96 [.slice A s.1.length c, .int .i64 s.2]) (hn : s.1 ≠ [] → ∀ g, (Value.slice A s.1.length c).ownBlock = some g → g < B) (hB : B ≤ b) (k : Kp No w w2) (ha : ArgB w2 (.slice A2 s2.1.length c2) s2.1) (hs : SameBlk (.slice A s.1.length c) (.slice A2 s2.1.length c2)) (hl : s2.1.length ≤ s.1.length) :
    TkS ((w2.setCell ⟨b, 0, none⟩ (.slice A2 s2.1.length c2)).setCell ⟨b, 1, none⟩ (.int .i64 s2.2)) b B s2 := by
  have hb2 := hb.no k
  have k2 : Kp (One b) w2 ((w2.setCell ⟨b, 0, none⟩ (.slice A2 s2.1.length c2)).setCell ⟨b, 1, none⟩ (.int .i64 s2.2)) := rdK2 (Kp.refl No w2)
  refine ⟨A2, c2, (hb2.set_ 0 _).set_ 1 _, ?_, ?_⟩
  · by_cases h0 : s2.1 = []
    · rw [h0]; exact ArgB.nil _ _ _
    · refine ha.kp k2 fun g o n c' e m => ?_
      have h1 : s.1 ≠ [] := fun h => h0 (List.eq_nil_of_length_eq_zero (by rw [h] at hl; simpa using hl))
      have h3 := hn h1 g (hs g (by rw [e]; simp [Value.ownBlock]))
      have h4 : g = b := m
      omega
  · intro h0 g hg
    have h1 : s.1 ≠ [] := fun h => h0 (List.eq_nil_of_length_eq_zero (by rw [h] at hl; simpa using hl))
    exact hn h1 g (hs g hg)
set_option maxRecDepth 100000 in
set_option maxHeartbeats 2000000 in
theorem tnum_any (b B : Nat) (s : Rd) (w : World) (h : TkS w b B s) (hB : B ≤ b) (hm : s.1.length ≤ maxLen) :
    Calls Try.prog 64 #[.pointer (some ⟨b, 0, none⟩)] w fun e w' => e = .returned (.int .i64 ((rdNum s).1 : Int)) ∧ TkS w' b B (rdNum s).2 ∧ Kp (One b) w w' := by
  obtain ⟨A, c, hb, hv, hn⟩ := h
  have z0 : w.cell? ⟨b, 0, none⟩ = some (.slice A s.1.length c) := hb.cell 0
  have z1 : w.cell? ⟨b, 1, none⟩ = some (.int .i64 s.2) := hb.cell 1
  have pr := refReadNum_any A c s w hv hm
  have hle := rdNum_le s
  generalize rdNum s = q at *
  obtain ⟨n, s2⟩ := q
  simp only at pr hle ⊢
  have HB := Lib.hid hb; have HN := Lib.hid hn; have HL := Lib.hid hle; clear hb hn hv hle
  go_enter Try.func64, Try.ntmps64
  go_wp2_with fail
  refine pr.mono ?_
  rintro e w2 ⟨v', rfl, a2, sb, k2⟩
  obtain ⟨A2, c2, rfl, _⟩ := a2.form
  have y0 : w2.cell? ⟨b, 0, none⟩ = some (.slice A s.1.length c) := (HB.out.no k2).cell 0
  have y1 : w2.cell? ⟨b, 1, none⟩ = some (.int .i64 s.2) := (HB.out.no k2).cell 1
  have yf := (HB.out.no k2).frozen
  have hlt : b < w2.heap.size := (HB.out.no k2).lt
  have HA := Lib.hid a2; have HS := Lib.hid sb; have HK := Lib.hid k2
  clear a2 sb k2 pr z0 z1
  go_wp2
  go_ret
  exact ⟨rfl, (TkS.put HB.out HN.out hB HK.out HA.out HS.out HL.out).no ((Kp.refl No _).alloc _), (rdK2 HK.out).alloc _⟩
def cntsI (s : Rd) : List Int := (rdCnts s).1.map Int.ofNat
set_option maxRecDepth 100000 in
set_option maxHeartbeats 2000000 in
theorem tcnts_any (b B : Nat) (s : Rd) (w : World) (h : TkS w b B s) (hB : B ≤ b) (hm : s.1.length ≤ maxLen) :
    Calls Try.prog 66 #[.pointer (some ⟨b, 0, none⟩)] w fun e w' => ∃ v, e = .returned v ∧ w'.ownsRow w.heap.size 3 1 v (cntsI s).length (ints (cntsI s)) ∧ TkS w' b B (rdCnts s).2 ∧ Kp (One b) w w' := by
  have hbl := h.lt
  have pn := tnum_any b B s w h hB hm
  have hl1 := rdNum_le s
  have HD := Lib.hid (show cntsI s = (rdNums (min (rdNum s).1 5) (rdNum s).2).1.map Int.ofNat ∧ (rdCnts s).2 = (rdNums (min (rdNum s).1 5) (rdNum s).2).2 from ⟨rfl, rfl⟩)
  generalize rdNum s = q at *
  obtain ⟨n, s1⟩ := q
  simp only at pn hl1 HD
  clear h
  go_enter Try.func66, Try.ntmps66
  go_wp2_with fail
  refine pn.mono ?_
  rintro e w1 ⟨rfl, ht, k1⟩
  have HT := Lib.hid ht; have HK := Lib.hid k1; clear ht k1 pn
  go_wp2
  go_loopw [4, 5] (fun v i wr => ∃ k : Nat, k ≤ min n 5 ∧ i = .int .i64 k ∧ wr.ownsRow w.heap.size 3 1 v k (ints ((rdNums k s1).1.map Int.ofNat)) ∧ TkS wr b B (rdNums k s1).2 ∧ Kp (One b) w wr) (fun _ i _ => 5 - (intOf i).toNat)
  case atStart => exact ⟨0, Nat.zero_le _, rfl, nil_own _ _ _ _, HT.out, HK.out⟩
  case round =>
    obtain ⟨k, hk, rfl, ho, ht, hkp⟩ := hrel
    obtain ⟨A1, c1, rfl, _⟩ := own_len ho
    have HO := Lib.hid ho; have HKK := Lib.hid hkp
    by_cases hlt : k < min n 5
    · have h1 : (k : Int) < (n : Int) := by omega
      have h2 : (k : Int) < 5 := by omega
      obtain ⟨q1, q2⟩ := rdNums_snoc k s1
      have hr := (rdNums_len k s1).2
      have pn := tnum_any b B (rdNums k s1).2 wr ht hB (by omega)
      have Q1 := Lib.hid q1; have Q2 := Lib.hid q2
      have HXL := Lib.hid (rdNums_len k s1).1
      clear ho ht hkp q1 q2 hr
      generalize rdNum (rdNums k s1).2 = r at *
      obtain ⟨x, s2⟩ := r
      simp only at pn Q1 Q2
      have hnb : ∀ g, (Value.slice A1 k c1).ownBlock = some g → ¬ One b g := fun g hg m => by
        have h3 := (HO.out.lt g hg).1
        have h4 : g = b := m
        omega
      go_wp2_with fail
      refine pn.mono ?_
      rintro e w2 ⟨rfl, t2, k2⟩
      have o2 := own_kp HO.out k2 hnb
      have HT2 := Lib.hid t2; have HK2 := Lib.hid (HKK.out.trans k2)
      have hsz : w.heap.size ≤ w2.heap.size := HK2.out.size
      have ha := fun o => own_kp o2 ((Kp.refl No w2).alloc o) fun _ _ m => m
      have HO2 := Lib.hid o2
      clear t2 k2 pn o2
      go_wp2_with (at_builtin; refine wpList_appV _ rfl _ _ 28 rfl w.heap.size 3 _ 8 Try.underlying28 Try.infoInt rfl _ k _ rfl (ha _) _ 1 1 [.int .i64 (x : Int)] rfl rfl (cs_new rfl rfl) (by intro u hu; cases hu with | head => rfl | tail _ h => cases h) (by omega) (by omega) (by simp; omega) ?_)
      intro v' w' o3 k3 n3
      have O3 := Lib.hid o3
      have hlo : ∀ g, (Value.slice A1 k c1).ownBlock = some g → w.heap.size ≤ g ∧ g < w2.heap.size := fun g hg => HO2.out.lt g hg
      have K3 := Lib.hid ((HK2.out.alloc _).then_ k3 fun i hi hm2 => by have := (hlo i hm2).1; omega)
      have T3 := Lib.hid ((HT2.out.no ((Kp.refl No w2).alloc _)).kp k3 (fun m => by have := (hlo b m).1; omega) fun g m => by have := (hlo g m).1; omega)
      clear o3 k3 n3 ha hlo
      go_wp2
      go_roundw
      case rel => exact ⟨k + 1, by omega, by go_num, by rw [Q1.out, List.map_append, ints_append]; exact O3.out, by rw [Q2.out]; exact T3.out, K3.out⟩
      case measure => simp [intOf]; omega
    · have hk' : k = min n 5 := by omega
      have hc : ¬ (k : Int) < (n : Int) ∨ ((k : Int) < (n : Int) ∧ ¬ (k : Int) < 5) := by omega
      have HF := Lib.hid (show cntsI s = (rdNums k s1).1.map Int.ofNat ∧ (rdCnts s).2 = (rdNums k s1).2 by rw [hk']; exact HD.out)
      have HL := Lib.hid (show ((rdNums k s1).1.map Int.ofNat).length = k by rw [List.length_map]; exact (rdNums_len k s1).1)
      have HT3 := Lib.hid ht
      clear hk' ho ht hkp hlt
      rcases hc with h1 | ⟨h1, h2⟩
      all_goals
        go_wp2
        go_ret
        refine ⟨_, rfl, ?_, by rw [HF.out.2]; exact HT3.out, HKK.out⟩
        rw [HF.out.1, HL.out]; exact HO.out
end Go.Proofs.Ytifdceofglocdaa
