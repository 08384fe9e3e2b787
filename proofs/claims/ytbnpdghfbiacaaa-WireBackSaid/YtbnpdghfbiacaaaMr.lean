/- The field that is a list of numbers, by contract (wire). No condition beyond what each theorem states. -/
import Derived.Test.YtbnpdghfbiacaaaMq
import Derived.Deep.RegionLaw
namespace Go.Proofs.Ytbnpdghfbiacaaa
open Go Go.RowKit Go.PlainAid

/-- numbers' forms, one behind the other -/
def outI (L : List Int) : List UInt8 := ((L.map Int.toNat).map numS).flatten
theorem cS_out (L : List Int) : cS L = numS L.length ++ outI L := by simp [cS, cntsS, numsS, outI]
theorem outI_snoc {L : List Int} {k : Nat} (h : k < L.length) : outI (L.take (k + 1)) = outI (L.take k) ++ numS (L[k]).toNat := by
  rw [List.take_succ_eq_append_getElem h]
  simp only [outI, List.map_append, List.flatten_append, List.map_cons, List.map_nil, List.flatten_cons, List.flatten_nil, List.append_nil]
theorem outI_ge : ∀ (L : List Int), L.length ≤ (outI L).length
  | [] => by simp [outI]
  | x :: L => by
    have h1 := outI_ge L
    have h2 := numS_pos x.toNat
    simp only [outI, List.map_cons, List.flatten_cons, List.length_append, List.length_cons] at h1 ⊢
    omega
theorem outI_len : ∀ (L : List Int), (∀ x ∈ L, x < 9223372036854775808) → (outI L).length ≤ 9 * L.length
  | [], _ => by simp [outI]
  | x :: L, h => by
    have h1 := outI_len L fun y hy => h y (List.mem_cons_of_mem _ hy)
    have h2 := numS_len 8 x.toNat (by have := h x (List.mem_cons_self ..); omega)
    simp only [outI, List.map_cons, List.flatten_cons, List.length_append, List.length_cons] at h1 ⊢
    simp only [List.map_map] at h1 ⊢
    omega
theorem Try.infoI : (Try.prog.info? 3).map (fun i => (i.zero, i.size, i.bytes)) = some (some (.int .i64 0), 1, 8) := by kernel_rfl
theorem entS1 : Ent 71 := enters_of Try.func71 (by kernel_rfl) rfl
theorem entS2 : Ent 72 := enters_of Try.func72 (by kernel_rfl) rfl
theorem entS3 : Ent 73 := enters_of Try.func73 (by kernel_rfl) rfl
theorem WrAft.msg {W w' : World} {b B g : Nat} {u sv : Value} {l l' : List UInt8} {m : Msg} (h : WrAft W b B u l' w') (hw : WrB W b B u l) (hm : MsgB W g m sv) : MsgB w' g m sv := by
  obtain ⟨v', _, hk, _⟩ := h
  exact hm.tys hk (wrm_tys hw) (by decide) (by decide)
set_option maxRecDepth 100000 in
set_option maxHeartbeats 1000000 in
theorem stamp1_any (W : World) (g : Nat) (m : Msg) (sv : Value) (b B : Nat) (u : Value) (l : List UInt8) (hm : MsgB W g m sv) (hr : Rng m) (hs : (cS m.stamp).length ≤ 10000) (hw : WrB W b B u l) (hB : B ≤ W.heap.size) (hl : l.length ≤ 100000) :
    Calls Try.prog 71 #[.pointer (some ⟨b, 0, none⟩), .pointer (some ⟨g, 0, none⟩)] W fun e w' => e = .returned (.tuple #[]) ∧ WrAft W b B u (l ++ cS m.stamp) w' := by
  obtain ⟨A, c, rfl, hc⟩ : ∃ A c, sv = .slice A m.stamp.length c ∧ m.stamp.length ≤ c := by obtain ⟨A, c, e, hc, _⟩ := hm.2; exact ⟨A, c, e, hc⟩
  have hsl : m.stamp.length ≤ 10000 := by have := outI_ge m.stamp; rw [cS_out, List.length_append] at hs; omega
  have pn := wnum_any b B u l (m.stamp.length : Int) W hw hB (by omega) (by omega)
  rw [Int.toNat_natCast] at pn
  have z13 : W.cell? ⟨g, 13, none⟩ = some (.slice A m.stamp.length c) := hm.1.cell 13
  have HM := Lib.hid hm; have HR := Lib.hid hr.2; have HW := Lib.hid hw; have HL := Lib.hid hl
  have hnl : (numS m.stamp.length).length ≤ 9 := numS_len 8 _ (by omega)
  have HNL := Lib.hid hnl
  clear hm hr hw hs hl hnl
  go_enter Try.func71, Try.ntmps71
  go_wp2_with fail
  refine pn.mono ?_
  rintro e w1 ⟨rfl, h1⟩
  have M1 := h1.msg HW.out HM.out
  have y13 : w1.cell? ⟨g, 13, none⟩ = some (.slice A m.stamp.length c) := M1.1.cell 13
  have H1 := Lib.hid h1
  clear h1 pn z13 M1
  go_wp2
  go_loopw [18] (fun i wr => ∃ k : Nat, k ≤ m.stamp.length ∧ i = .int .i64 k ∧ WrAft W b B u (l ++ numS m.stamp.length ++ outI (m.stamp.take k)) wr) (fun i _ => m.stamp.length - (intOf i).toNat)
  case atStart => exact ⟨0, Nat.zero_le _, rfl, by simpa [outI] using H1.out⟩
  case round =>
    obtain ⟨k, hk, rfl, hF⟩ := hrel
    by_cases hlt : k < m.stamp.length
    · have hk0 : (0 : Int) ≤ (k : Int) := by omega
      have hk1 : (k : Int) < (m.stamp.length : Int) := by omega
      have Mr := hF.msg HW.out HM.out
      obtain ⟨g', o, c', e1, hxx⟩ := Mr.2.arg.at_ hlt
      have hx := hxx k _ (List.getElem?_eq_getElem hlt)
      clear hxx Mr
      injection e1 with e1 _ e1c
      subst e1 e1c
      have HT := Lib.hid (outI_snoc hlt)
      have HX := Lib.hid (HR.out _ (List.getElem_mem hlt))
      have hol := outI_len (m.stamp.take k) fun x hx => HR.out x (List.mem_of_mem_take hx)
      rw [List.length_take] at hol
      generalize m.stamp[k] = x at *
      obtain ⟨va, hwa, hka, hna⟩ := hF
      have pa := wnum_any b B va (l ++ numS m.stamp.length ++ outI (m.stamp.take k)) x wr hwa (Nat.le_trans hB hka.size) (by
        have := HL.out; have := HNL.out
        rw [List.length_append, List.length_append]; omega) HX.out
      have HK := Lib.hid hka; have HN := Lib.hid hna
      clear hka hna hwa hol
      go_wp2_with fail
      refine pa.mono ?_
      rintro e w' ⟨rfl, h2⟩
      have H2 := Lib.hid h2; clear h2 pa
      go_wp2
      go_roundw
      case rel => exact ⟨k + 1, by omega, by go_num, by rw [HT.out, ← List.append_assoc]; exact WrAft.then_ HK.out HN.out H2.out⟩
      case measure => simp [intOf]; omega
    · have hk' : k = m.stamp.length := by omega
      have hk1 : ¬ (k : Int) < (m.stamp.length : Int) := by omega
      have HF := Lib.hid (show WrAft W b B u (l ++ cS m.stamp) wr by rw [cS_out, ← List.append_assoc]; rw [hk', List.take_length] at hF; exact hF)
      clear hF hk'
      go_wp2
      go_end0
      exact ⟨rfl, HF.out⟩
theorem rdNums_snoc : ∀ (k : Nat) (s : Rd), (rdNums (k + 1) s).1 = (rdNums k s).1 ++ [(rdNum (rdNums k s).2).1] ∧ (rdNums (k + 1) s).2 = (rdNum (rdNums k s).2).2
  | 0, s => by simp [rdNums]
  | k + 1, s => by
    obtain ⟨h1, h2⟩ := rdNums_snoc k (rdNum s).2
    constructor
    · rw [show rdNums (k + 1 + 1) s = ((rdNum s).1 :: (rdNums (k + 1) (rdNum s).2).1, (rdNums (k + 1) (rdNum s).2).2) from rfl, show rdNums (k + 1) s = ((rdNum s).1 :: (rdNums k (rdNum s).2).1, (rdNums k (rdNum s).2).2) from rfl]
      simp [h1]
    · rw [show rdNums (k + 1 + 1) s = ((rdNum s).1 :: (rdNums (k + 1) (rdNum s).2).1, (rdNums (k + 1) (rdNum s).2).2) from rfl, show rdNums (k + 1) s = ((rdNum s).1 :: (rdNums k (rdNum s).2).1, (rdNums k (rdNum s).2).2) from rfl]
      simp [h2]
theorem rdNums_len : ∀ (k : Nat) (s : Rd), (rdNums k s).1.length = k ∧ (rdNums k s).2.1.length ≤ s.1.length
  | 0, s => ⟨rfl, Nat.le_refl _⟩
  | k + 1, s => by
    obtain ⟨h1, h2⟩ := rdNums_len k (rdNum s).2
    have := rdNum_le s
    refine ⟨?_, ?_⟩
    · show ((rdNum s).1 :: (rdNums k (rdNum s).2).1).length = k + 1
      simp [h1]
    · show (rdNums k (rdNum s).2).2.1.length ≤ _
      omega
theorem RdAft.then_ {W wr w' : World} {g b B : Nat} {sv sv1 : Value} {m2 : Msg} {s2 : Rd} (hk : Kp (RdM g sv b) W wr) (hn : ∀ k, sv1.ownBlock = some k → sv.ownBlock = some k ∨ W.heap.size ≤ k) (h : RdAft wr g sv1 b B m2 s2 w') : RdAft W g sv b B m2 s2 w' := by
  obtain ⟨sv2, h1, h2, h3, h4, h5⟩ := h
  refine ⟨sv2, h1, h2, h3, hk.then_ h4 ?_, ?_⟩
  · rintro i hi (e | e | e)
    · exact .inl e
    · exact .inr (.inl e)
    · rcases hn i e with e | e
      · exact .inr (.inr e)
      · omega
  · intro k e
    rcases h5 k e with e | e
    · exact hn k e
    · right; have := hk.size; omega
/-- a number more in the list -/
theorem rdAft_app {wr w1 w2 : World} {g b B g2 cap n : Nat} {sv1 : Value} {m1 : Msg} {s1 s2 : Rd} {x : Int} (hb : Bk wr g 29 (mcells m1 sv1)) (ho : wr.ownsRow B 3 1 sv1 m1.stamp.length (ints m1.stamp)) (hr : RdS wr b s1)
    (k1 : Kp (One b) wr w1) (hr2 : RdS w1 b s2) (hn : n = m1.stamp.length) (hown : w2.ownsRow B 3 1 (.slice (some ⟨g2, 0, none⟩) (n + 1) cap) (n + 1) (ints m1.stamp ++ [.int .i64 x])) (hk : Kp (fun k => sv1.ownBlock = some k) w1 w2) (hat : sv1.ownBlock = some g2 ∨ g2 = w1.heap.size) :
    RdAft wr g sv1 b B { m1 with stamp := m1.stamp ++ [x] } s2 (w2.setCell ⟨g, 13, none⟩ (.slice (some ⟨g2, 0, none⟩) (n + 1) cap)) := by
  subst hn
  obtain ⟨cs, hbb⟩ := hr.rdr
  have hgb : g ≠ b := hb.ne_ hbb (by decide)
  have hsb : ∀ k, sv1.ownBlock = some k → k ≠ b ∧ k ≠ g := fun k e => by
    obtain ⟨cs', h1⟩ := own_bk ho k e
    exact ⟨h1.ne_ hbb (by decide), h1.ne_ hb (by decide)⟩
  have b2 : Bk w2 g 29 (mcells m1 sv1) := (hb.kp k1 hgb).kp hk fun e => (hsb g e).2 rfl
  have k3 : Kp (One g) w2 (w2.setCell ⟨g, 13, none⟩ (.slice (some ⟨g2, 0, none⟩) (m1.stamp.length + 1) cap)) := (Kp.refl (One g) w2).set (.inl rfl) 13 _
  have hg2 : g2 ≠ g := by
    rintro rfl
    exact own_ne hown b2 (by decide) rfl
  refine ⟨.slice (some ⟨g2, 0, none⟩) (m1.stamp.length + 1) cap, b2.set_ 13 _, ?_, ?_, ?_, ?_⟩
  · have e : ints (m1.stamp ++ [x]) = ints m1.stamp ++ [.int .i64 x] := by simp [ints]
    have e2 : (m1.stamp ++ [x]).length = m1.stamp.length + 1 := by simp
    show World.ownsRow _ B 3 1 _ (m1.stamp ++ [x]).length (ints (m1.stamp ++ [x]))
    rw [e, e2]
    exact own_kp hown k3 fun k e h => by
      have e : g2 = k := by simpa [Value.ownBlock] using e
      exact hg2 (e.trans h)
  · have r2 : RdS w2 b s2 := hr2.kp hk (fun e => (hsb b e).1 rfl) fun k ⟨cs', ht⟩ e => by
      have hlt : k < wr.heap.size := by
        obtain ⟨cs2, h1⟩ := own_bk ho k e
        exact h1.lt
      obtain ⟨cs2, h1⟩ := own_bk ho k e
      exact (h1.kp k1 (hsb k e).1).ne_ ht (by decide) rfl
    exact r2.kp k3 (fun e => hgb (Eq.symm e)) fun k ⟨cs', ht⟩ e => ht.ne_ b2 (by decide) e
  · exact ((k1.mono fun k _ e => .inl e).then_ hk fun k _ e => .inr (.inr e)).then_ k3 fun k _ e => .inr (.inl e)
  · intro k e
    have e : g2 = k := by simpa [Value.ownBlock] using e
    subst e
    rcases hat with h | h
    · exact .inl h
    · right; have := k1.size; omega
set_option maxRecDepth 100000 in
set_option maxHeartbeats 2000000 in
theorem stamp2_any (W : World) (g : Nat) (m : Msg) (sv : Value) (b B : Nat) (s0 : Rd) (hm : Bk W g 29 (mcells m sv)) (ho : W.ownsRow B 3 1 sv m.stamp.length (ints m.stamp)) (hr : RdS W b s0) (hB : B ≤ W.heap.size) (hl : s0.1.length ≤ 1000) (hs : m.stamp.length ≤ 1000) :
    Calls Try.prog 72 #[.pointer (some ⟨b, 0, none⟩), .pointer (some ⟨g, 0, none⟩)] W fun e w' => e = .returned (.tuple #[]) ∧ RdAft W g sv b B { m with stamp := m.stamp ++ (rdCnts s0).1.map Int.ofNat } (rdCnts s0).2 w' := by
  have pn := rd_num b s0 W hr (by unfold maxLen; omega)
  have HM := Lib.hid hm; have HO := Lib.hid ho; have H0 := Lib.hid hr
  have hgb : g ≠ b := by obtain ⟨cs, hb⟩ := hr.rdr; exact hm.ne_ hb (by decide)
  have hsb : ∀ k, sv.ownBlock = some k → k ≠ b := fun k e => by
    obtain ⟨cs', h1⟩ := own_bk ho k e
    obtain ⟨cs, hb⟩ := hr.rdr
    exact h1.ne_ hb (by decide)
  have HN := Lib.hid hgb; have HSB := Lib.hid hsb
  have HC := Lib.hid (show rdCnts s0 = rdNums (min (rdNum s0).1 5) (rdNum s0).2 from rfl)
  have hle := rdNum_le s0
  have hn63 := rdNum_lt s0
  clear hm ho hr hgb hsb
  generalize (rdNum s0).1 = n at *
  generalize (rdNum s0).2 = s1 at *
  go_enter Try.func72, Try.ntmps72
  go_wp2_with fail
  refine pn.mono ?_
  rintro e w1 ⟨rfl, h1, K1⟩
  have HS := Lib.hid (show RdAft W g sv b B m s1 w1 from ⟨sv, HM.out.kp K1 HN.out, own_kp HO.out K1 fun k e => HSB.out k e, h1, K1.mono fun k _ e => .inl e, fun k e => .inl e⟩)
  clear h1 K1 pn
  obtain ⟨J, hJ, hJ5⟩ : ∃ J : Nat, min n 5 = J ∧ J ≤ 5 := ⟨_, rfl, by omega⟩
  have hJi : min (n : Int) 5 = (J : Int) := by omega
  have HJ := Lib.hid hJ; clear hJ
  go_wp2
  go_loopw [7] (fun i wr => ∃ k : Nat, k ≤ J ∧ i = .int .i64 k ∧ RdAft W g sv b B { m with stamp := m.stamp ++ (rdNums k s1).1.map Int.ofNat } (rdNums k s1).2 wr) (fun i _ => J - (intOf i).toNat)
  case atStart => exact ⟨0, Nat.zero_le _, rfl, by simpa [rdNums] using HS.out⟩
  case round =>
    obtain ⟨k, hk, rfl, hF⟩ := hrel
    by_cases hlt : k < J
    · have hk0 : (0 : Int) ≤ (k : Int) := by omega
      have hk1 : (k : Int) < (J : Int) := by omega
      obtain ⟨hN1, hN2⟩ := rdNums_snoc k s1
      obtain ⟨hL1, hL2⟩ := rdNums_len k s1
      have hE : ({ m with stamp := m.stamp ++ (rdNums (k + 1) s1).1.map Int.ofNat } : Msg) = { ({ m with stamp := m.stamp ++ (rdNums k s1).1.map Int.ofNat } : Msg) with stamp := ({ m with stamp := m.stamp ++ (rdNums k s1).1.map Int.ofNat } : Msg).stamp ++ [((rdNum (rdNums k s1).2).1 : Int)] } := by
        simp [hN1]
      have hsl : ({ m with stamp := m.stamp ++ (rdNums k s1).1.map Int.ofNat } : Msg).stamp.length ≤ 1010 := by simp [hL1]; omega
      have hsl2 : (rdNums k s1).2.1.length ≤ 1000 := by omega
      have HE := Lib.hid hE; have HN2 := Lib.hid hN2
      clear hN1 hN2 hL1 hL2 hE
      generalize ({ m with stamp := m.stamp ++ (rdNums k s1).1.map Int.ofNat } : Msg) = m1 at *
      generalize (rdNums k s1).2 = sk at *
      obtain ⟨sv1, b1, o1, r1, k1, n1⟩ := hF
      obtain ⟨A, c, rfl⟩ : ∃ A c, sv1 = .slice A m1.stamp.length c := by obtain ⟨A, c, h, _⟩ := own_len o1; exact ⟨A, c, h⟩
      have qn : ∀ W2, Kp No wr W2 → Calls Try.prog 54 #[.pointer (some ⟨b, 0, none⟩)] W2 fun e w' => e = .returned (.int .i64 ((rdNum sk).1 : Int)) ∧ RdS w' b (rdNum sk).2 ∧ Kp (One b) wr w' := fun W2 kk => by
        refine (rd_num b sk W2 (r1.no kk) (by unfold maxLen; omega)).mono ?_
        rintro e w' ⟨h, h2, h3⟩
        exact ⟨h, h2, (kk.mono fun k _ e => e.elim).trans h3⟩
      have x63 := rdNum_lt sk
      generalize (rdNum sk).1 = x at *
      have hsz : B ≤ wr.heap.size := Nat.le_trans hB k1.size
      have hob : ∀ k, (Value.slice A m1.stamp.length c).ownBlock = some k → k ≠ b := fun k e => by
        obtain ⟨cs', h1⟩ := own_bk o1 k e
        obtain ⟨cs, hb⟩ := r1.rdr
        exact h1.ne_ hb (by decide)
      have hog : (Value.slice A m1.stamp.length c).ownBlock ≠ some g := own_ne o1 b1 (by decide)
      have z13 : wr.cell? ⟨g, 13, none⟩ = some (.slice A m1.stamp.length c) := b1.cell 13
      have HB1 := Lib.hid b1; have HO1 := Lib.hid o1; have HR1 := Lib.hid r1; have HK1 := Lib.hid k1; have HN1 := Lib.hid n1; have HOB := Lib.hid hob; have HOG := Lib.hid hog
      clear b1 o1 r1 k1 n1 hob hog
      have zk : ∀ W2, Kp (One b) wr W2 → W2.cell? ⟨g, 13, none⟩ = some (.slice A m1.stamp.length c) := fun W2 kk => (HB1.out.kp kk HN.out).cell 13
      have zz : ∀ W3 W4 o, Kp (fun k => (Value.slice A m1.stamp.length c).ownBlock = some k) (W3.alloc o) W4 → Kp (One b) wr W3 → W4.cell? ⟨g, 13, none⟩ = some (.slice A m1.stamp.length c) := fun W3 W4 o h4 h3 => (Bk.kp (Bk.alloc (HB1.out.kp h3 HN.out) _) h4 (fun e => HOG.out e)).cell 13
      go_upto_region 2 with (fail)
      go_region_law ((first | (refine step_app1 _ rfl _ _ 27 rfl B 3 _ 1 8 Try.underlying27 Try.infoI rfl (by omega) _ m1.stamp.length (ints m1.stamp) rfl (own_kp HO1.out (Kp.alloc (by assumption) _) HOB.out) _ _ _ rfl (Bk.new' (by simp) rfl) rfl (by simp [Value.oneCell']) (by omega) (by omega) (by simp; omega) ?_; intro g2 cap2 w4 hown4 hk4' hat4'; have hk4 : Kp (fun k => (Value.slice A m1.stamp.length c).ownBlock = some k) _ w4 := hk4'; have hat4 : (Value.slice A m1.stamp.length c).ownBlock = some g2 ∨ g2 = _ := hat4'; clear hk4' hat4'; have B4 := Bk.kp (Bk.alloc (HB1.out.kp k3 HN.out) _) hk4 (fun e => HOG.out e); have z4 : w4.cell? ⟨g, 13, none⟩ = some (.slice A m1.stamp.length c) := B4.cell 13; have zf4 := B4.frozen 13; clear B4) | (go_simp; go_at_call 54; (with_reducible refine (qn _ (by with_reducible repeat (first | assumption | exact Kp.refl _ _ | refine Kp.drew ?_ | refine Kp.drewN ?_ _ | refine Kp.alloc ?_ _))).mono ?_); rintro e w3 ⟨rfl, h3, k3⟩; have q3 := k3.size; have y13 := zk _ k3; have y14 : ∀ o, (w3.alloc o).cell? ⟨g, 13, none⟩ = some (.slice A m1.stamp.length c) := fun o => (Bk.alloc (HB1.out.kp k3 HN.out) o).cell 13)))
      all_goals
        have HA := Lib.hid (rdAft_app HB1.out HO1.out HR1.out (k3.alloc _) (h3.kp ((Kp.refl No w3).alloc _) (fun m => m) (fun _ _ m => m)) rfl hown4 hk4 hat4)
        clear hown4 hk4 hat4 y13 y14 z4 zf4 zk zz qn z13 h3 k3
        go_wp2
        go_roundw
        case rel => exact ⟨k + 1, by omega, by go_num, by rw [HE.out, HN2.out]; exact RdAft.then_ HK1.out HN1.out HA.out⟩
        case measure => simp [intOf]; omega
    · have hk' : k = J := by omega
      have hk1 : ¬ (k : Int) < (J : Int) := by omega
      have HF := Lib.hid (show RdAft W g sv b B { m with stamp := m.stamp ++ (rdCnts s0).1.map Int.ofNat } (rdCnts s0).2 wr by rw [HC.out, HJ.out, ← hk']; exact hF)
      clear hF hk'
      go_wp2
      go_end0
      exact ⟨rfl, HF.out⟩
theorem stampF_any (W : World) : Calls Try.prog 43 #[] W (MkF W fStamp) := by
  go_enter Try.func43, Try.ntmps43
  go_wp2
  refine bodyPost_ret (v := .agg #[.func (.func 71) #[] #[], .func (.func 72) #[] #[], .func (.func 73) #[] #[]]) (by simp [results, Try.results43, go_sem]) rfl ?_
  refine ⟨⟨_, _, _, _, _, _⟩, rfl, ?_, (Kp.refl No W).alloc _⟩
  exact ⟨entS1, entS2, entS3,
    fun W2 hs g m sv b B u l hm hr hsh hw hB hl => stamp1_any W2 g m sv b B u l hm hr hsh hw hB hl,
    fun W2 hs g m sv b s0 B hm ho hr hB hl hsh => stamp2_any W2 g m sv b B s0 hm ho hr hB hl hsh.2,
    fun W2 hs g m sv hm hl => stampOk_any g m sv W2 hm hl⟩
end Go.Proofs.Ytbnpdghfbiacaaa
