/- Several texts of this claim in one. No condition beyond what each theorem states. -/
import Derived.Test.YtifdceofglocdaaB15
import Derived.Test.YtifdceofglocdaaB18
import Derived.Test.YtifdceofglocdaaB03
import Derived.Deep.CutBlock
/- The record of bytes: book.Decode by contract (words). No condition beyond what each theorem states. -/
namespace Go.Proofs.Ytifdceofglocdaa
open Go Go.RowKit Go.PlainAid

set_option maxHeartbeats 1000000 in
theorem newr2_any (A : Option Addr) (c : Nat) (l : List UInt8) (w : World) (hv : ArgB w (.slice A l.length c) l) (hm : l.length ≤ 140737488355328) :
    Calls Try.prog 60 #[.slice A l.length c] w fun e w' => ∃ b v, e = .returned (.pointer (some ⟨b, 0, none⟩)) ∧ w.heap.size ≤ b ∧ (∀ g, v.ownBlock = some g → w.heap.size ≤ g) ∧ RdB w' b v l 0 ∧ Kp No w w' ∧ (∀ g, v.ownBlock = some g → TB w' g) := by
  have HV := Lib.hid hv; clear hv
  go_enter Try.func60, Try.ntmps60
  go_wp2_with (at_builtin; refine (wpList_appV _ rfl _ _ 46 rfl w.heap.size 5 _ 1 Try.underlying46 Try.infoByte rfl _ 0 [] rfl (nil_own _ _ _ _) A l.length c (u8s l) rfl (by simp) HV.out.cs.1 (u8s_one _) (by omega) (by omega) (Nat.le_refl _) ?_); intro v1 w1 o1 k1 _; have O1 : OwnB w1 w.heap.size v1 l := own_of (l := []) o1 rfl; have K1 : Kp No w w1 := k1.mono (fun _ _ h => by cases h); obtain ⟨A1, c1, hv1, _⟩ := own_len O1; subst hv1; clear o1 k1)
  go_ret
  have hlo : ∀ g, (Value.slice A1 l.length c1).ownBlock = some g → w.heap.size ≤ g := by
    intro g h
    rcases O1.2 with ⟨e, _⟩ | ⟨g', cap, cur, e, hg, _⟩
    · rw [e] at h; simp [Value.ownBlock] at h
    · rw [e] at h
      have : g' = g := by simpa [Value.ownBlock] using h
      omega
  have B1 := Bk.new w1 114 [.slice A1 l.length c1, .int .i64 0]
  have O2 := O1.alloc (.cells #[.slice A1 l.length c1, .int .i64 0] 114)
  exact ⟨_, _, rfl, K1.size, fun g h => hlo g h, ⟨B1, own_argB O2, own_ne O2 B1 (by decide)⟩, K1.alloc _, own_tb O2⟩
/-- the record and the error that bytes give -/
def decRec (l : List UInt8) : Rcd := (decR l).getD {}
def decErr (l : List UInt8) : Int := if (decR l).isSome then 0 else 43
/-- what Decode answers -/
def DecR (W : World) (l : List UInt8) (e : Ending) (w' : World) : Prop :=
  ∃ gv rv, e = .returned (.tuple #[.agg (rC (decRec l) gv rv).toArray, .int .i64 (decErr l)]) ∧ w'.ownsRow W.heap.size 3 1 gv (decRec l).grant.stamp.length (ints (decRec l).grant.stamp) ∧ w'.ownsRow W.heap.size 3 1 rv (decRec l).stamp.length (ints (decRec l).stamp) ∧ Kp No W w'
theorem DecR.bad {W w' : World} {l : List UInt8} {e : Ending} (hd : decR l = none) (he : e = .returned (.tuple #[.agg (rC {} (.slice none 0 0) (.slice none 0 0)).toArray, .int .i64 43])) (hk : Kp No W w') : DecR W l e w' := by
  have e1 : decRec l = {} := by unfold decRec; rw [hd]; rfl
  have e2 : decErr l = 43 := by unfold decErr; rw [hd]; rfl
  refine ⟨.slice none 0 0, .slice none 0 0, by rw [e1, e2]; exact he, ?_, ?_, hk⟩
  · rw [e1]; exact nil_own _ _ _ _
  · rw [e1]; exact nil_own _ _ _ _
theorem DecR.good {W w' : World} {l : List UInt8} {e : Ending} {r : Rcd} {gv rv : Value} (hd : decR l = some r) (he : e = .returned (.tuple #[.agg (rC r gv rv).toArray, .int .i64 0])) (h1 : w'.ownsRow W.heap.size 3 1 gv r.grant.stamp.length (ints r.grant.stamp)) (h2 : w'.ownsRow W.heap.size 3 1 rv r.stamp.length (ints r.stamp)) (hk : Kp No W w') : DecR W l e w' := by
  have e1 : decRec l = r := by unfold decRec; rw [hd]; rfl
  have e2 : decErr l = 0 := by unfold decErr; rw [hd]; rfl
  exact ⟨gv, rv, by rw [e1, e2]; exact he, by rw [e1]; exact h1, by rw [e1]; exact h2, hk⟩
theorem takeR_1 {most : Nat} {b : List UInt8} {s1 s2 s3 : Rd} {x1 x2 : Nat} (h0 : rdNum (b, 0) = (1, s1)) (h1 : rdNum s1 = (x1, s2)) (h2 : rdNum s2 = (x2, s3)) : takeR most b = { kind := 1, next := x1, boots := x2 } := by
  simp [takeR, h0, h1, h2]
theorem takeR_2 {most : Nat} {b : List UInt8} {s1 s2 : Rd} {x1 : Nat} (h0 : rdNum (b, 0) = (2, s1)) (h1 : rdNum s1 = (x1, s2)) : takeR most b = { kind := 2, longest := x1 } := by
  simp [takeR, h0, h1]
theorem takeR_34 {most n0 : Nat} {b p : List UInt8} {s1 s2 s3 s4 s5 s6 s7 : Rd} {x1 x2 x4 x5 : Nat} {L : List Nat} (hn : n0 = 3 ∨ n0 = 4) (h0 : rdNum (b, 0) = (n0, s1)) (h1 : rdNum s1 = (x1, s2)) (h2 : rdNum s2 = (x2, s3)) (h3 : rdText most s3 = (p, s4)) (h4 : rdNum s4 = (x4, s5)) (h5 : rdNum s5 = (x5, s6)) (h6 : rdCnts s6 = (L, s7)) :
    takeR most b = { kind := n0, grant := { id := x1, holder := x2, path := p, mode := x4, term := x5, stamp := L.map Int.ofNat } } := by
  rcases hn with rfl | rfl <;> simp [takeR, h0, h1, h2, h3, h4, h5, h6]
theorem takeR_5 {most : Nat} {b : List UInt8} {s1 s2 s3 : Rd} {x1 : Nat} {L : List Nat} (h0 : rdNum (b, 0) = (5, s1)) (h1 : rdNum s1 = (x1, s2)) (h2 : rdCnts s2 = (L, s3)) : takeR most b = { kind := 5, id := x1, stamp := L.map Int.ofNat } := by
  simp [takeR, h0, h1, h2]
theorem takeR_6 {most : Nat} {b : List UInt8} {s1 s2 : Rd} {x1 : Nat} (h0 : rdNum (b, 0) = (6, s1)) (h1 : rdNum s1 = (x1, s2)) : takeR most b = { kind := 6, id := x1 } := by
  simp [takeR, h0, h1]
theorem takeR_0 {most n0 : Nat} {b : List UInt8} {s1 : Rd} (h0 : rdNum (b, 0) = (n0, s1)) (hn : n0 ≠ 1 ∧ n0 ≠ 2 ∧ n0 ≠ 3 ∧ n0 ≠ 4 ∧ n0 ≠ 5 ∧ n0 ≠ 6) : takeR most b = { kind := n0 } := by
  obtain ⟨a1, a2, a3, a4, a5, a6⟩ := hn
  simp [takeR, h0, a1, a2, a3, a4, a5, a6]
theorem takeR_sh (most : Nat) (b : List UInt8) : (takeR most b).grant.path.length ≤ most ∧ (takeR most b).grant.stamp.length ≤ 5 ∧ (takeR most b).stamp.length ≤ 5 := by
  unfold takeR
  simp only
  repeat' split
  · exact ⟨Nat.zero_le _, Nat.zero_le _, Nat.zero_le _⟩
  · exact ⟨Nat.zero_le _, Nat.zero_le _, Nat.zero_le _⟩
  · exact ⟨(rdText_le _ _).2, by rw [List.length_map]; exact rdCnts_len _, Nat.zero_le _⟩
  · exact ⟨Nat.zero_le _, Nat.zero_le _, by rw [List.length_map]; exact rdCnts_len _⟩
  · exact ⟨Nat.zero_le _, Nat.zero_le _, Nat.zero_le _⟩
  · exact ⟨Nat.zero_le _, Nat.zero_le _, Nat.zero_le _⟩
theorem take_nilR (most : Nat) : ¬ mayR (takeR most []) := by
  have e : rdNum (([], 0) : Rd) = (0, ([], 20)) := by simp [rdNum, takeN]
  rw [takeR_0 e (by omega)]
  exact mayR_0 (by simp)
theorem conv_any {w : World} {v : Value} {l : List UInt8} (h : ArgB w v l) (hl : l ≠ []) : (convert 46 9 v).run Try.prog w = .ok (.string ⟨l.toArray⟩) w := by
  obtain ⟨g, o, c, rfl, _, _⟩ := h.at_ (List.length_pos_iff.2 hl)
  exact conv_argB h
theorem RdS.far {w w' : World} {b g : Nat} {s : Rd} {cs : List Value} (h : RdS w b s) (hk : Kp (One g) w w') (hb : Bk w g 32 cs) : RdS w' b s := by
  obtain ⟨cs', hc⟩ := h.rdr
  exact h.kp hk (fun m => hc.ne_ hb (by decide) m) (fun k ⟨c2, hk2⟩ m => hk2.ne_ hb (by decide) m)
/-- how far Decode has come: the record in block g, the rows of its stamps, the result's block -/
structure Dst (W : World) (g : Nat) (r : Rcd) (gv rv : Value) (w : World) : Prop where
  bk : Bk w g 32 (rC r gv rv)
  g1 : w.ownsRow W.heap.size 3 1 gv r.grant.stamp.length (ints r.grant.stamp)
  r1 : w.ownsRow W.heap.size 3 1 rv r.stamp.length (ints r.stamp)
  z : Bk w W.heap.size 32 (rC {} (.slice none 0 0) (.slice none 0 0))
  kp : Kp No W w
theorem Dst.one {W w w' : World} {g b : Nat} {r : Rcd} {gv rv : Value} {s : Rd} (h : Dst W g r gv rv w) (hs : RdS w b s) (hk : Kp (One b) w w') (hb : W.heap.size ≤ b) : Dst W g r gv rv w' := by
  obtain ⟨cs, hc⟩ := hs.rdr
  refine ⟨h.bk.kp hk (fun m => h.bk.ne_ hc (by decide) m), own_kp h.g1 hk fun j e m => own_ne h.g1 hc (by decide) (by rw [e, show j = b from m]), own_kp h.r1 hk fun j e m => own_ne h.r1 hc (by decide) (by rw [e, show j = b from m]), h.z.kp hk (fun m => h.z.ne_ hc (by decide) m), h.kp.then_ hk fun j hj m => ?_⟩
  have : j = b := m
  omega
theorem Dst.set_ {W w : World} {g i : Nat} {r r2 : Rcd} {gv rv gv2 rv2 u : Value} (h : Dst W g r gv rv w) (hg : W.heap.size < g) (he : (rC r gv rv).set i u = rC r2 gv2 rv2) (h1 : w.ownsRow W.heap.size 3 1 gv2 r2.grant.stamp.length (ints r2.grant.stamp)) (h2 : w.ownsRow W.heap.size 3 1 rv2 r2.stamp.length (ints r2.stamp)) : Dst W g r2 gv2 rv2 (w.setCell ⟨g, i, none⟩ u) := by
  have hk := (Kp.refl (One g) w).set (.inl (One.self g)) i u
  refine ⟨by rw [← he]; exact h.bk.set_ i u, own_kp h1 hk fun j e m => own_ne h1 h.bk (by decide) (by rw [e, show j = g from m]), own_kp h2 hk fun j e m => own_ne h2 h.bk (by decide) (by rw [e, show j = g from m]), h.z.far (p := ⟨g, i, none⟩) (by show W.heap.size ≠ g; omega) u, h.kp.then_ hk fun j hj m => ?_⟩
  have : j = g := m
  omega
end Go.Proofs.Ytifdceofglocdaa

/- The record of bytes: book.Decode by contract. No condition beyond what each theorem states. -/
namespace Go.Proofs.Ytifdceofglocdaa
open Go Go.RowKit Go.PlainAid

theorem rdCnts_le (s : Rd) : (rdCnts s).2.1.length ≤ s.1.length := Nat.le_trans (rdNums_len _ _).2 (rdNum_le s)
set_option maxRecDepth 100000 in
set_option maxHeartbeats 16000000 in
theorem bdecode_any (A : Option Addr) (c : Nat) (l : List UInt8) (W : World) (hv : ArgB W (.slice A l.length c) l) (hl : l.length ≤ 140737488355328) :
    Calls Try.prog 25 #[.slice A l.length c] W (DecR W l) := by
  obtain ⟨Q, hQ⟩ : ∃ Q : Ending → World → Prop, Q = DecR W l := ⟨_, rfl⟩
  rw [← hQ]
  have HQQ := Lib.hid hQ; clear hQ
  obtain ⟨w1, hw1⟩ : ∃ w1, w1 = W.alloc (.cells #[.int .i64 0, .int .i64 0, .int .i64 0, .string ⟨#[]⟩, .int .i64 0, .slice none 0 0, .int .i64 0, .int .i64 0, .slice none 0 0, .int .i64 0, .int .i64 0, .int .i64 0] 32) := ⟨_, rfl⟩
  have HK1 := Lib.hid (show Kp No W w1 by rw [hw1]; exact (Kp.refl No W).alloc _)
  have HZ1 := Lib.hid (show Bk w1 W.heap.size 32 (rC {} (.slice none 0 0) (.slice none 0 0)) by rw [hw1]; exact Bk.new' rfl rfl)
  have hs1 : w1.heap.size = W.heap.size + 1 := by rw [hw1]; simp
  have HLM := Lib.hid (show l.length ≤ maxLen by unfold maxLen; omega)
  have pr := newr2_any A c l w1 (hv.no HK1.out) hl
  have HV := Lib.hid hv; have HW := Lib.hid hw1; have HS1 := Lib.hid hs1
  clear hv hw1 hl hs1
  go_enter Try.func25, Try.ntmps25
  go_upto_region 1 with (fail)
  rw [← HW.out]
  clear HW
  go_wp2_with fail
  refine pr.mono ?_
  rintro e w2 ⟨b, vb, rfl, hb, _, hrd, k2, htb⟩
  have HBW := Lib.hid (show W.heap.size ≤ b by have := HS1.out; omega)
  have S2 := Lib.hid (show RdS w2 b (l, 0) from ⟨vb, hrd, htb⟩)
  have HK2 := Lib.hid (HK1.out.trans k2); have HZ2 := Lib.hid (HZ1.out.no k2)
  have HS2 := Lib.hid k2.size
  clear hb hrd k2 htb pr
  have pn := rd_num b (l, 0) w2 S2.out HLM.out
  have HL0 := Lib.hid (rdNum_le (l, 0))
  generalize hq : rdNum (l, 0) = q at pn HL0
  obtain ⟨n0, s4⟩ := q
  have HQ0 := Lib.hid hq
  clear hq
  go_wp2_with fail
  refine pn.mono ?_
  rintro e w3 ⟨rfl, h3, k3⟩
  obtain ⟨w4, hw4⟩ : ∃ w4, w4 = w3.alloc (.cells #[.int .i64 (n0 : Int), .int .i64 0, .int .i64 0, .string ⟨#[]⟩, .int .i64 0, .slice none 0 0, .int .i64 0, .int .i64 0, .slice none 0 0, .int .i64 0, .int .i64 0, .int .i64 0] 32) := ⟨_, rfl⟩
  have k4 : Kp No w3 w4 := by rw [hw4]; exact (Kp.refl No w3).alloc _
  have HZ3 : Bk w3 W.heap.size 32 (rC {} (.slice none 0 0) (.slice none 0 0)) := HZ2.out.kp k3 (fun m => by
    obtain ⟨cs, hc⟩ := S2.out.rdr
    exact HZ2.out.ne_ hc (by decide) m)
  have D4 := Lib.hid (show Dst W w3.heap.size ({ kind := (n0 : Int) } : Rcd) (.slice none 0 0) (.slice none 0 0) w4 from
    ⟨by rw [hw4]; exact Bk.new' rfl rfl, nil_own _ _ _ _, nil_own _ _ _ _, HZ3.no k4, (HK2.out.then_ k3 fun j hj m => by have : j = b := m; have := HBW.out; omega).trans k4⟩)
  have S4 := Lib.hid (show RdS w4 b s4 from (show RdS w3 b s4 from h3).no k4)
  have HL4 := Lib.hid (show s4.1.length ≤ l.length from HL0.out)
  have HGG := Lib.hid (show W.heap.size < w3.heap.size by have h1 := HS1.out; have h2 := HS2.out; have h3 := k3.size; omega)
  have HW4 := Lib.hid hw4
  clear h3 k3 k4 pn hw4 HZ3 HL0 S2 HZ1 HZ2 HK1 HK2
  go_upto_region 3 with (fail)
  rw [← HW4.out]
  clear HW4
  have z0 : w4.cell? ⟨w3.heap.size, 0, none⟩ = some (.int .i64 (n0 : Int)) := D4.out.bk.cell 0
  go_upto_block 0 with (fail)
  go_cut [5] (fun s wx => s = .pointer (some ⟨w3.heap.size, 0, none⟩) ∧ ∃ gv rv, Dst W w3.heap.size (takeR l.length l) gv rv wx)
  case first =>
    clear z0
    by_cases e1 : n0 = 1
    case pos =>
      subst e1
      have D4 : Hid (Dst W w3.heap.size ({ kind := 1 } : Rcd) (.slice none 0 0) (.slice none 0 0) w4) := D4
      have z0 : w4.cell? ⟨w3.heap.size, 0, none⟩ = some (.int .i64 1) := D4.out.bk.cell 0
      have pn := rd_num b s4 w4 S4.out (by have h1 := HL4.out; have h2 := HLM.out; omega)
      have HL5 := Lib.hid (show (rdNum s4).2.1.length ≤ l.length from Nat.le_trans (rdNum_le s4) HL4.out)
      generalize hq : rdNum s4 = q at pn HL5
      obtain ⟨x5, s5⟩ := q
      have HQ5 := Lib.hid hq
      clear hq
      go_wp2_with fail
      refine pn.mono ?_
      rintro e w5 ⟨rfl, h, k⟩
      have D5 := Lib.hid (D4.out.one S4.out k HBW.out); have S5 := Lib.hid (show RdS w5 b s5 from h)
      clear h k pn
      have pn := rd_num b s5 w5 S5.out (by have h1 := HL5.out; have h2 := HLM.out; omega)
      have HL6 := Lib.hid (show (rdNum s5).2.1.length ≤ l.length from Nat.le_trans (rdNum_le s5) HL5.out)
      generalize hq : rdNum s5 = q at pn HL6
      obtain ⟨x6, s6⟩ := q
      have HQ6 := Lib.hid hq
      clear hq
      go_wp2_with fail
      refine pn.mono ?_
      rintro e w6 ⟨rfl, h, k⟩
      have D6 := Lib.hid (D5.out.one S5.out k HBW.out); have S6 := Lib.hid (show RdS w6 b s6 from h)
      clear h k pn
      have y9 : w6.cell? ⟨w3.heap.size, 9, none⟩ = some (.int .i64 0) := D6.out.bk.cell 9
      have f9 := D6.out.bk.frozen 9
      have y10 : w6.cell? ⟨w3.heap.size, 10, none⟩ = some (.int .i64 0) := D6.out.bk.cell 10
      have f10 := D6.out.bk.frozen 10
      have hgg := HGG.out
      have e0 := Dst.set_ (i := 9) (r2 := ({ kind := 1, next := (x5 : Int) } : Rcd)) (gv2 := (.slice none 0 0)) (rv2 := (.slice none 0 0)) (u := (.int .i64 (x5 : Int))) D6.out hgg rfl D6.out.g1 D6.out.r1
      have e1 := Dst.set_ (i := 10) (r2 := ({ kind := 1, next := (x5 : Int), boots := (x6 : Int) } : Rcd)) (gv2 := (.slice none 0 0)) (rv2 := (.slice none 0 0)) (u := (.int .i64 (x6 : Int))) e0 hgg rfl e0.g1 e0.r1
      have D7 := Lib.hid e1
      have S7 := Lib.hid (S6.out.far (((Kp.refl (One w3.heap.size) w6).set (.inl (One.self _)) 9 (.int .i64 (x5 : Int))).set (.inl (One.self _)) 10 (.int .i64 (x6 : Int))) D6.out.bk)
      have HL7 := HL6
      clear e0 e1 hgg
      go_wp2
      go_meet
      refine ⟨rfl, (.slice none 0 0), (.slice none 0 0), ?_⟩
      rw [takeR_1 HQ0.out HQ5.out HQ6.out]
      exact D7.out
    by_cases e2 : n0 = 2
    case pos =>
      subst e2
      clear e1
      have D4 : Hid (Dst W w3.heap.size ({ kind := 2 } : Rcd) (.slice none 0 0) (.slice none 0 0) w4) := D4
      have z0 : w4.cell? ⟨w3.heap.size, 0, none⟩ = some (.int .i64 2) := D4.out.bk.cell 0
      have pn := rd_num b s4 w4 S4.out (by have h1 := HL4.out; have h2 := HLM.out; omega)
      have HL5 := Lib.hid (show (rdNum s4).2.1.length ≤ l.length from Nat.le_trans (rdNum_le s4) HL4.out)
      generalize hq : rdNum s4 = q at pn HL5
      obtain ⟨x5, s5⟩ := q
      have HQ5 := Lib.hid hq
      clear hq
      go_wp2_with fail
      refine pn.mono ?_
      rintro e w5 ⟨rfl, h, k⟩
      have D5 := Lib.hid (D4.out.one S4.out k HBW.out); have S5 := Lib.hid (show RdS w5 b s5 from h)
      clear h k pn
      have y11 : w5.cell? ⟨w3.heap.size, 11, none⟩ = some (.int .i64 0) := D5.out.bk.cell 11
      have f11 := D5.out.bk.frozen 11
      have hgg := HGG.out
      have e0 := Dst.set_ (i := 11) (r2 := ({ kind := 2, longest := (x5 : Int) } : Rcd)) (gv2 := (.slice none 0 0)) (rv2 := (.slice none 0 0)) (u := (.int .i64 (x5 : Int))) D5.out hgg rfl D5.out.g1 D5.out.r1
      have D6 := Lib.hid e0
      have S6 := Lib.hid (S5.out.far ((Kp.refl (One w3.heap.size) w5).set (.inl (One.self _)) 11 (.int .i64 (x5 : Int))) D5.out.bk)
      have HL6 := HL5
      clear e0 hgg
      go_wp2
      go_meet
      refine ⟨rfl, (.slice none 0 0), (.slice none 0 0), ?_⟩
      rw [takeR_2 HQ0.out HQ5.out]
      exact D6.out
    by_cases e3 : n0 = 3
    case pos =>
      subst e3
      clear e1 e2
      have D4 : Hid (Dst W w3.heap.size ({ kind := 3 } : Rcd) (.slice none 0 0) (.slice none 0 0) w4) := D4
      have z0 : w4.cell? ⟨w3.heap.size, 0, none⟩ = some (.int .i64 3) := D4.out.bk.cell 0
      have pn := rd_num b s4 w4 S4.out (by have h1 := HL4.out; have h2 := HLM.out; omega)
      have HL5 := Lib.hid (show (rdNum s4).2.1.length ≤ l.length from Nat.le_trans (rdNum_le s4) HL4.out)
      generalize hq : rdNum s4 = q at pn HL5
      obtain ⟨x5, s5⟩ := q
      have HQ5 := Lib.hid hq
      clear hq
      go_wp2_with fail
      refine pn.mono ?_
      rintro e w5 ⟨rfl, h, k⟩
      have D5 := Lib.hid (D4.out.one S4.out k HBW.out); have S5 := Lib.hid (show RdS w5 b s5 from h)
      clear h k pn
      have pn := rd_num b s5 w5 S5.out (by have h1 := HL5.out; have h2 := HLM.out; omega)
      have HL6 := Lib.hid (show (rdNum s5).2.1.length ≤ l.length from Nat.le_trans (rdNum_le s5) HL5.out)
      generalize hq : rdNum s5 = q at pn HL6
      obtain ⟨x6, s6⟩ := q
      have HQ6 := Lib.hid hq
      clear hq
      go_wp2_with fail
      refine pn.mono ?_
      rintro e w6 ⟨rfl, h, k⟩
      have D6 := Lib.hid (D5.out.one S5.out k HBW.out); have S6 := Lib.hid (show RdS w6 b s6 from h)
      clear h k pn
      have pn := rd_text b s6 l.length w6 S6.out (by have h1 := HL6.out; have h2 := HLM.out; omega)
      have HL7 := Lib.hid (show (rdText l.length s6).2.1.length ≤ l.length from Nat.le_trans ((rdText_le l.length s6).1) HL6.out)
      generalize hq : rdText l.length s6 = q at pn HL7
      obtain ⟨x7, s7⟩ := q
      have HQ7 := Lib.hid hq
      clear hq
      go_wp2_with fail
      refine pn.mono ?_
      rintro e w7 ⟨rfl, h, k⟩
      have D7 := Lib.hid (D6.out.one S6.out k HBW.out); have S7 := Lib.hid (show RdS w7 b s7 from h)
      clear h k pn
      have y1 : w7.cell? ⟨w3.heap.size, 1, none⟩ = some (.int .i64 0) := D7.out.bk.cell 1
      have f1 := D7.out.bk.frozen 1
      have y2 : w7.cell? ⟨w3.heap.size, 2, none⟩ = some (.int .i64 0) := D7.out.bk.cell 2
      have f2 := D7.out.bk.frozen 2
      have y3 : w7.cell? ⟨w3.heap.size, 3, none⟩ = some (.string ⟨#[]⟩) := D7.out.bk.cell 3
      have f3 := D7.out.bk.frozen 3
      have hgg := HGG.out
      have e0 := Dst.set_ (i := 1) (r2 := ({ kind := 3, grant := { id := (x5 : Int) } } : Rcd)) (gv2 := (.slice none 0 0)) (rv2 := (.slice none 0 0)) (u := (.int .i64 (x5 : Int))) D7.out hgg rfl D7.out.g1 D7.out.r1
      have e1 := Dst.set_ (i := 2) (r2 := ({ kind := 3, grant := { id := (x5 : Int), holder := (x6 : Int) } } : Rcd)) (gv2 := (.slice none 0 0)) (rv2 := (.slice none 0 0)) (u := (.int .i64 (x6 : Int))) e0 hgg rfl e0.g1 e0.r1
      have e2 := Dst.set_ (i := 3) (r2 := ({ kind := 3, grant := { id := (x5 : Int), holder := (x6 : Int), path := x7 } } : Rcd)) (gv2 := (.slice none 0 0)) (rv2 := (.slice none 0 0)) (u := (.string ⟨x7.toArray⟩)) e1 hgg rfl e1.g1 e1.r1
      have D8 := Lib.hid e2
      have S8 := Lib.hid (S7.out.far ((((Kp.refl (One w3.heap.size) w7).set (.inl (One.self _)) 1 (.int .i64 (x5 : Int))).set (.inl (One.self _)) 2 (.int .i64 (x6 : Int))).set (.inl (One.self _)) 3 (.string ⟨x7.toArray⟩)) D7.out.bk)
      have HL8 := HL7
      clear e0 e1 e2 hgg
      go_upto_region 12 with (fail)
      clear y1 f1 y2 f2 y3 f3
      generalize (((w7.setCell ⟨w3.heap.size, 1, none⟩ (.int .i64 (x5 : Int))).setCell ⟨w3.heap.size, 2, none⟩ (.int .i64 (x6 : Int))).setCell ⟨w3.heap.size, 3, none⟩ (.string ⟨x7.toArray⟩)) = w8 at *
      obtain ⟨s8, hs⟩ : ∃ s, s = s7 := ⟨_, rfl⟩
      rw [← hs] at S8 HL8
      have HQ8 := Lib.hid hs
      clear hs
      have pn := rd_num b s8 w8 S8.out (by have h1 := HL8.out; have h2 := HLM.out; omega)
      have HL9 := Lib.hid (show (rdNum s8).2.1.length ≤ l.length from Nat.le_trans (rdNum_le s8) HL8.out)
      generalize hq : rdNum s8 = q at pn HL9
      obtain ⟨x9, s9⟩ := q
      have HQ9 := Lib.hid hq
      clear hq
      go_wp2_with fail
      refine pn.mono ?_
      rintro e w9 ⟨rfl, h, k⟩
      have D9 := Lib.hid (D8.out.one S8.out k HBW.out); have S9 := Lib.hid (show RdS w9 b s9 from h)
      clear h k pn
      have pn := rd_num b s9 w9 S9.out (by have h1 := HL9.out; have h2 := HLM.out; omega)
      have HL10 := Lib.hid (show (rdNum s9).2.1.length ≤ l.length from Nat.le_trans (rdNum_le s9) HL9.out)
      generalize hq : rdNum s9 = q at pn HL10
      obtain ⟨x10, s10⟩ := q
      have HQ10 := Lib.hid hq
      clear hq
      go_wp2_with fail
      refine pn.mono ?_
      rintro e w10 ⟨rfl, h, k⟩
      have D10 := Lib.hid (D9.out.one S9.out k HBW.out); have S10 := Lib.hid (show RdS w10 b s10 from h)
      clear h k pn
      have y4 : w10.cell? ⟨w3.heap.size, 4, none⟩ = some (.int .i64 0) := D10.out.bk.cell 4
      have f4 := D10.out.bk.frozen 4
      have y6 : w10.cell? ⟨w3.heap.size, 6, none⟩ = some (.int .i64 0) := D10.out.bk.cell 6
      have f6 := D10.out.bk.frozen 6
      have hgg := HGG.out
      have e0 := Dst.set_ (i := 4) (r2 := ({ kind := 3, grant := { id := (x5 : Int), holder := (x6 : Int), path := x7, mode := (x9 : Int) } } : Rcd)) (gv2 := (.slice none 0 0)) (rv2 := (.slice none 0 0)) (u := (.int .i64 (x9 : Int))) D10.out hgg rfl D10.out.g1 D10.out.r1
      have e1 := Dst.set_ (i := 6) (r2 := ({ kind := 3, grant := { id := (x5 : Int), holder := (x6 : Int), path := x7, mode := (x9 : Int), term := (x10 : Int) } } : Rcd)) (gv2 := (.slice none 0 0)) (rv2 := (.slice none 0 0)) (u := (.int .i64 (x10 : Int))) e0 hgg rfl e0.g1 e0.r1
      have D11 := Lib.hid e1
      have S11 := Lib.hid (S10.out.far (((Kp.refl (One w3.heap.size) w10).set (.inl (One.self _)) 4 (.int .i64 (x9 : Int))).set (.inl (One.self _)) 6 (.int .i64 (x10 : Int))) D10.out.bk)
      have HL11 := HL10
      clear e0 e1 hgg
      go_upto_region 13 with (fail)
      clear y4 f4 y6 f6
      generalize ((w10.setCell ⟨w3.heap.size, 4, none⟩ (.int .i64 (x9 : Int))).setCell ⟨w3.heap.size, 6, none⟩ (.int .i64 (x10 : Int))) = w11 at *
      obtain ⟨s11, hs⟩ : ∃ s, s = s10 := ⟨_, rfl⟩
      rw [← hs] at S11 HL11
      have HQ11 := Lib.hid hs
      clear hs
      have pn := counters_any b s11 w11 S11.out (by have h1 := HL11.out; have h2 := HLM.out; omega)
      have HL12 := Lib.hid (show (rdCnts s11).2.1.length ≤ l.length from Nat.le_trans (rdCnts_le s11) HL11.out)
      generalize hq : rdCnts s11 = q at pn HL12
      obtain ⟨x12, s12⟩ := q
      have HQ12 := Lib.hid hq
      clear hq
      go_wp2_with fail
      refine pn.mono ?_
      rintro e w12 ⟨rv12, rfl, ho, h, k⟩
      have D12 := Lib.hid (D11.out.one S11.out k HBW.out); have S12 := Lib.hid (show RdS w12 b s12 from h)
      have O12 := Lib.hid (show w12.ownsRow W.heap.size 3 1 rv12 (x12.map Int.ofNat).length (ints (x12.map Int.ofNat)) from by rw [List.length_map]; exact own_mono ho D11.out.kp.size)
      obtain ⟨A12, c12, hrv, _⟩ := own_len O12.out
      rw [List.length_map] at hrv
      subst hrv
      clear h k pn ho
      have y5 : w12.cell? ⟨w3.heap.size, 5, none⟩ = some (.slice none 0 0) := D12.out.bk.cell 5
      have f5 := D12.out.bk.frozen 5
      have hgg := HGG.out
      have e0 := Dst.set_ (i := 5) (r2 := ({ kind := 3, grant := { id := (x5 : Int), holder := (x6 : Int), path := x7, mode := (x9 : Int), term := (x10 : Int), stamp := x12.map Int.ofNat } } : Rcd)) (gv2 := (.slice A12 x12.length c12)) (rv2 := (.slice none 0 0)) (u := (.slice A12 x12.length c12)) D12.out hgg rfl O12.out D12.out.r1
      have D13 := Lib.hid e0
      have S13 := Lib.hid (S12.out.far ((Kp.refl (One w3.heap.size) w12).set (.inl (One.self _)) 5 (.slice A12 x12.length c12)) D12.out.bk)
      have HL13 := HL12
      clear e0 hgg
      have hq9 : rdNum s7 = (x9, s9) := by have := HQ9.out; rw [HQ8.out] at this; exact this
      have hq12 : rdCnts s10 = (x12, s12) := by have := HQ12.out; rw [HQ11.out] at this; exact this
      go_wp2
      go_meet
      refine ⟨rfl, (.slice A12 x12.length c12), (.slice none 0 0), ?_⟩
      rw [takeR_34 (.inl rfl) HQ0.out HQ5.out HQ6.out HQ7.out hq9 HQ10.out hq12]
      exact D13.out
    by_cases e4 : n0 = 4
    case pos =>
      subst e4
      clear e1 e2 e3
      have D4 : Hid (Dst W w3.heap.size ({ kind := 4 } : Rcd) (.slice none 0 0) (.slice none 0 0) w4) := D4
      have z0 : w4.cell? ⟨w3.heap.size, 0, none⟩ = some (.int .i64 4) := D4.out.bk.cell 0
      have pn := rd_num b s4 w4 S4.out (by have h1 := HL4.out; have h2 := HLM.out; omega)
      have HL5 := Lib.hid (show (rdNum s4).2.1.length ≤ l.length from Nat.le_trans (rdNum_le s4) HL4.out)
      generalize hq : rdNum s4 = q at pn HL5
      obtain ⟨x5, s5⟩ := q
      have HQ5 := Lib.hid hq
      clear hq
      go_wp2_with fail
      refine pn.mono ?_
      rintro e w5 ⟨rfl, h, k⟩
      have D5 := Lib.hid (D4.out.one S4.out k HBW.out); have S5 := Lib.hid (show RdS w5 b s5 from h)
      clear h k pn
      have pn := rd_num b s5 w5 S5.out (by have h1 := HL5.out; have h2 := HLM.out; omega)
      have HL6 := Lib.hid (show (rdNum s5).2.1.length ≤ l.length from Nat.le_trans (rdNum_le s5) HL5.out)
      generalize hq : rdNum s5 = q at pn HL6
      obtain ⟨x6, s6⟩ := q
      have HQ6 := Lib.hid hq
      clear hq
      go_wp2_with fail
      refine pn.mono ?_
      rintro e w6 ⟨rfl, h, k⟩
      have D6 := Lib.hid (D5.out.one S5.out k HBW.out); have S6 := Lib.hid (show RdS w6 b s6 from h)
      clear h k pn
      have pn := rd_text b s6 l.length w6 S6.out (by have h1 := HL6.out; have h2 := HLM.out; omega)
      have HL7 := Lib.hid (show (rdText l.length s6).2.1.length ≤ l.length from Nat.le_trans ((rdText_le l.length s6).1) HL6.out)
      generalize hq : rdText l.length s6 = q at pn HL7
      obtain ⟨x7, s7⟩ := q
      have HQ7 := Lib.hid hq
      clear hq
      go_wp2_with fail
      refine pn.mono ?_
      rintro e w7 ⟨rfl, h, k⟩
      have D7 := Lib.hid (D6.out.one S6.out k HBW.out); have S7 := Lib.hid (show RdS w7 b s7 from h)
      clear h k pn
      have y1 : w7.cell? ⟨w3.heap.size, 1, none⟩ = some (.int .i64 0) := D7.out.bk.cell 1
      have f1 := D7.out.bk.frozen 1
      have y2 : w7.cell? ⟨w3.heap.size, 2, none⟩ = some (.int .i64 0) := D7.out.bk.cell 2
      have f2 := D7.out.bk.frozen 2
      have y3 : w7.cell? ⟨w3.heap.size, 3, none⟩ = some (.string ⟨#[]⟩) := D7.out.bk.cell 3
      have f3 := D7.out.bk.frozen 3
      have hgg := HGG.out
      have e0 := Dst.set_ (i := 1) (r2 := ({ kind := 4, grant := { id := (x5 : Int) } } : Rcd)) (gv2 := (.slice none 0 0)) (rv2 := (.slice none 0 0)) (u := (.int .i64 (x5 : Int))) D7.out hgg rfl D7.out.g1 D7.out.r1
      have e1 := Dst.set_ (i := 2) (r2 := ({ kind := 4, grant := { id := (x5 : Int), holder := (x6 : Int) } } : Rcd)) (gv2 := (.slice none 0 0)) (rv2 := (.slice none 0 0)) (u := (.int .i64 (x6 : Int))) e0 hgg rfl e0.g1 e0.r1
      have e2 := Dst.set_ (i := 3) (r2 := ({ kind := 4, grant := { id := (x5 : Int), holder := (x6 : Int), path := x7 } } : Rcd)) (gv2 := (.slice none 0 0)) (rv2 := (.slice none 0 0)) (u := (.string ⟨x7.toArray⟩)) e1 hgg rfl e1.g1 e1.r1
      have D8 := Lib.hid e2
      have S8 := Lib.hid (S7.out.far ((((Kp.refl (One w3.heap.size) w7).set (.inl (One.self _)) 1 (.int .i64 (x5 : Int))).set (.inl (One.self _)) 2 (.int .i64 (x6 : Int))).set (.inl (One.self _)) 3 (.string ⟨x7.toArray⟩)) D7.out.bk)
      have HL8 := HL7
      clear e0 e1 e2 hgg
      go_upto_region 12 with (fail)
      clear y1 f1 y2 f2 y3 f3
      generalize (((w7.setCell ⟨w3.heap.size, 1, none⟩ (.int .i64 (x5 : Int))).setCell ⟨w3.heap.size, 2, none⟩ (.int .i64 (x6 : Int))).setCell ⟨w3.heap.size, 3, none⟩ (.string ⟨x7.toArray⟩)) = w8 at *
      obtain ⟨s8, hs⟩ : ∃ s, s = s7 := ⟨_, rfl⟩
      rw [← hs] at S8 HL8
      have HQ8 := Lib.hid hs
      clear hs
      have pn := rd_num b s8 w8 S8.out (by have h1 := HL8.out; have h2 := HLM.out; omega)
      have HL9 := Lib.hid (show (rdNum s8).2.1.length ≤ l.length from Nat.le_trans (rdNum_le s8) HL8.out)
      generalize hq : rdNum s8 = q at pn HL9
      obtain ⟨x9, s9⟩ := q
      have HQ9 := Lib.hid hq
      clear hq
      go_wp2_with fail
      refine pn.mono ?_
      rintro e w9 ⟨rfl, h, k⟩
      have D9 := Lib.hid (D8.out.one S8.out k HBW.out); have S9 := Lib.hid (show RdS w9 b s9 from h)
      clear h k pn
      have pn := rd_num b s9 w9 S9.out (by have h1 := HL9.out; have h2 := HLM.out; omega)
      have HL10 := Lib.hid (show (rdNum s9).2.1.length ≤ l.length from Nat.le_trans (rdNum_le s9) HL9.out)
      generalize hq : rdNum s9 = q at pn HL10
      obtain ⟨x10, s10⟩ := q
      have HQ10 := Lib.hid hq
      clear hq
      go_wp2_with fail
      refine pn.mono ?_
      rintro e w10 ⟨rfl, h, k⟩
      have D10 := Lib.hid (D9.out.one S9.out k HBW.out); have S10 := Lib.hid (show RdS w10 b s10 from h)
      clear h k pn
      have y4 : w10.cell? ⟨w3.heap.size, 4, none⟩ = some (.int .i64 0) := D10.out.bk.cell 4
      have f4 := D10.out.bk.frozen 4
      have y6 : w10.cell? ⟨w3.heap.size, 6, none⟩ = some (.int .i64 0) := D10.out.bk.cell 6
      have f6 := D10.out.bk.frozen 6
      have hgg := HGG.out
      have e0 := Dst.set_ (i := 4) (r2 := ({ kind := 4, grant := { id := (x5 : Int), holder := (x6 : Int), path := x7, mode := (x9 : Int) } } : Rcd)) (gv2 := (.slice none 0 0)) (rv2 := (.slice none 0 0)) (u := (.int .i64 (x9 : Int))) D10.out hgg rfl D10.out.g1 D10.out.r1
      have e1 := Dst.set_ (i := 6) (r2 := ({ kind := 4, grant := { id := (x5 : Int), holder := (x6 : Int), path := x7, mode := (x9 : Int), term := (x10 : Int) } } : Rcd)) (gv2 := (.slice none 0 0)) (rv2 := (.slice none 0 0)) (u := (.int .i64 (x10 : Int))) e0 hgg rfl e0.g1 e0.r1
      have D11 := Lib.hid e1
      have S11 := Lib.hid (S10.out.far (((Kp.refl (One w3.heap.size) w10).set (.inl (One.self _)) 4 (.int .i64 (x9 : Int))).set (.inl (One.self _)) 6 (.int .i64 (x10 : Int))) D10.out.bk)
      have HL11 := HL10
      clear e0 e1 hgg
      go_upto_region 13 with (fail)
      clear y4 f4 y6 f6
      generalize ((w10.setCell ⟨w3.heap.size, 4, none⟩ (.int .i64 (x9 : Int))).setCell ⟨w3.heap.size, 6, none⟩ (.int .i64 (x10 : Int))) = w11 at *
      obtain ⟨s11, hs⟩ : ∃ s, s = s10 := ⟨_, rfl⟩
      rw [← hs] at S11 HL11
      have HQ11 := Lib.hid hs
      clear hs
      have pn := counters_any b s11 w11 S11.out (by have h1 := HL11.out; have h2 := HLM.out; omega)
      have HL12 := Lib.hid (show (rdCnts s11).2.1.length ≤ l.length from Nat.le_trans (rdCnts_le s11) HL11.out)
      generalize hq : rdCnts s11 = q at pn HL12
      obtain ⟨x12, s12⟩ := q
      have HQ12 := Lib.hid hq
      clear hq
      go_wp2_with fail
      refine pn.mono ?_
      rintro e w12 ⟨rv12, rfl, ho, h, k⟩
      have D12 := Lib.hid (D11.out.one S11.out k HBW.out); have S12 := Lib.hid (show RdS w12 b s12 from h)
      have O12 := Lib.hid (show w12.ownsRow W.heap.size 3 1 rv12 (x12.map Int.ofNat).length (ints (x12.map Int.ofNat)) from by rw [List.length_map]; exact own_mono ho D11.out.kp.size)
      obtain ⟨A12, c12, hrv, _⟩ := own_len O12.out
      rw [List.length_map] at hrv
      subst hrv
      clear h k pn ho
      have y5 : w12.cell? ⟨w3.heap.size, 5, none⟩ = some (.slice none 0 0) := D12.out.bk.cell 5
      have f5 := D12.out.bk.frozen 5
      have hgg := HGG.out
      have e0 := Dst.set_ (i := 5) (r2 := ({ kind := 4, grant := { id := (x5 : Int), holder := (x6 : Int), path := x7, mode := (x9 : Int), term := (x10 : Int), stamp := x12.map Int.ofNat } } : Rcd)) (gv2 := (.slice A12 x12.length c12)) (rv2 := (.slice none 0 0)) (u := (.slice A12 x12.length c12)) D12.out hgg rfl O12.out D12.out.r1
      have D13 := Lib.hid e0
      have S13 := Lib.hid (S12.out.far ((Kp.refl (One w3.heap.size) w12).set (.inl (One.self _)) 5 (.slice A12 x12.length c12)) D12.out.bk)
      have HL13 := HL12
      clear e0 hgg
      have hq9 : rdNum s7 = (x9, s9) := by have := HQ9.out; rw [HQ8.out] at this; exact this
      have hq12 : rdCnts s10 = (x12, s12) := by have := HQ12.out; rw [HQ11.out] at this; exact this
      go_wp2
      go_meet
      refine ⟨rfl, (.slice A12 x12.length c12), (.slice none 0 0), ?_⟩
      rw [takeR_34 (.inr rfl) HQ0.out HQ5.out HQ6.out HQ7.out hq9 HQ10.out hq12]
      exact D13.out
    by_cases e5 : n0 = 5
    case pos =>
      subst e5
      clear e1 e2 e3 e4
      have D4 : Hid (Dst W w3.heap.size ({ kind := 5 } : Rcd) (.slice none 0 0) (.slice none 0 0) w4) := D4
      have z0 : w4.cell? ⟨w3.heap.size, 0, none⟩ = some (.int .i64 5) := D4.out.bk.cell 0
      have pn := rd_num b s4 w4 S4.out (by have h1 := HL4.out; have h2 := HLM.out; omega)
      have HL5 := Lib.hid (show (rdNum s4).2.1.length ≤ l.length from Nat.le_trans (rdNum_le s4) HL4.out)
      generalize hq : rdNum s4 = q at pn HL5
      obtain ⟨x5, s5⟩ := q
      have HQ5 := Lib.hid hq
      clear hq
      go_wp2_with fail
      refine pn.mono ?_
      rintro e w5 ⟨rfl, h, k⟩
      have D5 := Lib.hid (D4.out.one S4.out k HBW.out); have S5 := Lib.hid (show RdS w5 b s5 from h)
      clear h k pn
      have y7 : w5.cell? ⟨w3.heap.size, 7, none⟩ = some (.int .i64 0) := D5.out.bk.cell 7
      have f7 := D5.out.bk.frozen 7
      have hgg := HGG.out
      have e0 := Dst.set_ (i := 7) (r2 := ({ kind := 5, id := (x5 : Int) } : Rcd)) (gv2 := (.slice none 0 0)) (rv2 := (.slice none 0 0)) (u := (.int .i64 (x5 : Int))) D5.out hgg rfl D5.out.g1 D5.out.r1
      have D6 := Lib.hid e0
      have S6 := Lib.hid (S5.out.far ((Kp.refl (One w3.heap.size) w5).set (.inl (One.self _)) 7 (.int .i64 (x5 : Int))) D5.out.bk)
      have HL6 := HL5
      clear e0 hgg
      go_upto_region 16 with (fail)
      clear y7 f7
      generalize (w5.setCell ⟨w3.heap.size, 7, none⟩ (.int .i64 (x5 : Int))) = w6 at *
      obtain ⟨s6, hs⟩ : ∃ s, s = s5 := ⟨_, rfl⟩
      rw [← hs] at S6 HL6
      have HQ6 := Lib.hid hs
      clear hs
      have pn := counters_any b s6 w6 S6.out (by have h1 := HL6.out; have h2 := HLM.out; omega)
      have HL7 := Lib.hid (show (rdCnts s6).2.1.length ≤ l.length from Nat.le_trans (rdCnts_le s6) HL6.out)
      generalize hq : rdCnts s6 = q at pn HL7
      obtain ⟨x7, s7⟩ := q
      have HQ7 := Lib.hid hq
      clear hq
      go_wp2_with fail
      refine pn.mono ?_
      rintro e w7 ⟨rv7, rfl, ho, h, k⟩
      have D7 := Lib.hid (D6.out.one S6.out k HBW.out); have S7 := Lib.hid (show RdS w7 b s7 from h)
      have O7 := Lib.hid (show w7.ownsRow W.heap.size 3 1 rv7 (x7.map Int.ofNat).length (ints (x7.map Int.ofNat)) from by rw [List.length_map]; exact own_mono ho D6.out.kp.size)
      obtain ⟨A7, c7, hrv, _⟩ := own_len O7.out
      rw [List.length_map] at hrv
      subst hrv
      clear h k pn ho
      have y8 : w7.cell? ⟨w3.heap.size, 8, none⟩ = some (.slice none 0 0) := D7.out.bk.cell 8
      have f8 := D7.out.bk.frozen 8
      have hgg := HGG.out
      have e0 := Dst.set_ (i := 8) (r2 := ({ kind := 5, id := (x5 : Int), stamp := x7.map Int.ofNat } : Rcd)) (gv2 := (.slice none 0 0)) (rv2 := (.slice A7 x7.length c7)) (u := (.slice A7 x7.length c7)) D7.out hgg rfl D7.out.g1 O7.out
      have D8 := Lib.hid e0
      have S8 := Lib.hid (S7.out.far ((Kp.refl (One w3.heap.size) w7).set (.inl (One.self _)) 8 (.slice A7 x7.length c7)) D7.out.bk)
      have HL8 := HL7
      clear e0 hgg
      have hq7 : rdCnts s5 = (x7, s7) := by have := HQ7.out; rw [HQ6.out] at this; exact this
      go_wp2
      go_meet
      refine ⟨rfl, (.slice none 0 0), (.slice A7 x7.length c7), ?_⟩
      rw [takeR_5 HQ0.out HQ5.out hq7]
      exact D8.out
    by_cases e6 : n0 = 6
    case pos =>
      subst e6
      clear e1 e2 e3 e4 e5
      have D4 : Hid (Dst W w3.heap.size ({ kind := 6 } : Rcd) (.slice none 0 0) (.slice none 0 0) w4) := D4
      have z0 : w4.cell? ⟨w3.heap.size, 0, none⟩ = some (.int .i64 6) := D4.out.bk.cell 0
      have pn := rd_num b s4 w4 S4.out (by have h1 := HL4.out; have h2 := HLM.out; omega)
      have HL5 := Lib.hid (show (rdNum s4).2.1.length ≤ l.length from Nat.le_trans (rdNum_le s4) HL4.out)
      generalize hq : rdNum s4 = q at pn HL5
      obtain ⟨x5, s5⟩ := q
      have HQ5 := Lib.hid hq
      clear hq
      go_wp2_with fail
      refine pn.mono ?_
      rintro e w5 ⟨rfl, h, k⟩
      have D5 := Lib.hid (D4.out.one S4.out k HBW.out); have S5 := Lib.hid (show RdS w5 b s5 from h)
      clear h k pn
      have y7 : w5.cell? ⟨w3.heap.size, 7, none⟩ = some (.int .i64 0) := D5.out.bk.cell 7
      have f7 := D5.out.bk.frozen 7
      have hgg := HGG.out
      have e0 := Dst.set_ (i := 7) (r2 := ({ kind := 6, id := (x5 : Int) } : Rcd)) (gv2 := (.slice none 0 0)) (rv2 := (.slice none 0 0)) (u := (.int .i64 (x5 : Int))) D5.out hgg rfl D5.out.g1 D5.out.r1
      have D6 := Lib.hid e0
      have S6 := Lib.hid (S5.out.far ((Kp.refl (One w3.heap.size) w5).set (.inl (One.self _)) 7 (.int .i64 (x5 : Int))) D5.out.bk)
      have HL6 := HL5
      clear e0 hgg
      go_wp2
      go_meet
      refine ⟨rfl, (.slice none 0 0), (.slice none 0 0), ?_⟩
      rw [takeR_6 HQ0.out HQ5.out]
      exact D6.out
    have g1 : ((n0 : Int) == 1) = false := by rw [beq_eq_false_iff_ne]; omega
    have g2 : ((n0 : Int) == 2) = false := by rw [beq_eq_false_iff_ne]; omega
    have g3 : ((n0 : Int) == 3) = false := by rw [beq_eq_false_iff_ne]; omega
    have g4 : ((n0 : Int) == 4) = false := by rw [beq_eq_false_iff_ne]; omega
    have g5 : ((n0 : Int) == 5) = false := by rw [beq_eq_false_iff_ne]; omega
    have g6 : ((n0 : Int) == 6) = false := by rw [beq_eq_false_iff_ne]; omega
    have HT := Lib.hid (takeR_0 (most := l.length) HQ0.out ⟨e1, e2, e3, e4, e5, e6⟩)
    clear e1 e2 e3 e4 e5 e6
    go_wp2
    go_meet
    refine ⟨rfl, .slice none 0 0, .slice none 0 0, ?_⟩
    rw [HT.out]
    exact D4.out
  case rest =>
    obtain ⟨rfl, gv, rv, hd⟩ := hcut
    have HD := Lib.hid hd
    clear hd z0
    obtain ⟨hs1, hs2, hs3⟩ := takeR_sh l.length l
    have pe := bencode_any (takeR l.length l) gv rv wc (own_slI HD.out.g1) (own_slI HD.out.r1) ⟨by have := HLM.out; omega, Nat.le_trans hs2 (by unfold maxLen; omega)⟩ (Nat.le_trans hs3 (by unfold maxLen; omega))
    have HNIL := Lib.hid (take_nilR 0)
    have hnil : l = [] → ¬ mayR (takeR l.length l) := fun e => by rw [e]; exact take_nilR 0
    have HN := Lib.hid hnil
    clear hs1 hs2 hs3 hnil HNIL
    have HDR := Lib.hid (show decR l = if encR (takeR l.length l) = some l then some (takeR l.length l) else none from rfl)
    generalize takeR l.length l = r at *
    obtain ⟨C, hC⟩ : ∃ C, C = rC r gv rv := ⟨_, rfl⟩
    rw [← hC] at pe
    have HG := Lib.hid (show Bk wc w3.heap.size 32 C by rw [hC]; exact HD.out.bk)
    have hcl : C.length = 12 := by rw [hC]; rfl
    have HCL := Lib.hid hcl; have HC := Lib.hid hC
    obtain ⟨A1, c1, hg1, _⟩ := own_len HD.out.g1
    obtain ⟨A2, c2, hr1, _⟩ := own_len HD.out.r1
    have HC1 := Lib.hid (show ∀ u ∈ C, u.oneCell' = true by
      rw [hC, hg1, hr1]; unfold rC
      intro u hu
      simp only [List.mem_cons, List.not_mem_nil, or_false] at hu
      rcases hu with rfl | rfl | rfl | rfl | rfl | rfl | rfl | rfl | rfl | rfl | rfl | rfl <;> rfl)
    have HI := Lib.hid (show (Try.prog.info? 32).map (·.size) = some C.length by rw [hcl]; kernel_rfl)
    have HU := Lib.hid Try.underlying32
    clear hcl hC
    go_wp2_with (with_reducible refine wpList_load_mid rfl _ _ rfl w3.heap.size 0 rfl C _ (bk_range HG.out) HU.out rfl HI.out ?_)
    refine pe.mono ?_
    rintro e w5 ⟨hres, k5⟩
    have HK5 := Lib.hid (HD.out.kp.trans k5)
    have HZ5 := Lib.hid (HD.out.z.no k5); have HG5 := Lib.hid (HG.out.no k5)
    have HO1 := Lib.hid (own_kp HD.out.g1 k5 fun _ _ m => m); have HO2 := Lib.hid (own_kp HD.out.r1 k5 fun _ _ m => m)
    have HS5 := Lib.hid k5.size
    clear k5 pe
    rcases hres with ⟨hen, rfl⟩ | ⟨v5, x, hen, rfl, ho⟩
    · have HE := Lib.hid hen
      clear hen
      have HTH := Lib.hid (show w5.there W.heap.size 0 (#[.int .i64 0, .int .i64 0, .int .i64 0, .string ⟨#[]⟩, .int .i64 0, .slice none 0 0, .int .i64 0, .int .i64 0, .slice none 0 0, .int .i64 0, .int .i64 0, .int .i64 0] : Array Value).size from HZ5.out.there 0 _ (by decide))
      have hi2 : Hid ((Try.prog.info? 32).map (·.size) = some (#[.int .i64 0, .int .i64 0, .int .i64 0, .string ⟨#[]⟩, .int .i64 0, .slice none 0 0, .int .i64 0, .int .i64 0, .slice none 0 0, .int .i64 0, .int .i64 0, .int .i64 0] : Array Value).size) := Lib.hid (by kernel_rfl)
      have h1c : Hid ((#[.int .i64 0, .int .i64 0, .int .i64 0, .string ⟨#[]⟩, .int .i64 0, .slice none 0 0, .int .i64 0, .int .i64 0, .slice none 0 0, .int .i64 0, .int .i64 0, .int .i64 0] : Array Value).all (·.oneCell') = true) := Lib.hid (by simp [Value.oneCell'])
      have B9 := Lib.hid (show Bk (w5.setCells W.heap.size 0 (#[.int .i64 0, .int .i64 0, .int .i64 0, .string ⟨#[]⟩, .int .i64 0, .slice none 0 0, .int .i64 0, .int .i64 0, .slice none 0 0, .int .i64 0, .int .i64 0, .int .i64 0] : Array Value).toList) W.heap.size 32 (rC ({} : Rcd) (.slice none 0 0) (.slice none 0 0)) from by
        have := Bk.sets (rC ({} : Rcd) (.slice none 0 0) (.slice none 0 0)) 0 HZ5.out (by decide)
        exact this)
      have K9 := Lib.hid (show Kp (One W.heap.size) w5 (w5.setCells W.heap.size 0 (#[.int .i64 0, .int .i64 0, .int .i64 0, .string ⟨#[]⟩, .int .i64 0, .slice none 0 0, .int .i64 0, .int .i64 0, .slice none 0 0, .int .i64 0, .int .i64 0, .int .i64 0] : Array Value).toList) from Kp.sets _ 0 (Kp.refl _ _) (.inl rfl))
      go_wp2_with (first | (with_reducible refine wpList_store_mid rfl _ _ _ rfl W.heap.size 0 (#[.int .i64 0, .int .i64 0, .int .i64 0, .string ⟨#[]⟩, .int .i64 0, .slice none 0 0, .int .i64 0, .int .i64 0, .slice none 0 0, .int .i64 0, .int .i64 0, .int .i64 0] : Array Value) rfl rfl HTH.out hi2.out h1c.out ?_) | fail)
      generalize w5.setCells W.heap.size 0 (#[.int .i64 0, .int .i64 0, .int .i64 0, .string ⟨#[]⟩, .int .i64 0, .slice none 0 0, .int .i64 0, .int .i64 0, .slice none 0 0, .int .i64 0, .int .i64 0, .int .i64 0] : Array Value).toList = w9 at *
      have x0 := B9.out.cell 0; have x1 := B9.out.cell 1; have x2 := B9.out.cell 2; have x3 := B9.out.cell 3; have x4 := B9.out.cell 4; have x5 := B9.out.cell 5; have x6 := B9.out.cell 6; have x7 := B9.out.cell 7; have x8 := B9.out.cell 8; have x9 := B9.out.cell 9; have x10 := B9.out.cell 10; have x11 := B9.out.cell 11
      simp only [rC, List.getElem?_cons_zero, List.getElem?_cons_succ] at x0 x1 x2 x3 x4 x5 x6 x7 x8 x9 x10 x11
      have HF := Lib.hid (show Q (.returned (.tuple #[.agg (rC ({} : Rcd) (.slice none 0 0) (.slice none 0 0)).toArray, .int .i64 43])) w9 by
        rw [HQQ.out]
        exact DecR.bad (by rw [HDR.out, HE.out]; exact if_neg (by simp)) rfl (HK5.out.then_ K9.out fun j hj m => by have : j = W.heap.size := m; omega))
      refine bodyPost_ret (v := .tuple #[.agg (rC ({} : Rcd) (.slice none 0 0) (.slice none 0 0)).toArray, .int .i64 43]) (by simp [results, Try.results25, go_sem, rC, x0, x1, x2, x3, x4, x5, x6, x7, x8, x9, x10, x11]) rfl ?_
      exact HF.out
    · have HE := Lib.hid hen
      obtain ⟨A5, c5, rfl, _⟩ := own_len ho
      have hmr : mayR r := Classical.byContradiction fun h => by rw [enc_none h] at hen; cases hen
      have hxl := (bodyR_len r hmr).1
      rw [enc_some hmr] at hen
      injection hen with hen
      rw [hen] at hxl
      have hcv1 := conv_any (own_argB ho) (show x ≠ [] from fun e => by rw [e] at hxl; exact absurd hxl (by decide))
      have hcv2 := conv_any (HV.out.no HK5.out) (show l ≠ [] from fun e => HN.out e hmr)
      clear hen hmr hxl ho
      by_cases hxx : x = l
      · subst hxx
        have HTH := Lib.hid (show w5.there W.heap.size 0 (C.toArray).size from HZ5.out.there 0 _ (by rw [Nat.zero_add, List.size_toArray, HCL.out]; exact Nat.le_refl _))
        have hi2 : Hid ((Try.prog.info? 32).map (·.size) = some (C.toArray).size) := HI
        have h1c : Hid ((C.toArray).all (·.oneCell') = true) := Lib.hid (by simpa using HC1.out)
        have B9 := Lib.hid (show Bk (w5.setCells W.heap.size 0 (C.toArray).toList) W.heap.size 32 (C) from by
          have := Bk.sets (C) 0 HZ5.out (by rw [Nat.zero_add, HCL.out]; exact Nat.le_refl _)
          rw [List.take_zero, List.nil_append, Nat.zero_add, HCL.out, show List.drop 12 (rC ({} : Rcd) (.slice none 0 0) (.slice none 0 0)) = [] from rfl, List.append_nil] at this
          exact this)
        have K9 := Lib.hid (show Kp (One W.heap.size) w5 (w5.setCells W.heap.size 0 (C.toArray).toList) from Kp.sets _ 0 (Kp.refl _ _) (.inl rfl))
        go_wp2_with (first | (with_reducible refine wpList_load_mid rfl _ _ rfl w3.heap.size 0 rfl C _ (bk_range HG5.out) HU.out rfl HI.out ?_) | (with_reducible refine wpList_store_mid rfl _ _ _ rfl W.heap.size 0 (C.toArray) rfl rfl HTH.out hi2.out h1c.out ?_) | fail)
        generalize w5.setCells W.heap.size 0 (C.toArray).toList = w9 at *
        clear hcv1 hcv2 HTH hi2 h1c HG5
        have b9 := B9.out
        rw [HC.out] at b9
        have x0 := b9.cell 0; have x1 := b9.cell 1; have x2 := b9.cell 2; have x3 := b9.cell 3; have x4 := b9.cell 4; have x5 := b9.cell 5; have x6 := b9.cell 6; have x7 := b9.cell 7; have x8 := b9.cell 8; have x9 := b9.cell 9; have x10 := b9.cell 10; have x11 := b9.cell 11
        simp only [rC, List.getElem?_cons_zero, List.getElem?_cons_succ] at x0 x1 x2 x3 x4 x5 x6 x7 x8 x9 x10 x11
        have HF := Lib.hid (show Q (.returned (.tuple #[.agg (rC r gv rv).toArray, .int .i64 0])) w9 by
          rw [HQQ.out]
          refine DecR.good (by rw [HDR.out, if_pos HE.out]) rfl (own_kp HO1.out K9.out fun j e m => own_ne HO1.out HZ5.out (by decide) (by rw [e, show j = W.heap.size from m])) (own_kp HO2.out K9.out fun j e m => own_ne HO2.out HZ5.out (by decide) (by rw [e, show j = W.heap.size from m])) (HK5.out.then_ K9.out fun j hj m => by have : j = W.heap.size := m; omega))
        refine bodyPost_ret (v := .tuple #[.agg (rC r gv rv).toArray, .int .i64 0]) (by simp [results, Try.results25, go_sem, rC, x0, x1, x2, x3, x4, x5, x6, x7, x8, x9, x10, x11])  rfl ?_
        exact HF.out
      · have HX := Lib.hid hxx
        have d : ((⟨x.toArray⟩ : ByteArray).toList != (⟨l.toArray⟩ : ByteArray).toList) = true := by rw [bne_iff_ne, ByteArray.toList_eq, ByteArray.toList_eq]; simpa using hxx
        have d2 : (x != l) = true := by rw [bne_iff_ne]; exact hxx
        have d3 : (x == l) = false := by rw [beq_eq_false_iff_ne]; exact hxx
        have d4 : ((⟨x.toArray⟩ : ByteArray).toList == (⟨l.toArray⟩ : ByteArray).toList) = false := by rw [beq_eq_false_iff_ne, ByteArray.toList_eq, ByteArray.toList_eq]; simpa using hxx
        clear hxx
        have HTH := Lib.hid (show w5.there W.heap.size 0 (#[.int .i64 0, .int .i64 0, .int .i64 0, .string ⟨#[]⟩, .int .i64 0, .slice none 0 0, .int .i64 0, .int .i64 0, .slice none 0 0, .int .i64 0, .int .i64 0, .int .i64 0] : Array Value).size from HZ5.out.there 0 _ (by decide))
        have hi2 : Hid ((Try.prog.info? 32).map (·.size) = some (#[.int .i64 0, .int .i64 0, .int .i64 0, .string ⟨#[]⟩, .int .i64 0, .slice none 0 0, .int .i64 0, .int .i64 0, .slice none 0 0, .int .i64 0, .int .i64 0, .int .i64 0] : Array Value).size) := Lib.hid (by kernel_rfl)
        have h1c : Hid ((#[.int .i64 0, .int .i64 0, .int .i64 0, .string ⟨#[]⟩, .int .i64 0, .slice none 0 0, .int .i64 0, .int .i64 0, .slice none 0 0, .int .i64 0, .int .i64 0, .int .i64 0] : Array Value).all (·.oneCell') = true) := Lib.hid (by simp [Value.oneCell'])
        have B9 := Lib.hid (show Bk (w5.setCells W.heap.size 0 (#[.int .i64 0, .int .i64 0, .int .i64 0, .string ⟨#[]⟩, .int .i64 0, .slice none 0 0, .int .i64 0, .int .i64 0, .slice none 0 0, .int .i64 0, .int .i64 0, .int .i64 0] : Array Value).toList) W.heap.size 32 (rC ({} : Rcd) (.slice none 0 0) (.slice none 0 0)) from by
          have := Bk.sets (rC ({} : Rcd) (.slice none 0 0) (.slice none 0 0)) 0 HZ5.out (by decide)
          exact this)
        have K9 := Lib.hid (show Kp (One W.heap.size) w5 (w5.setCells W.heap.size 0 (#[.int .i64 0, .int .i64 0, .int .i64 0, .string ⟨#[]⟩, .int .i64 0, .slice none 0 0, .int .i64 0, .int .i64 0, .slice none 0 0, .int .i64 0, .int .i64 0, .int .i64 0] : Array Value).toList) from Kp.sets _ 0 (Kp.refl _ _) (.inl rfl))
        go_wp2_with (first | (with_reducible refine wpList_store_mid rfl _ _ _ rfl W.heap.size 0 (#[.int .i64 0, .int .i64 0, .int .i64 0, .string ⟨#[]⟩, .int .i64 0, .slice none 0 0, .int .i64 0, .int .i64 0, .slice none 0 0, .int .i64 0, .int .i64 0, .int .i64 0] : Array Value) rfl rfl HTH.out hi2.out h1c.out ?_) | fail)
        generalize w5.setCells W.heap.size 0 (#[.int .i64 0, .int .i64 0, .int .i64 0, .string ⟨#[]⟩, .int .i64 0, .slice none 0 0, .int .i64 0, .int .i64 0, .slice none 0 0, .int .i64 0, .int .i64 0, .int .i64 0] : Array Value).toList = w9 at *
        have x0 := B9.out.cell 0; have x1 := B9.out.cell 1; have x2 := B9.out.cell 2; have x3 := B9.out.cell 3; have x4 := B9.out.cell 4; have x5 := B9.out.cell 5; have x6 := B9.out.cell 6; have x7 := B9.out.cell 7; have x8 := B9.out.cell 8; have x9 := B9.out.cell 9; have x10 := B9.out.cell 10; have x11 := B9.out.cell 11
        simp only [rC, List.getElem?_cons_zero, List.getElem?_cons_succ] at x0 x1 x2 x3 x4 x5 x6 x7 x8 x9 x10 x11
        have HF := Lib.hid (show Q (.returned (.tuple #[.agg (rC ({} : Rcd) (.slice none 0 0) (.slice none 0 0)).toArray, .int .i64 43])) w9 by
          rw [HQQ.out]
          exact DecR.bad (by rw [HDR.out, HE.out]; exact if_neg (fun e => HX.out (by injection e))) rfl (HK5.out.then_ K9.out fun j hj m => by have : j = W.heap.size := m; omega))
        refine bodyPost_ret (v := .tuple #[.agg (rC ({} : Rcd) (.slice none 0 0) (.slice none 0 0)).toArray, .int .i64 43]) (by simp [results, Try.results25, go_sem, rC, x0, x1, x2, x3, x4, x5, x6, x7, x8, x9, x10, x11]) rfl ?_
        exact HF.out
end Go.Proofs.Ytifdceofglocdaa
