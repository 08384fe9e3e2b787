/- Several texts of this claim in one. No condition beyond what each theorem states. -/
import Derived.Test.YtifdceofglocdaaB38
import Derived.Test.YtifdceofglocdaaB39
import Derived.Test.YtifdceofglocdaaB19
import Derived.Deep.CutBlock
/- The record of bytes: the document's Decode by contract (words). No condition beyond what each theorem states. -/
namespace Go.Proofs.Ytifdceofglocdaa
open Go Go.RowKit Go.PlainAid

theorem rdCnts_leT (s : Rd) : (rdCnts s).2.1.length ≤ s.1.length := rdCnts_le s
theorem tcnts_any2 (b B : Nat) (s : Rd) (w : World) (h : TkS w b B s) (hB : B ≤ b) (hm : s.1.length ≤ maxLen) :
    Calls Try.prog 66 #[.pointer (some ⟨b, 0, none⟩)] w fun e w' => ∃ v, e = .returned v ∧ w'.ownsRow w.heap.size 3 1 v ((rdCnts s).1.map Int.ofNat).length (ints ((rdCnts s).1.map Int.ofNat)) ∧ TkS w' b B (rdCnts s).2 ∧ Kp (One b) w w' := tcnts_any b B s w h hB hm
theorem Dst.oneT {W w w' : World} {g b B : Nat} {r : Rcd} {gv rv : Value} {s : Rd} (h : Dst W g r gv rv w) (hs : TkS w b B s) (hk : Kp (One b) w w') (hb : W.heap.size ≤ b) : Dst W g r gv rv w' := by
  obtain ⟨_, _, hc, _⟩ := hs
  refine ⟨h.bk.kp hk (fun m => h.bk.ne_ hc (by decide) m), own_kp h.g1 hk fun j e m => own_ne h.g1 hc (by decide) (by rw [e, show j = b from m]), own_kp h.r1 hk fun j e m => own_ne h.r1 hc (by decide) (by rw [e, show j = b from m]), h.z.kp hk (fun m => h.z.ne_ hc (by decide) m), h.kp.then_ hk fun j hj m => ?_⟩
  have : j = b := m
  omega
theorem TkS.farT {w w' : World} {b B g : Nat} {s : Rd} {cs : List Value} (h : TkS w b B s) (_hb0 : B ≤ b) (hk : Kp (One g) w w') (hb : Bk w g 32 cs) (hg : B ≤ g) : TkS w' b B s := by
  refine h.kp hk (fun m => ?_) fun g' m => by have : g' = g := m; omega
  obtain ⟨_, _, hc, _⟩ := h
  exact hc.ne_ hb (by decide) m
theorem decR_long {b : List UInt8} (h : 188 < b.length) : decR b = none := by
  cases e : decR b with
  | none => rfl
  | some r =>
    have h1 := encR_decR e
    have h2 := (decR_encR h1).2.2
    omega
theorem take_any {r : Rcd} {b : List UInt8} (h : encR r = some b) (m : Nat) (hm : r.grant.path.length ≤ m) (hm2 : m < 9223372036854775808) : takeR m b = r := by
  have hr : mayR r := Classical.byContradiction fun hn => by rw [enc_none hn] at h; cases h
  rw [enc_some hr] at h
  injection h with h
  have := take_bodyR r hr m hm2 hm []
  rwa [List.append_nil, h] at this
theorem may_path {r : Rcd} (h : mayR r) : r.grant.path.length ≤ 27 := by
  rcases mayR_kind h with e | e | e | e | e | e | e
  · rw [((mayR_1 e).1 h).2.2.1]; exact Nat.zero_le _
  · rw [((mayR_2 e).1 h).2.2.2.1]; exact Nat.zero_le _
  · exact (mayG_sh ((mayR_3 e).1 h).1).1
  · exact (mayG_sh ((mayR_4 e).1 h).2.1).1
  · rw [((mayR_5 e).1 h).2.2.2]; exact Nat.zero_le _
  · rw [((mayR_6 e).1 h).2.2.2]; exact Nat.zero_le _
  · rw [((mayR_7 e).1 h).2.1]; exact Nat.zero_le _
theorem decR_188 {b : List UInt8} (hb : b.length ≤ 188) : decR b = if encR (takeR 188 b) = some b then some (takeR 188 b) else none := by
  by_cases h : encR (takeR 188 b) = some b
  · have hr : mayR (takeR 188 b) := Classical.byContradiction fun hn => by rw [enc_none hn] at h; cases h
    have h0 := h
    rw [enc_some hr] at h0
    injection h0 with h0
    have h1 := take_any h b.length (by have := (bodyR_len _ hr).2.2; rw [h0] at this; exact this) (by omega)
    rw [if_pos h]
    unfold decR
    rw [h1, if_pos h]
  · rw [if_neg h]
    cases e : decR b with
    | none => rfl
    | some r =>
      have h1 := encR_decR e
      have hr : mayR r := Classical.byContradiction fun hn => by rw [enc_none hn] at h1; cases h1
      have h2 := take_any h1 188 (Nat.le_trans (may_path hr) (by decide)) (by decide)
      rw [h2] at h
      exact absurd h1 h
end Go.Proofs.Ytifdceofglocdaa

/- The record of bytes: the document's Decode by contract. No condition beyond what each theorem states. -/
namespace Go.Proofs.Ytifdceofglocdaa
open Go Go.RowKit Go.PlainAid

set_option maxRecDepth 100000 in
set_option maxHeartbeats 16000000 in
theorem rdecode_any (A : Option Addr) (c : Nat) (l : List UInt8) (W : World) (hv : ArgB W (.slice A l.length c) l) (hl : l.length ≤ 140737488355328) (hz : l ≠ [] → ∀ g, (Value.slice A l.length c).ownBlock = some g → g < W.heap.size) :
    Calls Try.prog 26 #[.slice A l.length c] W (DecR W l) := by
  obtain ⟨Q, hQ⟩ : ∃ Q : Ending → World → Prop, Q = DecR W l := ⟨_, rfl⟩
  rw [← hQ]
  have HQQ := Lib.hid hQ; clear hQ
  obtain ⟨w1, hw1⟩ : ∃ w1, w1 = W.alloc (.cells #[.int .i64 0, .int .i64 0, .int .i64 0, .string ⟨#[]⟩, .int .i64 0, .slice none 0 0, .int .i64 0, .int .i64 0, .slice none 0 0, .int .i64 0, .int .i64 0, .int .i64 0] 32) := ⟨_, rfl⟩
  have HK1 := Lib.hid (show Kp No W w1 by rw [hw1]; exact (Kp.refl No W).alloc _)
  have HZ1 := Lib.hid (show Bk w1 W.heap.size 32 (rC {} (.slice none 0 0) (.slice none 0 0)) by rw [hw1]; exact Bk.new' rfl rfl)
  have hs1 : w1.heap.size = W.heap.size + 1 := by rw [hw1]; simp
  have HLM := Lib.hid (show l.length ≤ maxLen by unfold maxLen; omega)
  have HV := Lib.hid hv; have HW := Lib.hid hw1; have HS1 := Lib.hid hs1; have HZZ := Lib.hid hz
  clear hv hw1 hl hs1 hz
  go_enter Try.func26, Try.ntmps26
  go_upto_region 1 with (fail)
  rw [← HW.out]
  clear HW
  by_cases hlen : 188 < l.length
  case pos =>
    have hlc : (188 : Int) < (l.length : Int) := by omega
    have HDL := Lib.hid (decR_long hlen)
    clear hlen
    have HTH := Lib.hid (show w1.there W.heap.size 0 (#[.int .i64 0, .int .i64 0, .int .i64 0, .string ⟨#[]⟩, .int .i64 0, .slice none 0 0, .int .i64 0, .int .i64 0, .slice none 0 0, .int .i64 0, .int .i64 0, .int .i64 0] : Array Value).size from HZ1.out.there 0 _ (by decide))
    have hi2 : Hid ((Try.prog.info? 32).map (·.size) = some (#[.int .i64 0, .int .i64 0, .int .i64 0, .string ⟨#[]⟩, .int .i64 0, .slice none 0 0, .int .i64 0, .int .i64 0, .slice none 0 0, .int .i64 0, .int .i64 0, .int .i64 0] : Array Value).size) := Lib.hid (by kernel_rfl)
    have h1c : Hid ((#[.int .i64 0, .int .i64 0, .int .i64 0, .string ⟨#[]⟩, .int .i64 0, .slice none 0 0, .int .i64 0, .int .i64 0, .slice none 0 0, .int .i64 0, .int .i64 0, .int .i64 0] : Array Value).all (·.oneCell') = true) := Lib.hid (by simp [Value.oneCell'])
    have B9 := Lib.hid (show Bk (w1.setCells W.heap.size 0 (#[.int .i64 0, .int .i64 0, .int .i64 0, .string ⟨#[]⟩, .int .i64 0, .slice none 0 0, .int .i64 0, .int .i64 0, .slice none 0 0, .int .i64 0, .int .i64 0, .int .i64 0] : Array Value).toList) W.heap.size 32 (rC ({} : Rcd) (.slice none 0 0) (.slice none 0 0)) from by
      have := Bk.sets (rC ({} : Rcd) (.slice none 0 0) (.slice none 0 0)) 0 HZ1.out (by decide)
      exact this)
    have K9 := Lib.hid (show Kp (One W.heap.size) w1 (w1.setCells W.heap.size 0 (#[.int .i64 0, .int .i64 0, .int .i64 0, .string ⟨#[]⟩, .int .i64 0, .slice none 0 0, .int .i64 0, .int .i64 0, .slice none 0 0, .int .i64 0, .int .i64 0, .int .i64 0] : Array Value).toList) from Kp.sets _ 0 (Kp.refl _ _) (.inl rfl))
    go_wp2_with (first | (with_reducible refine wpList_store_mid rfl _ _ _ rfl W.heap.size 0 (#[.int .i64 0, .int .i64 0, .int .i64 0, .string ⟨#[]⟩, .int .i64 0, .slice none 0 0, .int .i64 0, .int .i64 0, .slice none 0 0, .int .i64 0, .int .i64 0, .int .i64 0] : Array Value) rfl rfl HTH.out hi2.out h1c.out ?_) | fail)
    generalize w1.setCells W.heap.size 0 (#[.int .i64 0, .int .i64 0, .int .i64 0, .string ⟨#[]⟩, .int .i64 0, .slice none 0 0, .int .i64 0, .int .i64 0, .slice none 0 0, .int .i64 0, .int .i64 0, .int .i64 0] : Array Value).toList = w9 at *
    have x0 := B9.out.cell 0; have x1 := B9.out.cell 1; have x2 := B9.out.cell 2; have x3 := B9.out.cell 3; have x4 := B9.out.cell 4; have x5 := B9.out.cell 5; have x6 := B9.out.cell 6; have x7 := B9.out.cell 7; have x8 := B9.out.cell 8; have x9 := B9.out.cell 9; have x10 := B9.out.cell 10; have x11 := B9.out.cell 11
    simp only [rC, List.getElem?_cons_zero, List.getElem?_cons_succ] at x0 x1 x2 x3 x4 x5 x6 x7 x8 x9 x10 x11
    have HF := Lib.hid (show Q (.returned (.tuple #[.agg (rC ({} : Rcd) (.slice none 0 0) (.slice none 0 0)).toArray, .int .i64 43])) w9 by
      rw [HQQ.out]
      exact DecR.bad (HDL.out) rfl (HK1.out.then_ K9.out fun j hj m => by have : j = W.heap.size := m; omega))
    refine bodyPost_ret (v := .tuple #[.agg (rC ({} : Rcd) (.slice none 0 0) (.slice none 0 0)).toArray, .int .i64 43]) (by simp [results, Try.results26, go_sem, rC, x0, x1, x2, x3, x4, x5, x6, x7, x8, x9, x10, x11]) rfl ?_
    exact HF.out
  have HL188 := Lib.hid (show l.length ≤ 188 by omega)
  have hlc : ¬ (188 : Int) < (l.length : Int) := by omega
  clear hlen
  obtain ⟨b, hb⟩ : ∃ b, b = w1.heap.size := ⟨_, rfl⟩
  obtain ⟨w2, hw2⟩ : ∃ w2, w2 = w1.alloc (.cells #[.slice A l.length c, .int .i64 0] 96) := ⟨_, rfl⟩
  have k2 : Kp No w1 w2 := by rw [hw2]; exact (Kp.refl No w1).alloc _
  have HBW := Lib.hid (show W.heap.size ≤ b by rw [hb]; exact HK1.out.size)
  have S2 := Lib.hid (show TkS w2 b W.heap.size (l, 0) from ⟨A, c, by rw [hw2, hb]; exact Bk.new' rfl rfl, (HV.out.no HK1.out).no k2, HZZ.out⟩)
  have HK2 := Lib.hid (HK1.out.trans k2); have HZ2 := Lib.hid (HZ1.out.no k2)
  have HS2 := Lib.hid (show w2.heap.size = W.heap.size + 1 + 1 by rw [hw2]; have := HS1.out; simp; omega)
  have HW2 := Lib.hid hw2; have HB2 := Lib.hid hb
  clear k2 hw2 hb
  go_upto_region 4 with (fail)
  rw [← HW2.out, ← HB2.out]
  clear HW2 HB2
  obtain ⟨xq, hxq⟩ : ∃ xq, xq = w2.heap.size := ⟨_, rfl⟩
  obtain ⟨w3, hw3⟩ : ∃ w3, w3 = w2.alloc (.cells #[.int .i64 0, .int .i64 0, .int .i64 0, .string ⟨#[]⟩, .int .i64 0, .slice none 0 0, .int .i64 0, .int .i64 0, .slice none 0 0, .int .i64 0, .int .i64 0, .int .i64 0] 32) := ⟨_, rfl⟩
  have k3 : Kp No w2 w3 := by rw [hw3]; exact (Kp.refl No w2).alloc _
  have HGG := Lib.hid (show W.heap.size < xq by rw [hxq]; have := HS2.out; omega)
  have D2 := Lib.hid (show Dst W xq ({} : Rcd) (.slice none 0 0) (.slice none 0 0) w3 from ⟨by rw [hw3, hxq]; exact Bk.new' rfl rfl, nil_own _ _ _ _, nil_own _ _ _ _, HZ2.out.no k3, HK2.out.trans k3⟩)
  have S3 := Lib.hid (S2.out.no k3)
  have HW3 := Lib.hid hw3; have HX3 := Lib.hid hxq
  clear k3 hw3 hxq
  go_upto_region 5 with (fail)
  rw [← HW3.out, ← HX3.out]
  clear HW3 HX3
  have pn := tnum_any b W.heap.size (l, 0) w3 S3.out HBW.out HLM.out
  have HL0 := Lib.hid (rdNum_le (l, 0))
  generalize hq : rdNum (l, 0) = q at pn HL0
  obtain ⟨n0, s4⟩ := q
  have HQ0 := Lib.hid hq
  clear hq
  go_wp2_with fail
  refine pn.mono ?_
  rintro e w3' ⟨rfl, h3, k3⟩
  have D3 := Lib.hid (D2.out.oneT S3.out k3 HBW.out)
  have S3' := Lib.hid (show TkS w3' b W.heap.size s4 from h3)
  have y0 : w3'.cell? ⟨xq, 0, none⟩ = some (.int .i64 0) := D3.out.bk.cell 0
  have f0 := D3.out.bk.frozen 0
  have hgg := HGG.out
  have D4 := Lib.hid (Dst.set_ (i := 0) (r2 := ({ kind := (n0 : Int) } : Rcd)) (gv2 := (.slice none 0 0)) (rv2 := (.slice none 0 0)) (u := (.int .i64 (n0 : Int))) D3.out hgg rfl D3.out.g1 D3.out.r1)
  have S4 := Lib.hid (S3'.out.farT HBW.out ((Kp.refl (One xq) w3').set (.inl (One.self _)) 0 (.int .i64 (n0 : Int))) D3.out.bk (Nat.le_of_lt hgg))
  have HL4 := Lib.hid (show s4.1.length ≤ l.length from HL0.out)
  clear h3 k3 pn hgg
  go_upto_region 6 with (fail)
  generalize w3'.setCell ⟨xq, 0, none⟩ (.int .i64 (n0 : Int)) = w4 at *
  clear y0 f0 D2 D3 S3 S3' HL0 S2 HZ1 HZ2 HK2
  have z0 : w4.cell? ⟨xq, 0, none⟩ = some (.int .i64 (n0 : Int)) := D4.out.bk.cell 0
  go_upto_block 0 with (fail)
  go_cut [5] (fun s wx => s = .pointer (some ⟨xq, 0, none⟩) ∧ ∃ gv rv, Dst W xq (takeR 188 l) gv rv wx)
  case first =>
    clear z0
    by_cases e1 : n0 = 1
    case pos =>
      subst e1
      have D4 : Hid (Dst W xq ({ kind := 1 } : Rcd) (.slice none 0 0) (.slice none 0 0) w4) := D4
      have z0 : w4.cell? ⟨xq, 0, none⟩ = some (.int .i64 1) := D4.out.bk.cell 0
      have pn := tnum_any b W.heap.size s4 w4 S4.out HBW.out (by have h1 := HL4.out; have h2 := HLM.out; omega)
      have HL5 := Lib.hid (show (rdNum s4).2.1.length ≤ l.length from Nat.le_trans (rdNum_le s4) HL4.out)
      generalize hq : rdNum s4 = q at pn HL5
      obtain ⟨x5, s5⟩ := q
      have HQ5 := Lib.hid hq
      clear hq
      go_wp2_with fail
      refine pn.mono ?_
      rintro e w5 ⟨rfl, h, k⟩
      have D5 := Lib.hid (D4.out.oneT S4.out k HBW.out); have S5 := Lib.hid (show TkS w5 b W.heap.size s5 from h)
      clear h k pn
      have y9 : w5.cell? ⟨xq, 9, none⟩ = some (.int .i64 0) := D5.out.bk.cell 9
      have f9 := D5.out.bk.frozen 9
      have hgg := HGG.out
      have e0 := Dst.set_ (i := 9) (r2 := ({ kind := 1, next := (x5 : Int) } : Rcd)) (gv2 := (.slice none 0 0)) (rv2 := (.slice none 0 0)) (u := (.int .i64 (x5 : Int))) D5.out hgg rfl D5.out.g1 D5.out.r1
      have D6 := Lib.hid e0
      have S6 := Lib.hid (S5.out.farT HBW.out ((Kp.refl (One xq) w5).set (.inl (One.self _)) 9 (.int .i64 (x5 : Int))) D5.out.bk (Nat.le_of_lt HGG.out))
      have HL6 := HL5
      clear e0 hgg
      go_upto_region 9 with (fail)
      clear y9 f9
      generalize (w5.setCell ⟨xq, 9, none⟩ (.int .i64 (x5 : Int))) = w6 at *
      obtain ⟨s6, hs⟩ : ∃ s, s = s5 := ⟨_, rfl⟩
      rw [← hs] at S6 HL6
      have HQ6 := Lib.hid hs
      clear hs
      have pn := tnum_any b W.heap.size s6 w6 S6.out HBW.out (by have h1 := HL6.out; have h2 := HLM.out; omega)
      have HL7 := Lib.hid (show (rdNum s6).2.1.length ≤ l.length from Nat.le_trans (rdNum_le s6) HL6.out)
      generalize hq : rdNum s6 = q at pn HL7
      obtain ⟨x7, s7⟩ := q
      have HQ7 := Lib.hid hq
      clear hq
      go_wp2_with fail
      refine pn.mono ?_
      rintro e w7 ⟨rfl, h, k⟩
      have D7 := Lib.hid (D6.out.oneT S6.out k HBW.out); have S7 := Lib.hid (show TkS w7 b W.heap.size s7 from h)
      clear h k pn
      have y10 : w7.cell? ⟨xq, 10, none⟩ = some (.int .i64 0) := D7.out.bk.cell 10
      have f10 := D7.out.bk.frozen 10
      have hgg := HGG.out
      have e0 := Dst.set_ (i := 10) (r2 := ({ kind := 1, next := (x5 : Int), boots := (x7 : Int) } : Rcd)) (gv2 := (.slice none 0 0)) (rv2 := (.slice none 0 0)) (u := (.int .i64 (x7 : Int))) D7.out hgg rfl D7.out.g1 D7.out.r1
      have D8 := Lib.hid e0
      have S8 := Lib.hid (S7.out.farT HBW.out ((Kp.refl (One xq) w7).set (.inl (One.self _)) 10 (.int .i64 (x7 : Int))) D7.out.bk (Nat.le_of_lt HGG.out))
      have HL8 := HL7
      clear e0 hgg
      have hq7 : rdNum s5 = (x7, s7) := by have := HQ7.out; rw [HQ6.out] at this; exact this
      go_wp2
      go_meet
      refine ⟨rfl, (.slice none 0 0), (.slice none 0 0), ?_⟩
      rw [takeR_1 HQ0.out HQ5.out hq7]
      exact D8.out
    by_cases e2 : n0 = 2
    case pos =>
      subst e2
      clear e1
      have D4 : Hid (Dst W xq ({ kind := 2 } : Rcd) (.slice none 0 0) (.slice none 0 0) w4) := D4
      have z0 : w4.cell? ⟨xq, 0, none⟩ = some (.int .i64 2) := D4.out.bk.cell 0
      have pn := tnum_any b W.heap.size s4 w4 S4.out HBW.out (by have h1 := HL4.out; have h2 := HLM.out; omega)
      have HL5 := Lib.hid (show (rdNum s4).2.1.length ≤ l.length from Nat.le_trans (rdNum_le s4) HL4.out)
      generalize hq : rdNum s4 = q at pn HL5
      obtain ⟨x5, s5⟩ := q
      have HQ5 := Lib.hid hq
      clear hq
      go_wp2_with fail
      refine pn.mono ?_
      rintro e w5 ⟨rfl, h, k⟩
      have D5 := Lib.hid (D4.out.oneT S4.out k HBW.out); have S5 := Lib.hid (show TkS w5 b W.heap.size s5 from h)
      clear h k pn
      have y11 : w5.cell? ⟨xq, 11, none⟩ = some (.int .i64 0) := D5.out.bk.cell 11
      have f11 := D5.out.bk.frozen 11
      have hgg := HGG.out
      have e0 := Dst.set_ (i := 11) (r2 := ({ kind := 2, longest := (x5 : Int) } : Rcd)) (gv2 := (.slice none 0 0)) (rv2 := (.slice none 0 0)) (u := (.int .i64 (x5 : Int))) D5.out hgg rfl D5.out.g1 D5.out.r1
      have D6 := Lib.hid e0
      have S6 := Lib.hid (S5.out.farT HBW.out ((Kp.refl (One xq) w5).set (.inl (One.self _)) 11 (.int .i64 (x5 : Int))) D5.out.bk (Nat.le_of_lt HGG.out))
      have HL6 := HL5
      clear e0 hgg
      go_wp2
      go_meet
      refine ⟨rfl, (.slice none 0 0), (.slice none 0 0), ?_⟩
      rw [takeR_2 HQ0.out HQ5.out]
      exact D6.out
    by_cases e3 : n0 = 3
    case pos =>
      subst e3
      clear e1 e2
      have D4 : Hid (Dst W xq ({ kind := 3 } : Rcd) (.slice none 0 0) (.slice none 0 0) w4) := D4
      have z0 : w4.cell? ⟨xq, 0, none⟩ = some (.int .i64 3) := D4.out.bk.cell 0
      have pn := tnum_any b W.heap.size s4 w4 S4.out HBW.out (by have h1 := HL4.out; have h2 := HLM.out; omega)
      have HL5 := Lib.hid (show (rdNum s4).2.1.length ≤ l.length from Nat.le_trans (rdNum_le s4) HL4.out)
      generalize hq : rdNum s4 = q at pn HL5
      obtain ⟨x5, s5⟩ := q
      have HQ5 := Lib.hid hq
      clear hq
      go_wp2_with fail
      refine pn.mono ?_
      rintro e w5 ⟨rfl, h, k⟩
      have D5 := Lib.hid (D4.out.oneT S4.out k HBW.out); have S5 := Lib.hid (show TkS w5 b W.heap.size s5 from h)
      clear h k pn
      have y1 : w5.cell? ⟨xq, 1, none⟩ = some (.int .i64 0) := D5.out.bk.cell 1
      have f1 := D5.out.bk.frozen 1
      have hgg := HGG.out
      have e0 := Dst.set_ (i := 1) (r2 := ({ kind := 3, grant := { id := (x5 : Int) } } : Rcd)) (gv2 := (.slice none 0 0)) (rv2 := (.slice none 0 0)) (u := (.int .i64 (x5 : Int))) D5.out hgg rfl D5.out.g1 D5.out.r1
      have D6 := Lib.hid e0
      have S6 := Lib.hid (S5.out.farT HBW.out ((Kp.refl (One xq) w5).set (.inl (One.self _)) 1 (.int .i64 (x5 : Int))) D5.out.bk (Nat.le_of_lt HGG.out))
      have HL6 := HL5
      clear e0 hgg
      go_upto_region 15 with (fail)
      clear y1 f1
      generalize (w5.setCell ⟨xq, 1, none⟩ (.int .i64 (x5 : Int))) = w6 at *
      obtain ⟨s6, hs⟩ : ∃ s, s = s5 := ⟨_, rfl⟩
      rw [← hs] at S6 HL6
      have HQ6 := Lib.hid hs
      clear hs
      have pn := tnum_any b W.heap.size s6 w6 S6.out HBW.out (by have h1 := HL6.out; have h2 := HLM.out; omega)
      have HL7 := Lib.hid (show (rdNum s6).2.1.length ≤ l.length from Nat.le_trans (rdNum_le s6) HL6.out)
      generalize hq : rdNum s6 = q at pn HL7
      obtain ⟨x7, s7⟩ := q
      have HQ7 := Lib.hid hq
      clear hq
      go_wp2_with fail
      refine pn.mono ?_
      rintro e w7 ⟨rfl, h, k⟩
      have D7 := Lib.hid (D6.out.oneT S6.out k HBW.out); have S7 := Lib.hid (show TkS w7 b W.heap.size s7 from h)
      clear h k pn
      have y2 : w7.cell? ⟨xq, 2, none⟩ = some (.int .i64 0) := D7.out.bk.cell 2
      have f2 := D7.out.bk.frozen 2
      have hgg := HGG.out
      have e0 := Dst.set_ (i := 2) (r2 := ({ kind := 3, grant := { id := (x5 : Int), holder := (x7 : Int) } } : Rcd)) (gv2 := (.slice none 0 0)) (rv2 := (.slice none 0 0)) (u := (.int .i64 (x7 : Int))) D7.out hgg rfl D7.out.g1 D7.out.r1
      have D8 := Lib.hid e0
      have S8 := Lib.hid (S7.out.farT HBW.out ((Kp.refl (One xq) w7).set (.inl (One.self _)) 2 (.int .i64 (x7 : Int))) D7.out.bk (Nat.le_of_lt HGG.out))
      have HL8 := HL7
      clear e0 hgg
      go_upto_region 16 with (fail)
      clear y2 f2
      generalize (w7.setCell ⟨xq, 2, none⟩ (.int .i64 (x7 : Int))) = w8 at *
      obtain ⟨s8, hs⟩ : ∃ s, s = s7 := ⟨_, rfl⟩
      rw [← hs] at S8 HL8
      have HQ8 := Lib.hid hs
      clear hs
      obtain ⟨At, ct, hbt, hvt, hnt⟩ := S8.out
      have q0 : w8.cell? ⟨b, 0, none⟩ = some (.slice At s8.1.length ct) := hbt.cell 0
      have q1 : w8.cell? ⟨b, 1, none⟩ = some (.int .i64 s8.2) := hbt.cell 1
      have pn := refReadText_any At ct s8 w8 hvt (by have h1 := HL8.out; have h2 := HLM.out; omega)
      have HLE := Lib.hid (rdText_le 188 s8).1
      generalize hq : rdText 188 s8 = q at pn HLE
      obtain ⟨x9, s9⟩ := q
      simp only at pn
      have HQ9 := Lib.hid hq
      have HBT := Lib.hid hbt; have HNT := Lib.hid hnt
      clear hq hbt hvt hnt
      go_wp2_with fail
      refine pn.mono ?_
      rintro e wt ⟨v', rfl, a2, sb, k2⟩
      obtain ⟨A2t, c2t, rfl, _⟩ := a2.form
      have r0 : wt.cell? ⟨b, 0, none⟩ = some (.slice At s8.1.length ct) := (HBT.out.no k2).cell 0
      have r1 : wt.cell? ⟨b, 1, none⟩ = some (.int .i64 s8.2) := (HBT.out.no k2).cell 1
      have rf := (HBT.out.no k2).frozen
      have hlt : b < wt.heap.size := (HBT.out.no k2).lt
      have HA2 := Lib.hid a2; have HSB := Lib.hid sb; have HK2t := Lib.hid k2
      clear a2 sb k2 pn q0 q1
      go_upto_region 18 with (fail)
      have tk := (TkS.put HBT.out HNT.out HBW.out HK2t.out HA2.out HSB.out HLE.out).no ((Kp.refl No _).alloc (.cells #[.slice A2t s9.1.length c2t, .int .i64 s9.2] 94))
      have kk := (rdK2 (x := .slice A2t s9.1.length c2t) (y := .int .i64 s9.2) HK2t.out : Kp (One b) w8 _).alloc (.cells #[.slice A2t s9.1.length c2t, .int .i64 s9.2] 94)
      have dd := D8.out.oneT S8.out kk HBW.out
      generalize World.alloc _ _ = w9 at tk kk dd ⊢
      have D9 := Lib.hid dd; have S9 := Lib.hid (show TkS w9 b W.heap.size s9 from tk)
      have HL9 := Lib.hid (show s9.1.length ≤ l.length from Nat.le_trans HLE.out HL8.out)
      clear tk kk dd hlt r0 r1 rf
      have y3 : w9.cell? ⟨xq, 3, none⟩ = some (.string ⟨#[]⟩) := D9.out.bk.cell 3
      have f3 := D9.out.bk.frozen 3
      have hgg := HGG.out
      have e0 := Dst.set_ (i := 3) (r2 := ({ kind := 3, grant := { id := (x5 : Int), holder := (x7 : Int), path := x9 } } : Rcd)) (gv2 := (.slice none 0 0)) (rv2 := (.slice none 0 0)) (u := (.string ⟨x9.toArray⟩)) D9.out hgg rfl D9.out.g1 D9.out.r1
      have D10 := Lib.hid e0
      have S10 := Lib.hid (S9.out.farT HBW.out ((Kp.refl (One xq) w9).set (.inl (One.self _)) 3 (.string ⟨x9.toArray⟩)) D9.out.bk (Nat.le_of_lt HGG.out))
      have HL10 := HL9
      clear e0 hgg
      go_upto_region 19 with (fail)
      clear y3 f3
      generalize (w9.setCell ⟨xq, 3, none⟩ (.string ⟨x9.toArray⟩)) = w10 at *
      obtain ⟨s10, hs⟩ : ∃ s, s = s9 := ⟨_, rfl⟩
      rw [← hs] at S10 HL10
      have HQ10 := Lib.hid hs
      clear hs
      have pn := tnum_any b W.heap.size s10 w10 S10.out HBW.out (by have h1 := HL10.out; have h2 := HLM.out; omega)
      have HL11 := Lib.hid (show (rdNum s10).2.1.length ≤ l.length from Nat.le_trans (rdNum_le s10) HL10.out)
      generalize hq : rdNum s10 = q at pn HL11
      obtain ⟨x11, s11⟩ := q
      have HQ11 := Lib.hid hq
      clear hq
      go_wp2_with fail
      refine pn.mono ?_
      rintro e w11 ⟨rfl, h, k⟩
      have D11 := Lib.hid (D10.out.oneT S10.out k HBW.out); have S11 := Lib.hid (show TkS w11 b W.heap.size s11 from h)
      clear h k pn
      have y4 : w11.cell? ⟨xq, 4, none⟩ = some (.int .i64 0) := D11.out.bk.cell 4
      have f4 := D11.out.bk.frozen 4
      have hgg := HGG.out
      have e0 := Dst.set_ (i := 4) (r2 := ({ kind := 3, grant := { id := (x5 : Int), holder := (x7 : Int), path := x9, mode := (x11 : Int) } } : Rcd)) (gv2 := (.slice none 0 0)) (rv2 := (.slice none 0 0)) (u := (.int .i64 (x11 : Int))) D11.out hgg rfl D11.out.g1 D11.out.r1
      have D12 := Lib.hid e0
      have S12 := Lib.hid (S11.out.farT HBW.out ((Kp.refl (One xq) w11).set (.inl (One.self _)) 4 (.int .i64 (x11 : Int))) D11.out.bk (Nat.le_of_lt HGG.out))
      have HL12 := HL11
      clear e0 hgg
      go_upto_region 20 with (fail)
      clear y4 f4
      generalize (w11.setCell ⟨xq, 4, none⟩ (.int .i64 (x11 : Int))) = w12 at *
      obtain ⟨s12, hs⟩ : ∃ s, s = s11 := ⟨_, rfl⟩
      rw [← hs] at S12 HL12
      have HQ12 := Lib.hid hs
      clear hs
      have pn := tnum_any b W.heap.size s12 w12 S12.out HBW.out (by have h1 := HL12.out; have h2 := HLM.out; omega)
      have HL13 := Lib.hid (show (rdNum s12).2.1.length ≤ l.length from Nat.le_trans (rdNum_le s12) HL12.out)
      generalize hq : rdNum s12 = q at pn HL13
      obtain ⟨x13, s13⟩ := q
      have HQ13 := Lib.hid hq
      clear hq
      go_wp2_with fail
      refine pn.mono ?_
      rintro e w13 ⟨rfl, h, k⟩
      have D13 := Lib.hid (D12.out.oneT S12.out k HBW.out); have S13 := Lib.hid (show TkS w13 b W.heap.size s13 from h)
      clear h k pn
      have y6 : w13.cell? ⟨xq, 6, none⟩ = some (.int .i64 0) := D13.out.bk.cell 6
      have f6 := D13.out.bk.frozen 6
      have hgg := HGG.out
      have e0 := Dst.set_ (i := 6) (r2 := ({ kind := 3, grant := { id := (x5 : Int), holder := (x7 : Int), path := x9, mode := (x11 : Int), term := (x13 : Int) } } : Rcd)) (gv2 := (.slice none 0 0)) (rv2 := (.slice none 0 0)) (u := (.int .i64 (x13 : Int))) D13.out hgg rfl D13.out.g1 D13.out.r1
      have D14 := Lib.hid e0
      have S14 := Lib.hid (S13.out.farT HBW.out ((Kp.refl (One xq) w13).set (.inl (One.self _)) 6 (.int .i64 (x13 : Int))) D13.out.bk (Nat.le_of_lt HGG.out))
      have HL14 := HL13
      clear e0 hgg
      go_upto_region 21 with (fail)
      clear y6 f6
      generalize (w13.setCell ⟨xq, 6, none⟩ (.int .i64 (x13 : Int))) = w14 at *
      obtain ⟨s14, hs⟩ : ∃ s, s = s13 := ⟨_, rfl⟩
      rw [← hs] at S14 HL14
      have HQ14 := Lib.hid hs
      clear hs
      have pn := tcnts_any2 b W.heap.size s14 w14 S14.out HBW.out (by have h1 := HL14.out; have h2 := HLM.out; omega)
      have HL15 := Lib.hid (show (rdCnts s14).2.1.length ≤ l.length from Nat.le_trans (rdCnts_leT s14) HL14.out)
      generalize hq : rdCnts s14 = q at pn HL15
      obtain ⟨x15, s15⟩ := q
      have HQ15 := Lib.hid hq
      clear hq
      go_wp2_with fail
      refine pn.mono ?_
      rintro e w15 ⟨rv15, rfl, ho, h, k⟩
      have D15 := Lib.hid (D14.out.oneT S14.out k HBW.out); have S15 := Lib.hid (show TkS w15 b W.heap.size s15 from h)
      have O15 := Lib.hid (show w15.ownsRow W.heap.size 3 1 rv15 (x15.map Int.ofNat).length (ints (x15.map Int.ofNat)) from own_mono ho D14.out.kp.size)
      obtain ⟨A15, c15, hrv, _⟩ := own_len O15.out
      rw [List.length_map] at hrv
      subst hrv
      clear h k pn ho
      have y5 : w15.cell? ⟨xq, 5, none⟩ = some (.slice none 0 0) := D15.out.bk.cell 5
      have f5 := D15.out.bk.frozen 5
      have hgg := HGG.out
      have e0 := Dst.set_ (i := 5) (r2 := ({ kind := 3, grant := { id := (x5 : Int), holder := (x7 : Int), path := x9, mode := (x11 : Int), term := (x13 : Int), stamp := x15.map Int.ofNat } } : Rcd)) (gv2 := (.slice A15 x15.length c15)) (rv2 := (.slice none 0 0)) (u := (.slice A15 x15.length c15)) D15.out hgg rfl O15.out D15.out.r1
      have D16 := Lib.hid e0
      have S16 := Lib.hid (S15.out.farT HBW.out ((Kp.refl (One xq) w15).set (.inl (One.self _)) 5 (.slice A15 x15.length c15)) D15.out.bk (Nat.le_of_lt HGG.out))
      have HL16 := HL15
      clear e0 hgg
      have hq7 : rdNum s5 = (x7, s7) := by have := HQ7.out; rw [HQ6.out] at this; exact this
      have hq9 : rdText 188 s7 = (x9, s9) := by have := HQ9.out; rw [HQ8.out] at this; exact this
      have hq11 : rdNum s9 = (x11, s11) := by have := HQ11.out; rw [HQ10.out] at this; exact this
      have hq13 : rdNum s11 = (x13, s13) := by have := HQ13.out; rw [HQ12.out] at this; exact this
      have hq15 : rdCnts s13 = (x15, s15) := by have := HQ15.out; rw [HQ14.out] at this; exact this
      go_wp2
      go_meet
      refine ⟨rfl, (.slice A15 x15.length c15), (.slice none 0 0), ?_⟩
      rw [takeR_34 (.inl rfl) HQ0.out HQ5.out hq7 hq9 hq11 hq13 hq15]
      exact D16.out
    by_cases e4 : n0 = 4
    case pos =>
      subst e4
      clear e1 e2 e3
      have D4 : Hid (Dst W xq ({ kind := 4 } : Rcd) (.slice none 0 0) (.slice none 0 0) w4) := D4
      have z0 : w4.cell? ⟨xq, 0, none⟩ = some (.int .i64 4) := D4.out.bk.cell 0
      have pn := tnum_any b W.heap.size s4 w4 S4.out HBW.out (by have h1 := HL4.out; have h2 := HLM.out; omega)
      have HL5 := Lib.hid (show (rdNum s4).2.1.length ≤ l.length from Nat.le_trans (rdNum_le s4) HL4.out)
      generalize hq : rdNum s4 = q at pn HL5
      obtain ⟨x5, s5⟩ := q
      have HQ5 := Lib.hid hq
      clear hq
      go_wp2_with fail
      refine pn.mono ?_
      rintro e w5 ⟨rfl, h, k⟩
      have D5 := Lib.hid (D4.out.oneT S4.out k HBW.out); have S5 := Lib.hid (show TkS w5 b W.heap.size s5 from h)
      clear h k pn
      have y1 : w5.cell? ⟨xq, 1, none⟩ = some (.int .i64 0) := D5.out.bk.cell 1
      have f1 := D5.out.bk.frozen 1
      have hgg := HGG.out
      have e0 := Dst.set_ (i := 1) (r2 := ({ kind := 4, grant := { id := (x5 : Int) } } : Rcd)) (gv2 := (.slice none 0 0)) (rv2 := (.slice none 0 0)) (u := (.int .i64 (x5 : Int))) D5.out hgg rfl D5.out.g1 D5.out.r1
      have D6 := Lib.hid e0
      have S6 := Lib.hid (S5.out.farT HBW.out ((Kp.refl (One xq) w5).set (.inl (One.self _)) 1 (.int .i64 (x5 : Int))) D5.out.bk (Nat.le_of_lt HGG.out))
      have HL6 := HL5
      clear e0 hgg
      go_upto_region 15 with (fail)
      clear y1 f1
      generalize (w5.setCell ⟨xq, 1, none⟩ (.int .i64 (x5 : Int))) = w6 at *
      obtain ⟨s6, hs⟩ : ∃ s, s = s5 := ⟨_, rfl⟩
      rw [← hs] at S6 HL6
      have HQ6 := Lib.hid hs
      clear hs
      have pn := tnum_any b W.heap.size s6 w6 S6.out HBW.out (by have h1 := HL6.out; have h2 := HLM.out; omega)
      have HL7 := Lib.hid (show (rdNum s6).2.1.length ≤ l.length from Nat.le_trans (rdNum_le s6) HL6.out)
      generalize hq : rdNum s6 = q at pn HL7
      obtain ⟨x7, s7⟩ := q
      have HQ7 := Lib.hid hq
      clear hq
      go_wp2_with fail
      refine pn.mono ?_
      rintro e w7 ⟨rfl, h, k⟩
      have D7 := Lib.hid (D6.out.oneT S6.out k HBW.out); have S7 := Lib.hid (show TkS w7 b W.heap.size s7 from h)
      clear h k pn
      have y2 : w7.cell? ⟨xq, 2, none⟩ = some (.int .i64 0) := D7.out.bk.cell 2
      have f2 := D7.out.bk.frozen 2
      have hgg := HGG.out
      have e0 := Dst.set_ (i := 2) (r2 := ({ kind := 4, grant := { id := (x5 : Int), holder := (x7 : Int) } } : Rcd)) (gv2 := (.slice none 0 0)) (rv2 := (.slice none 0 0)) (u := (.int .i64 (x7 : Int))) D7.out hgg rfl D7.out.g1 D7.out.r1
      have D8 := Lib.hid e0
      have S8 := Lib.hid (S7.out.farT HBW.out ((Kp.refl (One xq) w7).set (.inl (One.self _)) 2 (.int .i64 (x7 : Int))) D7.out.bk (Nat.le_of_lt HGG.out))
      have HL8 := HL7
      clear e0 hgg
      go_upto_region 16 with (fail)
      clear y2 f2
      generalize (w7.setCell ⟨xq, 2, none⟩ (.int .i64 (x7 : Int))) = w8 at *
      obtain ⟨s8, hs⟩ : ∃ s, s = s7 := ⟨_, rfl⟩
      rw [← hs] at S8 HL8
      have HQ8 := Lib.hid hs
      clear hs
      obtain ⟨At, ct, hbt, hvt, hnt⟩ := S8.out
      have q0 : w8.cell? ⟨b, 0, none⟩ = some (.slice At s8.1.length ct) := hbt.cell 0
      have q1 : w8.cell? ⟨b, 1, none⟩ = some (.int .i64 s8.2) := hbt.cell 1
      have pn := refReadText_any At ct s8 w8 hvt (by have h1 := HL8.out; have h2 := HLM.out; omega)
      have HLE := Lib.hid (rdText_le 188 s8).1
      generalize hq : rdText 188 s8 = q at pn HLE
      obtain ⟨x9, s9⟩ := q
      simp only at pn
      have HQ9 := Lib.hid hq
      have HBT := Lib.hid hbt; have HNT := Lib.hid hnt
      clear hq hbt hvt hnt
      go_wp2_with fail
      refine pn.mono ?_
      rintro e wt ⟨v', rfl, a2, sb, k2⟩
      obtain ⟨A2t, c2t, rfl, _⟩ := a2.form
      have r0 : wt.cell? ⟨b, 0, none⟩ = some (.slice At s8.1.length ct) := (HBT.out.no k2).cell 0
      have r1 : wt.cell? ⟨b, 1, none⟩ = some (.int .i64 s8.2) := (HBT.out.no k2).cell 1
      have rf := (HBT.out.no k2).frozen
      have hlt : b < wt.heap.size := (HBT.out.no k2).lt
      have HA2 := Lib.hid a2; have HSB := Lib.hid sb; have HK2t := Lib.hid k2
      clear a2 sb k2 pn q0 q1
      go_upto_region 18 with (fail)
      have tk := (TkS.put HBT.out HNT.out HBW.out HK2t.out HA2.out HSB.out HLE.out).no ((Kp.refl No _).alloc (.cells #[.slice A2t s9.1.length c2t, .int .i64 s9.2] 94))
      have kk := (rdK2 (x := .slice A2t s9.1.length c2t) (y := .int .i64 s9.2) HK2t.out : Kp (One b) w8 _).alloc (.cells #[.slice A2t s9.1.length c2t, .int .i64 s9.2] 94)
      have dd := D8.out.oneT S8.out kk HBW.out
      generalize World.alloc _ _ = w9 at tk kk dd ⊢
      have D9 := Lib.hid dd; have S9 := Lib.hid (show TkS w9 b W.heap.size s9 from tk)
      have HL9 := Lib.hid (show s9.1.length ≤ l.length from Nat.le_trans HLE.out HL8.out)
      clear tk kk dd hlt r0 r1 rf
      have y3 : w9.cell? ⟨xq, 3, none⟩ = some (.string ⟨#[]⟩) := D9.out.bk.cell 3
      have f3 := D9.out.bk.frozen 3
      have hgg := HGG.out
      have e0 := Dst.set_ (i := 3) (r2 := ({ kind := 4, grant := { id := (x5 : Int), holder := (x7 : Int), path := x9 } } : Rcd)) (gv2 := (.slice none 0 0)) (rv2 := (.slice none 0 0)) (u := (.string ⟨x9.toArray⟩)) D9.out hgg rfl D9.out.g1 D9.out.r1
      have D10 := Lib.hid e0
      have S10 := Lib.hid (S9.out.farT HBW.out ((Kp.refl (One xq) w9).set (.inl (One.self _)) 3 (.string ⟨x9.toArray⟩)) D9.out.bk (Nat.le_of_lt HGG.out))
      have HL10 := HL9
      clear e0 hgg
      go_upto_region 19 with (fail)
      clear y3 f3
      generalize (w9.setCell ⟨xq, 3, none⟩ (.string ⟨x9.toArray⟩)) = w10 at *
      obtain ⟨s10, hs⟩ : ∃ s, s = s9 := ⟨_, rfl⟩
      rw [← hs] at S10 HL10
      have HQ10 := Lib.hid hs
      clear hs
      have pn := tnum_any b W.heap.size s10 w10 S10.out HBW.out (by have h1 := HL10.out; have h2 := HLM.out; omega)
      have HL11 := Lib.hid (show (rdNum s10).2.1.length ≤ l.length from Nat.le_trans (rdNum_le s10) HL10.out)
      generalize hq : rdNum s10 = q at pn HL11
      obtain ⟨x11, s11⟩ := q
      have HQ11 := Lib.hid hq
      clear hq
      go_wp2_with fail
      refine pn.mono ?_
      rintro e w11 ⟨rfl, h, k⟩
      have D11 := Lib.hid (D10.out.oneT S10.out k HBW.out); have S11 := Lib.hid (show TkS w11 b W.heap.size s11 from h)
      clear h k pn
      have y4 : w11.cell? ⟨xq, 4, none⟩ = some (.int .i64 0) := D11.out.bk.cell 4
      have f4 := D11.out.bk.frozen 4
      have hgg := HGG.out
      have e0 := Dst.set_ (i := 4) (r2 := ({ kind := 4, grant := { id := (x5 : Int), holder := (x7 : Int), path := x9, mode := (x11 : Int) } } : Rcd)) (gv2 := (.slice none 0 0)) (rv2 := (.slice none 0 0)) (u := (.int .i64 (x11 : Int))) D11.out hgg rfl D11.out.g1 D11.out.r1
      have D12 := Lib.hid e0
      have S12 := Lib.hid (S11.out.farT HBW.out ((Kp.refl (One xq) w11).set (.inl (One.self _)) 4 (.int .i64 (x11 : Int))) D11.out.bk (Nat.le_of_lt HGG.out))
      have HL12 := HL11
      clear e0 hgg
      go_upto_region 20 with (fail)
      clear y4 f4
      generalize (w11.setCell ⟨xq, 4, none⟩ (.int .i64 (x11 : Int))) = w12 at *
      obtain ⟨s12, hs⟩ : ∃ s, s = s11 := ⟨_, rfl⟩
      rw [← hs] at S12 HL12
      have HQ12 := Lib.hid hs
      clear hs
      have pn := tnum_any b W.heap.size s12 w12 S12.out HBW.out (by have h1 := HL12.out; have h2 := HLM.out; omega)
      have HL13 := Lib.hid (show (rdNum s12).2.1.length ≤ l.length from Nat.le_trans (rdNum_le s12) HL12.out)
      generalize hq : rdNum s12 = q at pn HL13
      obtain ⟨x13, s13⟩ := q
      have HQ13 := Lib.hid hq
      clear hq
      go_wp2_with fail
      refine pn.mono ?_
      rintro e w13 ⟨rfl, h, k⟩
      have D13 := Lib.hid (D12.out.oneT S12.out k HBW.out); have S13 := Lib.hid (show TkS w13 b W.heap.size s13 from h)
      clear h k pn
      have y6 : w13.cell? ⟨xq, 6, none⟩ = some (.int .i64 0) := D13.out.bk.cell 6
      have f6 := D13.out.bk.frozen 6
      have hgg := HGG.out
      have e0 := Dst.set_ (i := 6) (r2 := ({ kind := 4, grant := { id := (x5 : Int), holder := (x7 : Int), path := x9, mode := (x11 : Int), term := (x13 : Int) } } : Rcd)) (gv2 := (.slice none 0 0)) (rv2 := (.slice none 0 0)) (u := (.int .i64 (x13 : Int))) D13.out hgg rfl D13.out.g1 D13.out.r1
      have D14 := Lib.hid e0
      have S14 := Lib.hid (S13.out.farT HBW.out ((Kp.refl (One xq) w13).set (.inl (One.self _)) 6 (.int .i64 (x13 : Int))) D13.out.bk (Nat.le_of_lt HGG.out))
      have HL14 := HL13
      clear e0 hgg
      go_upto_region 21 with (fail)
      clear y6 f6
      generalize (w13.setCell ⟨xq, 6, none⟩ (.int .i64 (x13 : Int))) = w14 at *
      obtain ⟨s14, hs⟩ : ∃ s, s = s13 := ⟨_, rfl⟩
      rw [← hs] at S14 HL14
      have HQ14 := Lib.hid hs
      clear hs
      have pn := tcnts_any2 b W.heap.size s14 w14 S14.out HBW.out (by have h1 := HL14.out; have h2 := HLM.out; omega)
      have HL15 := Lib.hid (show (rdCnts s14).2.1.length ≤ l.length from Nat.le_trans (rdCnts_leT s14) HL14.out)
      generalize hq : rdCnts s14 = q at pn HL15
      obtain ⟨x15, s15⟩ := q
      have HQ15 := Lib.hid hq
      clear hq
      go_wp2_with fail
      refine pn.mono ?_
      rintro e w15 ⟨rv15, rfl, ho, h, k⟩
      have D15 := Lib.hid (D14.out.oneT S14.out k HBW.out); have S15 := Lib.hid (show TkS w15 b W.heap.size s15 from h)
      have O15 := Lib.hid (show w15.ownsRow W.heap.size 3 1 rv15 (x15.map Int.ofNat).length (ints (x15.map Int.ofNat)) from own_mono ho D14.out.kp.size)
      obtain ⟨A15, c15, hrv, _⟩ := own_len O15.out
      rw [List.length_map] at hrv
      subst hrv
      clear h k pn ho
      have y5 : w15.cell? ⟨xq, 5, none⟩ = some (.slice none 0 0) := D15.out.bk.cell 5
      have f5 := D15.out.bk.frozen 5
      have hgg := HGG.out
      have e0 := Dst.set_ (i := 5) (r2 := ({ kind := 4, grant := { id := (x5 : Int), holder := (x7 : Int), path := x9, mode := (x11 : Int), term := (x13 : Int), stamp := x15.map Int.ofNat } } : Rcd)) (gv2 := (.slice A15 x15.length c15)) (rv2 := (.slice none 0 0)) (u := (.slice A15 x15.length c15)) D15.out hgg rfl O15.out D15.out.r1
      have D16 := Lib.hid e0
      have S16 := Lib.hid (S15.out.farT HBW.out ((Kp.refl (One xq) w15).set (.inl (One.self _)) 5 (.slice A15 x15.length c15)) D15.out.bk (Nat.le_of_lt HGG.out))
      have HL16 := HL15
      clear e0 hgg
      have hq7 : rdNum s5 = (x7, s7) := by have := HQ7.out; rw [HQ6.out] at this; exact this
      have hq9 : rdText 188 s7 = (x9, s9) := by have := HQ9.out; rw [HQ8.out] at this; exact this
      have hq11 : rdNum s9 = (x11, s11) := by have := HQ11.out; rw [HQ10.out] at this; exact this
      have hq13 : rdNum s11 = (x13, s13) := by have := HQ13.out; rw [HQ12.out] at this; exact this
      have hq15 : rdCnts s13 = (x15, s15) := by have := HQ15.out; rw [HQ14.out] at this; exact this
      go_wp2
      go_meet
      refine ⟨rfl, (.slice A15 x15.length c15), (.slice none 0 0), ?_⟩
      rw [takeR_34 (.inr rfl) HQ0.out HQ5.out hq7 hq9 hq11 hq13 hq15]
      exact D16.out
    by_cases e5 : n0 = 5
    case pos =>
      subst e5
      clear e1 e2 e3 e4
      have D4 : Hid (Dst W xq ({ kind := 5 } : Rcd) (.slice none 0 0) (.slice none 0 0) w4) := D4
      have z0 : w4.cell? ⟨xq, 0, none⟩ = some (.int .i64 5) := D4.out.bk.cell 0
      have pn := tnum_any b W.heap.size s4 w4 S4.out HBW.out (by have h1 := HL4.out; have h2 := HLM.out; omega)
      have HL5 := Lib.hid (show (rdNum s4).2.1.length ≤ l.length from Nat.le_trans (rdNum_le s4) HL4.out)
      generalize hq : rdNum s4 = q at pn HL5
      obtain ⟨x5, s5⟩ := q
      have HQ5 := Lib.hid hq
      clear hq
      go_wp2_with fail
      refine pn.mono ?_
      rintro e w5 ⟨rfl, h, k⟩
      have D5 := Lib.hid (D4.out.oneT S4.out k HBW.out); have S5 := Lib.hid (show TkS w5 b W.heap.size s5 from h)
      clear h k pn
      have y7 : w5.cell? ⟨xq, 7, none⟩ = some (.int .i64 0) := D5.out.bk.cell 7
      have f7 := D5.out.bk.frozen 7
      have hgg := HGG.out
      have e0 := Dst.set_ (i := 7) (r2 := ({ kind := 5, id := (x5 : Int) } : Rcd)) (gv2 := (.slice none 0 0)) (rv2 := (.slice none 0 0)) (u := (.int .i64 (x5 : Int))) D5.out hgg rfl D5.out.g1 D5.out.r1
      have D6 := Lib.hid e0
      have S6 := Lib.hid (S5.out.farT HBW.out ((Kp.refl (One xq) w5).set (.inl (One.self _)) 7 (.int .i64 (x5 : Int))) D5.out.bk (Nat.le_of_lt HGG.out))
      have HL6 := HL5
      clear e0 hgg
      go_upto_region 24 with (fail)
      clear y7 f7
      generalize (w5.setCell ⟨xq, 7, none⟩ (.int .i64 (x5 : Int))) = w6 at *
      obtain ⟨s6, hs⟩ : ∃ s, s = s5 := ⟨_, rfl⟩
      rw [← hs] at S6 HL6
      have HQ6 := Lib.hid hs
      clear hs
      have pn := tcnts_any2 b W.heap.size s6 w6 S6.out HBW.out (by have h1 := HL6.out; have h2 := HLM.out; omega)
      have HL7 := Lib.hid (show (rdCnts s6).2.1.length ≤ l.length from Nat.le_trans (rdCnts_leT s6) HL6.out)
      generalize hq : rdCnts s6 = q at pn HL7
      obtain ⟨x7, s7⟩ := q
      have HQ7 := Lib.hid hq
      clear hq
      go_wp2_with fail
      refine pn.mono ?_
      rintro e w7 ⟨rv7, rfl, ho, h, k⟩
      have D7 := Lib.hid (D6.out.oneT S6.out k HBW.out); have S7 := Lib.hid (show TkS w7 b W.heap.size s7 from h)
      have O7 := Lib.hid (show w7.ownsRow W.heap.size 3 1 rv7 (x7.map Int.ofNat).length (ints (x7.map Int.ofNat)) from own_mono ho D6.out.kp.size)
      obtain ⟨A7, c7, hrv, _⟩ := own_len O7.out
      rw [List.length_map] at hrv
      subst hrv
      clear h k pn ho
      have y8 : w7.cell? ⟨xq, 8, none⟩ = some (.slice none 0 0) := D7.out.bk.cell 8
      have f8 := D7.out.bk.frozen 8
      have hgg := HGG.out
      have e0 := Dst.set_ (i := 8) (r2 := ({ kind := 5, id := (x5 : Int), stamp := x7.map Int.ofNat } : Rcd)) (gv2 := (.slice none 0 0)) (rv2 := (.slice A7 x7.length c7)) (u := (.slice A7 x7.length c7)) D7.out hgg rfl D7.out.g1 O7.out
      have D8 := Lib.hid e0
      have S8 := Lib.hid (S7.out.farT HBW.out ((Kp.refl (One xq) w7).set (.inl (One.self _)) 8 (.slice A7 x7.length c7)) D7.out.bk (Nat.le_of_lt HGG.out))
      have HL8 := HL7
      clear e0 hgg
      have hq7 : rdCnts s5 = (x7, s7) := by have := HQ7.out; rw [HQ6.out] at this; exact this
      go_wp2
      go_meet
      refine ⟨rfl, (.slice none 0 0), (.slice A7 x7.length c7), ?_⟩
      rw [takeR_5 HQ0.out HQ5.out hq7]
      exact D8.out
    by_cases e6 : n0 = 6
    case pos =>
      subst e6
      clear e1 e2 e3 e4 e5
      have D4 : Hid (Dst W xq ({ kind := 6 } : Rcd) (.slice none 0 0) (.slice none 0 0) w4) := D4
      have z0 : w4.cell? ⟨xq, 0, none⟩ = some (.int .i64 6) := D4.out.bk.cell 0
      have pn := tnum_any b W.heap.size s4 w4 S4.out HBW.out (by have h1 := HL4.out; have h2 := HLM.out; omega)
      have HL5 := Lib.hid (show (rdNum s4).2.1.length ≤ l.length from Nat.le_trans (rdNum_le s4) HL4.out)
      generalize hq : rdNum s4 = q at pn HL5
      obtain ⟨x5, s5⟩ := q
      have HQ5 := Lib.hid hq
      clear hq
      go_wp2_with fail
      refine pn.mono ?_
      rintro e w5 ⟨rfl, h, k⟩
      have D5 := Lib.hid (D4.out.oneT S4.out k HBW.out); have S5 := Lib.hid (show TkS w5 b W.heap.size s5 from h)
      clear h k pn
      have y7 : w5.cell? ⟨xq, 7, none⟩ = some (.int .i64 0) := D5.out.bk.cell 7
      have f7 := D5.out.bk.frozen 7
      have hgg := HGG.out
      have e0 := Dst.set_ (i := 7) (r2 := ({ kind := 6, id := (x5 : Int) } : Rcd)) (gv2 := (.slice none 0 0)) (rv2 := (.slice none 0 0)) (u := (.int .i64 (x5 : Int))) D5.out hgg rfl D5.out.g1 D5.out.r1
      have D6 := Lib.hid e0
      have S6 := Lib.hid (S5.out.farT HBW.out ((Kp.refl (One xq) w5).set (.inl (One.self _)) 7 (.int .i64 (x5 : Int))) D5.out.bk (Nat.le_of_lt HGG.out))
      have HL6 := HL5
      clear e0 hgg
      go_wp2
      go_meet
      refine ⟨rfl, (.slice none 0 0), (.slice none 0 0), ?_⟩
      rw [takeR_6 HQ0.out HQ5.out]
      exact D6.out
    have g1 : ((n0 : Int) == 1) = false := by rw [beq_eq_false_iff_ne]; omega
    have g2 : ((n0 : Int) == 2) = false := by rw [beq_eq_false_iff_ne]; omega
    have g3 : ((n0 : Int) == 3) = false := by rw [beq_eq_false_iff_ne]; omega
    have g4 : ((n0 : Int) == 4) = false := by rw [beq_eq_false_iff_ne]; omega
    have g5 : ((n0 : Int) == 5) = false := by rw [beq_eq_false_iff_ne]; omega
    have g6 : ((n0 : Int) == 6) = false := by rw [beq_eq_false_iff_ne]; omega
    have HT := Lib.hid (takeR_0 (most := 188) HQ0.out ⟨e1, e2, e3, e4, e5, e6⟩)
    clear e1 e2 e3 e4 e5 e6
    go_wp2
    go_meet
    refine ⟨rfl, .slice none 0 0, .slice none 0 0, ?_⟩
    rw [HT.out]
    exact D4.out
  case rest =>
    obtain ⟨rfl, gv, rv, hd⟩ := hcut
    have HD := Lib.hid hd
    clear hd z0
    obtain ⟨hs1, hs2, hs3⟩ := takeR_sh 188 l
    have pe := rencode_any (takeR 188 l) gv rv wc (own_argI HD.out.g1) (own_argI HD.out.r1) ⟨Nat.le_trans hs1 (by unfold maxLen; omega), Nat.le_trans hs2 (by unfold maxLen; omega)⟩ (Nat.le_trans hs3 (by unfold maxLen; omega)) (by omega)
    have HNIL := Lib.hid (take_nilR 0)
    have hnil : l = [] → ¬ mayR (takeR 188 l) := fun e => by rw [e]; exact take_nilR 0
    have HN := Lib.hid hnil
    clear hs1 hs2 hs3 hnil HNIL
    have HDR := Lib.hid (show decR l = if encR (takeR 188 l) = some l then some (takeR 188 l) else none from decR_188 HL188.out)
    generalize takeR 188 l = r at *
    obtain ⟨C, hC⟩ : ∃ C, C = rC r gv rv := ⟨_, rfl⟩
    rw [← hC] at pe
    have HG := Lib.hid (show Bk wc xq 32 C by rw [hC]; exact HD.out.bk)
    have hcl : C.length = 12 := by rw [hC]; rfl
    have HCL := Lib.hid hcl; have HC := Lib.hid hC
    obtain ⟨A1, c1, hg1, _⟩ := own_len HD.out.g1
    obtain ⟨A2, c2, hr1, _⟩ := own_len HD.out.r1
    have HC1 := Lib.hid (show ∀ u ∈ C, u.oneCell' = true by
      rw [hC, hg1, hr1]; unfold rC
      intro u hu
      simp only [List.mem_cons, List.not_mem_nil, or_false] at hu
      rcases hu with rfl | rfl | rfl | rfl | rfl | rfl | rfl | rfl | rfl | rfl | rfl | rfl <;> rfl)
    have HI := Lib.hid (show (Try.prog.info? 32).map (·.size) = some C.length by rw [hcl]; kernel_rfl)
    have HU := Lib.hid Try.underlying32
    clear hcl hC
    go_wp2_with (with_reducible refine wpList_load_mid rfl _ _ rfl xq 0 rfl C _ (bk_range HG.out) HU.out rfl HI.out ?_)
    refine pe.mono ?_
    rintro e w5 ⟨hres, k5⟩
    have HK5 := Lib.hid (HD.out.kp.trans k5)
    have HZ5 := Lib.hid (HD.out.z.no k5); have HG5 := Lib.hid (HG.out.no k5)
    have HO1 := Lib.hid (own_kp HD.out.g1 k5 fun _ _ m => m); have HO2 := Lib.hid (own_kp HD.out.r1 k5 fun _ _ m => m)
    have HS5 := Lib.hid k5.size
    clear k5 pe
    rcases hres with ⟨hen, rfl⟩ | ⟨v5, x, hen, rfl, ho⟩
    · have HE := Lib.hid hen
      clear hen
      have HTH := Lib.hid (show w5.there W.heap.size 0 (#[.int .i64 0, .int .i64 0, .int .i64 0, .string ⟨#[]⟩, .int .i64 0, .slice none 0 0, .int .i64 0, .int .i64 0, .slice none 0 0, .int .i64 0, .int .i64 0, .int .i64 0] : Array Value).size from HZ5.out.there 0 _ (by decide))
      have hi2 : Hid ((Try.prog.info? 32).map (·.size) = some (#[.int .i64 0, .int .i64 0, .int .i64 0, .string ⟨#[]⟩, .int .i64 0, .slice none 0 0, .int .i64 0, .int .i64 0, .slice none 0 0, .int .i64 0, .int .i64 0, .int .i64 0] : Array Value).size) := Lib.hid (by kernel_rfl)
      have h1c : Hid ((#[.int .i64 0, .int .i64 0, .int .i64 0, .string ⟨#[]⟩, .int .i64 0, .slice none 0 0, .int .i64 0, .int .i64 0, .slice none 0 0, .int .i64 0, .int .i64 0, .int .i64 0] : Array Value).all (·.oneCell') = true) := Lib.hid (by simp [Value.oneCell'])
      have B9 := Lib.hid (show Bk (w5.setCells W.heap.size 0 (#[.int .i64 0, .int .i64 0, .int .i64 0, .string ⟨#[]⟩, .int .i64 0, .slice none 0 0, .int .i64 0, .int .i64 0, .slice none 0 0, .int .i64 0, .int .i64 0, .int .i64 0] : Array Value).toList) W.heap.size 32 (rC ({} : Rcd) (.slice none 0 0) (.slice none 0 0)) from by
        have := Bk.sets (rC ({} : Rcd) (.slice none 0 0) (.slice none 0 0)) 0 HZ5.out (by decide)
        exact this)
      have K9 := Lib.hid (show Kp (One W.heap.size) w5 (w5.setCells W.heap.size 0 (#[.int .i64 0, .int .i64 0, .int .i64 0, .string ⟨#[]⟩, .int .i64 0, .slice none 0 0, .int .i64 0, .int .i64 0, .slice none 0 0, .int .i64 0, .int .i64 0, .int .i64 0] : Array Value).toList) from Kp.sets _ 0 (Kp.refl _ _) (.inl rfl))
      go_wp2_with (first | (with_reducible refine wpList_store_mid rfl _ _ _ rfl W.heap.size 0 (#[.int .i64 0, .int .i64 0, .int .i64 0, .string ⟨#[]⟩, .int .i64 0, .slice none 0 0, .int .i64 0, .int .i64 0, .slice none 0 0, .int .i64 0, .int .i64 0, .int .i64 0] : Array Value) rfl rfl HTH.out hi2.out h1c.out ?_) | fail)
      generalize w5.setCells W.heap.size 0 (#[.int .i64 0, .int .i64 0, .int .i64 0, .string ⟨#[]⟩, .int .i64 0, .slice none 0 0, .int .i64 0, .int .i64 0, .slice none 0 0, .int .i64 0, .int .i64 0, .int .i64 0] : Array Value).toList = w9 at *
      have x0 := B9.out.cell 0; have x1 := B9.out.cell 1; have x2 := B9.out.cell 2; have x3 := B9.out.cell 3; have x4 := B9.out.cell 4; have x5 := B9.out.cell 5; have x6 := B9.out.cell 6; have x7 := B9.out.cell 7; have x8 := B9.out.cell 8; have x9 := B9.out.cell 9; have x10 := B9.out.cell 10; have x11 := B9.out.cell 11
      simp only [rC, List.getElem?_cons_zero, List.getElem?_cons_succ] at x0 x1 x2 x3 x4 x5 x6 x7 x8 x9 x10 x11
      have HF := Lib.hid (show Q (.returned (.tuple #[.agg (rC ({} : Rcd) (.slice none 0 0) (.slice none 0 0)).toArray, .int .i64 43])) w9 by
        rw [HQQ.out]
        exact DecR.bad (by rw [HDR.out, HE.out]; exact if_neg (by simp)) rfl (HK5.out.then_ K9.out fun j hj m => by have : j = W.heap.size := m; omega))
      refine bodyPost_ret (v := .tuple #[.agg (rC ({} : Rcd) (.slice none 0 0) (.slice none 0 0)).toArray, .int .i64 43]) (by simp [results, Try.results26, go_sem, rC, x0, x1, x2, x3, x4, x5, x6, x7, x8, x9, x10, x11]) rfl ?_
      exact HF.out
    · have HE := Lib.hid hen
      obtain ⟨A5, c5, rfl, _⟩ := own_len ho
      have hmr : mayR r := Classical.byContradiction fun h => by rw [enc_none h] at hen; cases hen
      have hxl := (bodyR_len r hmr).1
      rw [enc_some hmr] at hen
      injection hen with hen
      rw [hen] at hxl
      have hcv1 := conv_any (own_argB ho) (show x ≠ [] from fun e => by rw [e] at hxl; exact absurd hxl (by decide))
      have hcv2 := conv_any (HV.out.no HK5.out) (show l ≠ [] from fun e => HN.out e hmr)
      clear hen hmr hxl ho
      by_cases hxx : x = l
      · subst hxx
        have HTH := Lib.hid (show w5.there W.heap.size 0 (C.toArray).size from HZ5.out.there 0 _ (by rw [Nat.zero_add, List.size_toArray, HCL.out]; exact Nat.le_refl _))
        have hi2 : Hid ((Try.prog.info? 32).map (·.size) = some (C.toArray).size) := HI
        have h1c : Hid ((C.toArray).all (·.oneCell') = true) := Lib.hid (by simpa using HC1.out)
        have B9 := Lib.hid (show Bk (w5.setCells W.heap.size 0 (C.toArray).toList) W.heap.size 32 (C) from by
          have := Bk.sets (C) 0 HZ5.out (by rw [Nat.zero_add, HCL.out]; exact Nat.le_refl _)
          rw [List.take_zero, List.nil_append, Nat.zero_add, HCL.out, show List.drop 12 (rC ({} : Rcd) (.slice none 0 0) (.slice none 0 0)) = [] from rfl, List.append_nil] at this
          exact this)
        have K9 := Lib.hid (show Kp (One W.heap.size) w5 (w5.setCells W.heap.size 0 (C.toArray).toList) from Kp.sets _ 0 (Kp.refl _ _) (.inl rfl))
        go_wp2_with (first | (with_reducible refine wpList_load_mid rfl _ _ rfl xq 0 rfl C _ (bk_range HG5.out) HU.out rfl HI.out ?_) | (with_reducible refine wpList_store_mid rfl _ _ _ rfl W.heap.size 0 (C.toArray) rfl rfl HTH.out hi2.out h1c.out ?_) | fail)
        generalize w5.setCells W.heap.size 0 (C.toArray).toList = w9 at *
        clear hcv1 hcv2 HTH hi2 h1c HG5
        have b9 := B9.out
        rw [HC.out] at b9
        have x0 := b9.cell 0; have x1 := b9.cell 1; have x2 := b9.cell 2; have x3 := b9.cell 3; have x4 := b9.cell 4; have x5 := b9.cell 5; have x6 := b9.cell 6; have x7 := b9.cell 7; have x8 := b9.cell 8; have x9 := b9.cell 9; have x10 := b9.cell 10; have x11 := b9.cell 11
        simp only [rC, List.getElem?_cons_zero, List.getElem?_cons_succ] at x0 x1 x2 x3 x4 x5 x6 x7 x8 x9 x10 x11
        have HF := Lib.hid (show Q (.returned (.tuple #[.agg (rC r gv rv).toArray, .int .i64 0])) w9 by
          rw [HQQ.out]
          refine DecR.good (by rw [HDR.out, if_pos HE.out]) rfl (own_kp HO1.out K9.out fun j e m => own_ne HO1.out HZ5.out (by decide) (by rw [e, show j = W.heap.size from m])) (own_kp HO2.out K9.out fun j e m => own_ne HO2.out HZ5.out (by decide) (by rw [e, show j = W.heap.size from m])) (HK5.out.then_ K9.out fun j hj m => by have : j = W.heap.size := m; omega))
        refine bodyPost_ret (v := .tuple #[.agg (rC r gv rv).toArray, .int .i64 0]) (by simp [results, Try.results26, go_sem, rC, x0, x1, x2, x3, x4, x5, x6, x7, x8, x9, x10, x11])  rfl ?_
        exact HF.out
      · have HX := Lib.hid hxx
        have d : ((⟨x.toArray⟩ : ByteArray).toList != (⟨l.toArray⟩ : ByteArray).toList) = true := by rw [bne_iff_ne, ByteArray.toList_eq, ByteArray.toList_eq]; simpa using hxx
        have d2 : (x != l) = true := by rw [bne_iff_ne]; exact hxx
        have d3 : (x == l) = false := by rw [beq_eq_false_iff_ne]; exact hxx
        have d4 : ((⟨x.toArray⟩ : ByteArray).toList == (⟨l.toArray⟩ : ByteArray).toList) = false := by rw [beq_eq_false_iff_ne, ByteArray.toList_eq, ByteArray.toList_eq]; simpa using hxx
        clear hxx
        have HTH := Lib.hid (show w5.there W.heap.size 0 (#[.int .i64 0, .int .i64 0, .int .i64 0, .string ⟨#[]⟩, .int .i64 0, .slice none 0 0, .int .i64 0, .int .i64 0, .slice none 0 0, .int .i64 0, .int .i64 0, .int .i64 0] : Array Value).size from HZ5.out.there 0 _ (by decide))
        have hi2 : Hid ((Try.prog.info? 32).map (·.size) = some (#[.int .i64 0, .int .i64 0, .int .i64 0, .string ⟨#[]⟩, .int .i64 0, .slice none 0 0, .int .i64 0, .int .i64 0, .slice none 0 0, .int .i64 0, .int .i64 0, .int .i64 0] : Array Value).size) := Lib.hid (by kernel_rfl)
        have h1c : Hid ((#[.int .i64 0, .int .i64 0, .int .i64 0, .string ⟨#[]⟩, .int .i64 0, .slice none 0 0, .int .i64 0, .int .i64 0, .slice none 0 0, .int .i64 0, .int .i64 0, .int .i64 0] : Array Value).all (·.oneCell') = true) := Lib.hid (by simp [Value.oneCell'])
        have B9 := Lib.hid (show Bk (w5.setCells W.heap.size 0 (#[.int .i64 0, .int .i64 0, .int .i64 0, .string ⟨#[]⟩, .int .i64 0, .slice none 0 0, .int .i64 0, .int .i64 0, .slice none 0 0, .int .i64 0, .int .i64 0, .int .i64 0] : Array Value).toList) W.heap.size 32 (rC ({} : Rcd) (.slice none 0 0) (.slice none 0 0)) from by
          have := Bk.sets (rC ({} : Rcd) (.slice none 0 0) (.slice none 0 0)) 0 HZ5.out (by decide)
          exact this)
        have K9 := Lib.hid (show Kp (One W.heap.size) w5 (w5.setCells W.heap.size 0 (#[.int .i64 0, .int .i64 0, .int .i64 0, .string ⟨#[]⟩, .int .i64 0, .slice none 0 0, .int .i64 0, .int .i64 0, .slice none 0 0, .int .i64 0, .int .i64 0, .int .i64 0] : Array Value).toList) from Kp.sets _ 0 (Kp.refl _ _) (.inl rfl))
        go_wp2_with (first | (with_reducible refine wpList_store_mid rfl _ _ _ rfl W.heap.size 0 (#[.int .i64 0, .int .i64 0, .int .i64 0, .string ⟨#[]⟩, .int .i64 0, .slice none 0 0, .int .i64 0, .int .i64 0, .slice none 0 0, .int .i64 0, .int .i64 0, .int .i64 0] : Array Value) rfl rfl HTH.out hi2.out h1c.out ?_) | fail)
        generalize w5.setCells W.heap.size 0 (#[.int .i64 0, .int .i64 0, .int .i64 0, .string ⟨#[]⟩, .int .i64 0, .slice none 0 0, .int .i64 0, .int .i64 0, .slice none 0 0, .int .i64 0, .int .i64 0, .int .i64 0] : Array Value).toList = w9 at *
        have x0 := B9.out.cell 0; have x1 := B9.out.cell 1; have x2 := B9.out.cell 2; have x3 := B9.out.cell 3; have x4 := B9.out.cell 4; have x5 := B9.out.cell 5; have x6 := B9.out.cell 6; have x7 := B9.out.cell 7; have x8 := B9.out.cell 8; have x9 := B9.out.cell 9; have x10 := B9.out.cell 10; have x11 := B9.out.cell 11
        simp only [rC, List.getElem?_cons_zero, List.getElem?_cons_succ] at x0 x1 x2 x3 x4 x5 x6 x7 x8 x9 x10 x11
        have HF := Lib.hid (show Q (.returned (.tuple #[.agg (rC ({} : Rcd) (.slice none 0 0) (.slice none 0 0)).toArray, .int .i64 43])) w9 by
          rw [HQQ.out]
          exact DecR.bad (by rw [HDR.out, HE.out]; exact if_neg (fun e => HX.out (by injection e))) rfl (HK5.out.then_ K9.out fun j hj m => by have : j = W.heap.size := m; omega))
        refine bodyPost_ret (v := .tuple #[.agg (rC ({} : Rcd) (.slice none 0 0) (.slice none 0 0)).toArray, .int .i64 43]) (by simp [results, Try.results26, go_sem, rC, x0, x1, x2, x3, x4, x5, x6, x7, x8, x9, x10, x11]) rfl ?_
        exact HF.out
end Go.Proofs.Ytifdceofglocdaa
