/- replies.Keep by contract. No condition beyond what each theorem states. -/
import Derived.Test.YtaipbikbapjmjaaGreatB14
namespace Go.Proofs.YtaipbikbapjmjaaGreat
open Go Go.RowKit Go.PlainAid

theorem RpB.put {w : World} {b : Nat} {P : Nat → Prop} {ps : List Pc} (h : RpB w b P ps) {f j : Nat} (hf : f < 8) (hj : j < 8) (s : Sl) (sv : Value) (hs : SvP w P (s, sv)) :
    RpB (w.setCells b (offS f j) (slC (s, sv))) b P (ps.set f ⟨(ps.getD f {}).boot, (ps.getD f {}).low, (ps.getD f {}).slots.set j s⟩) := by
  obtain ⟨cs, h1, h2, h3, h4, h5⟩ := h
  have hfl : f < cs.length := by omega
  have hjl : j < (cs[f]).2.2.length := by rw [h2 _ (List.getElem_mem hfl)]; exact hj
  have hpl : (rpC (cs.take f)).length = f * 138 := by
    rw [rpC_len _ fun x hx => h2 x (List.mem_of_mem_take hx), List.length_take]; omega
  have hk : Kp (One b) w (w.setCells b (offS f j) (slC (s, sv))) := Kp.sets _ _ (Kp.refl _ _) (.inl rfl)
  have ho : ∀ y, SvP w P y → SvP (w.setCells b (offS f j) (slC (s, sv))) P y := fun y hy => hy.kp hk fun k cs' hb' _ hm' => by
    have hm' : k = b := hm'
    subst hm'
    exact hb'.ne_ h4 (by decide) rfl
  have hg : ps.getD f {} = pcV cs[f] := by rw [h3, List.getD_eq_getElem?_getD, List.getElem?_map, List.getElem?_eq_getElem hfl]; rfl
  refine ⟨cs.set f ((cs[f]).1, (cs[f]).2.1, (cs[f]).2.2.set j (s, sv)), by simp [h1], fun x hx => ?_, ?_, ?_, fun x hx y hy => ?_⟩
  · rcases List.mem_or_eq_of_mem_set hx with h | rfl
    · exact h2 x h
    · simp [h2 _ (List.getElem_mem hfl)]
  · rw [hg, h3, List.map_set]
    congr 1
    unfold pcV
    simp [List.map_set]
  · rw [rpC_set cs f hfl]
    unfold cvC
    rw [clC_set _ _ _ _ _ j hjl]
    rw [rpC_split cs f hfl] at h4
    unfold cvC at h4
    rw [clC_split _ _ _ _ _ j hjl] at h4
    exact h4.midSets (clC_pre _ _ _ _ j (f * 138) hjl hpl) rfl
  · rcases List.mem_or_eq_of_mem_set hx with h | rfl
    · exact ho y (h5 x h y hy)
    · rcases List.mem_or_eq_of_mem_set hy with h | rfl
      · exact ho y (h5 _ (List.getElem_mem hfl) y h)
      · exact ho _ hs
theorem RpB.there {w : World} {b : Nat} {P : Nat → Prop} {ps : List Pc} (h : RpB w b P ps) {f j : Nat} (hf : f < 8) (hj : j < 8) : w.there b (offS f j) 17 := by
  obtain ⟨cs, h1, h2, h3, h4, h5⟩ := h
  refine h4.there _ _ ?_
  rw [rpC_len cs h2, h1]
  unfold offS
  omega
def KeepR (W : World) (b : Nat) (P : Nat → Prop) (ps : List Pc) (m a : Msg) (e : Ending) (w' : World) : Prop :=
  RpB w' b (fun k => P k ∨ W.heap.size ≤ k) (keepP ps m a).1 ∧ Kp (One b) W w' ∧ e = .returned (.bool (keepP ps m a).2)
set_option maxRecDepth 100000 in
set_option maxHeartbeats 8000000 in
theorem rkeep_any (b : Nat) (P : Nat → Prop) (ps : List Pc) (m a : Msg) (sv sa : Value) (W : World) (hr : RpB W b P ps) (hs : SlI W sv m.stamp) (hg : Rng m) (hsh : Short maxLen m) (hsa : SlI W sa a.stamp) (hga : Rng a) (hsha : Short maxLen a) :
    Calls Tryz.prog 10 #[.pointer (some ⟨b, 0, none⟩), .agg (mcells m sv).toArray, .agg (mcells a sa).toArray] W (KeepR W b P ps m a) := by
  have hbl := hr.lt
  have kA : Kp No W ((W.alloc (.cells (mcells m sv).toArray 32)).alloc (.cells (mcells a sa).toArray 32)) := ((Kp.refl No W).alloc _).alloc _
  have HM := Lib.hid (show Bk ((W.alloc (.cells (mcells m sv).toArray 32)).alloc (.cells (mcells a sa).toArray 32)) W.heap.size 32 (mcells m sv) from (Bk.new' rfl rfl).alloc _)
  have HA := Lib.hid (show Bk ((W.alloc (.cells (mcells m sv).toArray 32)).alloc (.cells (mcells a sa).toArray 32)) (W.heap.size + 1) 32 (mcells a sa) from Bk.new' (by simp) rfl)
  have pl := look_any b P ps m sv _ (hr.no kA) (hs.no kA) hg hsh
  have HSA := Lib.hid (hsa.no kA)
  have HK := Lib.hid kA
  have HAT := Lib.hid (hr.no kA).at_
  have HV := Lib.hid (look_three ps m)
  have HX := Lib.hid (show keepP ps m a = if (lookP ps m).2 = 3 ∧ fitsS m a then (putP (lookP ps m).1 m a, true) else ((lookP ps m).1, false) from rfl)
  have HGA := Lib.hid hga; have HSHA := Lib.hid hsha
  obtain ⟨A, c, rfl, _⟩ : ∃ A c, sv = .slice A m.stamp.length c ∧ m.stamp.length ≤ c := by obtain ⟨A, c, e, hc, _⟩ := hs; exact ⟨A, c, e, hc⟩
  obtain ⟨B, d, rfl, _⟩ : ∃ B d, sa = .slice B a.stamp.length d ∧ a.stamp.length ≤ d := by obtain ⟨B, d, e, hc, _⟩ := hsa; exact ⟨B, d, e, hc⟩
  clear kA hr hs hg hsh hsa hga hsha
  unfold LookR at pl
  generalize hlk : lookP ps m = lk at *
  obtain ⟨ps', v⟩ := lk
  simp only at pl HV HX
  clear hlk
  obtain ⟨op, hop⟩ : ∃ op : Option Addr, op = if v = 1 then none else some ⟨b, offS m.from_.toNat (m.seq % 8).toNat, none⟩ := ⟨_, rfl⟩
  rw [← hop] at pl
  have HOP := Lib.hid hop; clear hop
  unfold mcells at pl HM HA HK HSA HAT ⊢
  go_enter Tryz.func10, Tryz.ntmps10
  go_wp2_with fail
  refine pl.mono ?_
  rintro e w1 ⟨hr1, k1, rfl⟩
  have HR1 := Lib.hid hr1; have HK1 := Lib.hid (HK.out.of_no.trans k1)
  have HM1 := Lib.hid (show Bk w1 W.heap.size 32 (mcells m (.slice A m.stamp.length c)) from HM.out.kp k1 (fun e => by have e : W.heap.size = b := e; omega))
  have HA1 := Lib.hid (show Bk w1 (W.heap.size + 1) 32 (mcells a (.slice B a.stamp.length d)) from HA.out.kp k1 (fun e => by have e : W.heap.size + 1 = b := e; omega))
  have HSA1 := Lib.hid (show SlI w1 (.slice B a.stamp.length d) a.stamp from HSA.out.kp k1 (fun k cs hb e => by
    have e : k = b := e
    subst e
    obtain ⟨cs2, h2⟩ := HAT.out
    exact hb.ne_ h2 (by decide) rfl))
  have HSZ := Lib.hid (show W.heap.size ≤ w1.heap.size from HK1.out.size)
  clear pl hr1 k1 HM HA HSA HK
  have hi1 : Hid ((Tryz.prog.info? 32).map (·.size) = some (mcells a (.slice B a.stamp.length d)).length) := Lib.hid (by kernel_rfl)
  have HUH := Lib.hid (Tryz.underlying32)
  have pv0 := valid10_any a (.slice B a.stamp.length d) w1 HSA1.out HGA.out HSHA.out
  simp only [mcells] at pv0
  go_upto_region 2 with (fail)
  go_cut [9] (fun s wx => s = .bool (decide (fitsS m a)) ∧ Kp No w1 wx)
  case first =>
    as_aux_lemma =>
      have y0 : w1.cell? ⟨W.heap.size + 1, 0, none⟩ = some (.int .i64 a.kind) := HA1.out.cell 0
      have y1 : w1.cell? ⟨W.heap.size + 1, 1, none⟩ = some (.int .i64 a.from_) := HA1.out.cell 1
      have y2 : w1.cell? ⟨W.heap.size + 1, 2, none⟩ = some (.int .i64 a.dest) := HA1.out.cell 2
      have y3 : w1.cell? ⟨W.heap.size + 1, 3, none⟩ = some (.int .i64 a.boot) := HA1.out.cell 3
      have y4 : w1.cell? ⟨W.heap.size + 1, 4, none⟩ = some (.int .i64 a.seq) := HA1.out.cell 4
      have y5 : w1.cell? ⟨W.heap.size + 1, 5, none⟩ = some (.int .i64 a.low) := HA1.out.cell 5
      have y6 : w1.cell? ⟨W.heap.size + 1, 6, none⟩ = some (.int .i64 a.verb) := HA1.out.cell 6
      have y7 : w1.cell? ⟨W.heap.size + 1, 7, none⟩ = some (.string ⟨a.path.toArray⟩) := HA1.out.cell 7
      have y8 : w1.cell? ⟨W.heap.size + 1, 8, none⟩ = some (.int .i64 a.mode) := HA1.out.cell 8
      have y9 : w1.cell? ⟨W.heap.size + 1, 9, none⟩ = some (.int .i64 a.term) := HA1.out.cell 9
      have y10 : w1.cell? ⟨W.heap.size + 1, 10, none⟩ = some (.int .i64 a.id) := HA1.out.cell 10
      have y11 : w1.cell? ⟨W.heap.size + 1, 11, none⟩ = some (.bool a.fresh) := HA1.out.cell 11
      have y12 : w1.cell? ⟨W.heap.size + 1, 12, none⟩ = some (.int .i64 a.code) := HA1.out.cell 12
      have y13 : w1.cell? ⟨W.heap.size + 1, 13, none⟩ = some (.slice B a.stamp.length d) := HA1.out.cell 13
      have y14 : w1.cell? ⟨W.heap.size + 1, 14, none⟩ = some (.int .i64 a.origin) := HA1.out.cell 14
      have y15 : w1.cell? ⟨W.heap.size + 1, 15, none⟩ = some (.int .i64 a.number) := HA1.out.cell 15
      by_cases f0 : a.kind = 2
      · have d0 : (a.kind == 2) = true := beq_iff_eq.2 f0
        have HF0 := Lib.hid f0; clear f0
        by_cases fv : mayS vpP a
        · rw [decide_eq_true fv] at pv0
          go_wp2_with fail
          refine pv0.mono ?_
          rintro e w2 ⟨rfl, k2⟩
          have HK2 := Lib.hid k2
          clear y0 y1 y2 y3 y4 y5 y6 y7 y8 y9 y10 y11 y12 y13 y14 y15
          have y0 : w2.cell? ⟨W.heap.size + 1, 0, none⟩ = some (.int .i64 a.kind) := (HA1.out.no k2).cell 0
          have y1 : w2.cell? ⟨W.heap.size + 1, 1, none⟩ = some (.int .i64 a.from_) := (HA1.out.no k2).cell 1
          have y2 : w2.cell? ⟨W.heap.size + 1, 2, none⟩ = some (.int .i64 a.dest) := (HA1.out.no k2).cell 2
          have y3 : w2.cell? ⟨W.heap.size + 1, 3, none⟩ = some (.int .i64 a.boot) := (HA1.out.no k2).cell 3
          have y4 : w2.cell? ⟨W.heap.size + 1, 4, none⟩ = some (.int .i64 a.seq) := (HA1.out.no k2).cell 4
          have z0 : w2.cell? ⟨W.heap.size, 0, none⟩ = some (.int .i64 m.kind) := (HM1.out.no k2).cell 0
          have z1 : w2.cell? ⟨W.heap.size, 1, none⟩ = some (.int .i64 m.from_) := (HM1.out.no k2).cell 1
          have z2 : w2.cell? ⟨W.heap.size, 2, none⟩ = some (.int .i64 m.dest) := (HM1.out.no k2).cell 2
          have z3 : w2.cell? ⟨W.heap.size, 3, none⟩ = some (.int .i64 m.boot) := (HM1.out.no k2).cell 3
          have z4 : w2.cell? ⟨W.heap.size, 4, none⟩ = some (.int .i64 m.seq) := (HM1.out.no k2).cell 4
          clear k2 y0 z0
          have HFV := Lib.hid fv; clear fv
          by_cases f1 : a.from_ = m.dest
          · have df1 : (a.from_ == m.dest) = true := beq_iff_eq.2 f1
            have Hf1 := Lib.hid f1; clear f1
            by_cases f2 : a.dest = m.from_
            · have df2 : (a.dest == m.from_) = true := beq_iff_eq.2 f2
              have Hf2 := Lib.hid f2; clear f2
              by_cases f3 : a.boot = m.boot
              · have df3 : (a.boot == m.boot) = true := beq_iff_eq.2 f3
                have Hf3 := Lib.hid f3; clear f3
                by_cases f4 : a.seq = m.seq
                · have df4 : (a.seq == m.seq) = true := beq_iff_eq.2 f4
                  have Hf4 := Lib.hid f4; clear f4
                  have HX9 := Lib.hid (show decide (fitsS m a) = true from decide_eq_true ⟨HF0.out, HFV.out, Hf1.out, Hf2.out, Hf3.out, Hf4.out⟩)
                  go_wp2
                  go_meet
                  exact ⟨by rw [HX9.out], HK2.out⟩
                · have df4 : (a.seq == m.seq) = false := by rw [beq_eq_false_iff_ne]; exact f4
                  have HX9 := Lib.hid (show decide (fitsS m a) = false from decide_eq_false fun h => f4 h.2.2.2.2.2)
                  clear f4
                  go_wp2
                  go_meet
                  exact ⟨by rw [HX9.out], HK2.out⟩
              · have df3 : (a.boot == m.boot) = false := by rw [beq_eq_false_iff_ne]; exact f3
                have HX9 := Lib.hid (show decide (fitsS m a) = false from decide_eq_false fun h => f3 h.2.2.2.2.1)
                clear f3
                go_wp2
                go_meet
                exact ⟨by rw [HX9.out], HK2.out⟩
            · have df2 : (a.dest == m.from_) = false := by rw [beq_eq_false_iff_ne]; exact f2
              have HX9 := Lib.hid (show decide (fitsS m a) = false from decide_eq_false fun h => f2 h.2.2.2.1)
              clear f2
              go_wp2
              go_meet
              exact ⟨by rw [HX9.out], HK2.out⟩
          · have df1 : (a.from_ == m.dest) = false := by rw [beq_eq_false_iff_ne]; exact f1
            have HX9 := Lib.hid (show decide (fitsS m a) = false from decide_eq_false fun h => f1 h.2.2.1)
            clear f1
            go_wp2
            go_meet
            exact ⟨by rw [HX9.out], HK2.out⟩
        · rw [decide_eq_false fv] at pv0
          have HX9 := Lib.hid (show decide (fitsS m a) = false from decide_eq_false fun h => fv h.2.1)
          clear fv
          go_wp2_with fail
          refine pv0.mono ?_
          rintro e w2 ⟨rfl, k2⟩
          have HK2 := Lib.hid k2; clear k2
          go_wp2
          go_meet
          exact ⟨by rw [HX9.out], HK2.out⟩
      · have d0 : (a.kind == 2) = false := by rw [beq_eq_false_iff_ne]; exact f0
        have HX9 := Lib.hid (show decide (fitsS m a) = false from decide_eq_false fun h => f0 h.1)
        clear f0 y1 y2 y3 y4 y5 y6 y7 y8 y9 y10 y11 y12 y13 y14 y15
        go_wp2
        go_meet
        exact ⟨by rw [HX9.out], Kp.refl _ _⟩
  case rest =>
    obtain ⟨rfl, kc⟩ := hcut
    have HKC := Lib.hid kc; clear kc
    clear pv0
    by_cases hc : v = 3 ∧ fitsS m a
    · have HX2 := Lib.hid (show keepP ps m a = (putP ps' m a, true) by rw [HX.out, if_pos hc])
      obtain ⟨rfl, hft⟩ := hc
      have hd := HV.out
      rcases hd with h | ⟨_, hn, hcn⟩
      · exact absurd h (by decide)
      rw [decide_eq_true hft]
      obtain ⟨f, hf⟩ := Int.eq_ofNat_of_zero_le hn.1
      obtain ⟨j, hj⟩ : ∃ j : Nat, m.seq % 8 = j := ⟨(m.seq % 8).toNat, by unfold cntI at hcn; omega⟩
      have hf8 : f < 8 := by have := hn.2; omega
      have hj8 : j < 8 := by omega
      have hop : op = some ⟨b, offS f j, none⟩ := by rw [HOP.out, if_neg (by decide), hf, hj]; rfl
      subst hop
      have hle : a.stamp.length ≤ 4 := by
        have h2 := hft.2.1.2.2.2
        unfold fineS at h2
        rw [if_neg (by rw [hft.1]; decide), if_pos hft.1] at h2
        by_cases h0 : a.code = 0
        · exact (h2.2.2.2.2.2 h0).2.1.1
        · have h3 := hft.2.1.1
          unfold usedS at h3
          rw [if_neg (by rw [hft.1]; decide), if_pos hft.1] at h3
          rw [← h3]
          simp [h0]
      have HPUT := Lib.hid (show putP ps' m a = ps'.set f ⟨(ps'.getD f {}).boot, (ps'.getD f {}).low, (ps'.getD f {}).slots.set j ⟨m.seq, a⟩⟩ by unfold putP; rw [hf, hj]; rfl)
      have HF8 := Lib.hid hf8; have HJ8 := Lib.hid hj8; have HLE := Lib.hid hle
      have pt := twin_any a B d
      clear hf hj hn hcn hft HV HX HOP hf8 hj8 hle
      obtain ⟨o, ho⟩ : ∃ o, o = offS f j := ⟨_, rfl⟩
      rw [← ho]
      have HO := Lib.hid ho; clear ho
      have HMC := Lib.hid (HM1.out.no HKC.out); have HAC := Lib.hid (HA1.out.no HKC.out); have HRC := Lib.hid (HR1.out.no HKC.out)
      have HSAC := Lib.hid ((HSA1.out.no HKC.out).arg)
      clear HM1 HA1 HR1 HSA1 hi1
      have pt2 := pt wc HSAC.out (by have := HLE.out; omega)
      clear pt
      go_wp2
      have hF : Kp No wc wc.drew := (Kp.refl _ _).drew
      refine rg_begin (fun W2 => Kp No wc W2) 7 (by kernel_rfl) ?_
      refine rg_take (i := 0) (v := ?vk0) (by simp only [List.getElem?_toArray, List.getElem?_cons_zero]; rfl) (by kernel_rfl) (by exact fun _ _ _ h => h) (by rfl) ?rk0 hF ?sk0
      case rk0 => (intro W hW; clear hW; go_simp; try with_reducible rfl)
      try simp only [Act.put, List.setIfInBounds_toArray, List.set_cons_zero, List.set_cons_succ]
      refine rg_take (i := 1) (v := ?vk1) (by simp only [List.getElem?_toArray, List.getElem?_cons_succ, List.getElem?_cons_zero]; rfl) (by kernel_rfl) (by exact fun _ _ _ h => h) (by rfl) ?rk1 hF ?sk1
      case rk1 => (intro W hW; clear hW; go_simp; try with_reducible rfl)
      try simp only [Act.put, List.setIfInBounds_toArray, List.set_cons_zero, List.set_cons_succ]
      refine rg_take (i := 2) (v := ?vk2) (by simp only [List.getElem?_toArray, List.getElem?_cons_succ, List.getElem?_cons_zero]; rfl) (by kernel_rfl) (by exact fun _ _ _ h => h) (by rfl) ?rk2 hF ?sk2
      case rk2 => (intro W9 hW; have z4 : W9.cell? ⟨W.heap.size, 4, none⟩ = some (.int .i64 m.seq) := (HMC.out.no hW).cell 4; go_simp; try with_reducible rfl)
      try simp only [Act.put, List.setIfInBounds_toArray, List.set_cons_zero, List.set_cons_succ]
      refine rg_take (i := 3) (v := ?vk3) (by simp only [List.getElem?_toArray, List.getElem?_cons_succ, List.getElem?_cons_zero]; rfl) (by kernel_rfl) (by exact fun _ _ _ h => h) (by rfl) ?rk3 hF ?sk3
      case rk3 => (intro W9 hW; refine exec_load_mid W9 32 (.tmp 5) ?_ (W.heap.size + 1) 0 ?_ (mcells a (.slice B a.stamp.length d)) _ (range_of (HAC.out.no hW)) HUH.out ?_ (by kernel_rfl); exact rfl; exact rfl; exact rfl)
      try simp only [Act.put, List.setIfInBounds_toArray, List.set_cons_zero, List.set_cons_succ]
      refine rg_one (i := 4) (oi := ?ok4) ?ak4 ?bk4 ?ck4 ?dk4
      case ak4 => (simp only [List.getElem?_toArray, List.getElem?_cons_succ, List.getElem?_cons_zero]; rfl)
      case bk4 => kernel_rfl
      case ck4 => rfl
      intro K hK
      (go_simp; refine (twin_any a B d wc.drew (HSAC.out.no (Kp.refl No wc).drew) (by have := HLE.out; omega)).mono ?_; rintro e w3 ⟨s2, rfl, ho2, k3⟩; obtain ⟨A2, c2, rfl, _⟩ := own_len ho2)
      refine rg_use hK (((Kp.refl No wc).drew.trans k3)) (fun hF => ?_)
      clear hK K
      try simp only [Act.put, List.setIfInBounds_toArray, List.set_cons_zero, List.set_cons_succ]
      refine rg_take (i := 5) (v := (.agg (slC (⟨m.seq, a⟩, .slice A2 a.stamp.length c2)).toArray)) (by simp only [List.getElem?_toArray, List.getElem?_cons_succ, List.getElem?_cons_zero]; rfl) (by kernel_rfl) (by exact fun _ _ _ h => h) (by rfl) ?rk5 hF ?sk5
      case rk5 => (intro W9 hW; kernel_rfl)
      try simp only [Act.put, List.setIfInBounds_toArray, List.set_cons_zero, List.set_cons_succ]
      refine rg_take (i := 6) (v := ?vk6) (by simp only [List.getElem?_toArray, List.getElem?_cons_succ, List.getElem?_cons_zero]; rfl) (by kernel_rfl) (by exact fun _ _ _ h => h) (by rfl) ?rk6 hF ?sk6
      case rk6 => (intro W hW; clear hW; go_simp; try with_reducible rfl)
      try simp only [Act.put, List.setIfInBounds_toArray, List.set_cons_zero, List.set_cons_succ]
      refine rg_one (i := 7) (oi := ?ok7) ?ak7 ?bk7 ?ck7 ?dk7
      case ak7 => (simp only [List.getElem?_toArray, List.getElem?_cons_succ, List.getElem?_cons_zero]; rfl)
      case bk7 => kernel_rfl
      case ck7 => rfl
      intro K hK
      (refine wp_store_mid 63 _ _ rfl b o (slC (⟨m.seq, a⟩, .slice A2 a.stamp.length c2)).toArray rfl rfl (by rw [HO.out]; exact ((HRC.out.no (Kp.refl No wc).drew).no k3).there HF8.out HJ8.out) (by kernel_rfl) (by simp [slC, mcells, Value.oneCell']) ?_)
      refine hK _ _ (fun h => absurd rfl h) ?_
      clear hK K
      try simp only [Act.put]
      refine rg_done (by kernel_rfl) ?_
      have HFIN := Lib.hid (show KeepR W b P ps m a (.returned (.bool true)) (w3.setCells b o (slC (⟨m.seq, a⟩, .slice A2 a.stamp.length c2))) from by
        unfold KeepR
        rw [HX2.out, HPUT.out, HO.out]
        have kw := HK1.out.trans (HKC.out.trans ((Kp.refl No wc).drew.trans k3)).of_no
        refine ⟨RpB.put (((HRC.out.no (Kp.refl No wc).drew).no k3).mono fun k h => .inl h) HF8.out HJ8.out _ _ ⟨own_base ho2 (Nat.zero_le _), fun k e => .inr ?_, HLE.out⟩, Kp.sets _ _ kw (.inl rfl), rfl⟩
        have h2 := HSZ.out
        have h3 : wc.heap.size ≤ k := by
          rcases ho2.2 with ⟨e2, _⟩ | ⟨g, cap, cur, e2, hg, _⟩
          · have e : Value.ownBlock (.slice A2 a.stamp.length c2) = some k := e
            rw [e2] at e; simp [Value.ownBlock] at e
          · have e : Value.ownBlock (.slice A2 a.stamp.length c2) = some k := e
            rw [e2] at e
            have : g = k := by simpa [Value.ownBlock] using e
            subst this
            exact hg
        have h4 : w1.heap.size ≤ wc.heap.size := HKC.out.size
        omega)
      clear hF k3 ho2
      go_wp2
      go_ret
      exact HFIN.out
    · have HX2 := Lib.hid (show keepP ps m a = (ps', false) by rw [HX.out, if_neg hc])
      have HFIN := Lib.hid (show KeepR W b P ps m a (.returned (.bool false)) wc from by
        unfold KeepR
        rw [HX2.out]
        exact ⟨(HR1.out.no HKC.out).mono fun k h => .inl h, HK1.out.trans HKC.out.of_no, rfl⟩)
      by_cases hv3 : v = 3
      · have hft : ¬ fitsS m a := fun h => hc ⟨hv3, h⟩
        subst hv3
        rw [decide_eq_false hft]
        clear hft hc HX2 HX HV
        go_wp2
        go_ret
        exact HFIN.out
      · have dv : (v != 3) = true := by rw [bne_iff_ne]; exact hv3
        clear hv3 hc HX2 HX HV
        go_wp2
        go_ret
        exact HFIN.out
end Go.Proofs.YtaipbikbapjmjaaGreat
