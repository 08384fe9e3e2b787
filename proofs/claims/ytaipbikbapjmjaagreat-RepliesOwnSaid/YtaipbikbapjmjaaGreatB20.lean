/- Several texts of this claim in one. No condition beyond what each theorem states. -/
import Derived.Test.YtaipbikbapjmjaaGreatB18
import Derived.Test.YtaipbikbapjmjaaGreatB17
/- RepliesOwn in plain words: what was kept is told, and nothing else. No condition beyond what each theorem states. -/
namespace Go.Proofs.YtaipbikbapjmjaaGreat
open Go

def NoAns (cs : List Cl) : Prop := ∀ k, (cs.getD k {}).ans = []
theorem NoAns.init : NoAns (List.replicate 8 {}) := fun k => by
  rw [List.getD_eq_getElem?_getD, List.getElem?_replicate]
  split <;> rfl
theorem NoAns.seen {cs : List Cl} (h : NoAns cs) (hl : cs.length = 8) (m : Msg) : NoAns (seenS cs m).1 ∧ (seenS cs m).2.1 ≠ 2 ∧ (seenS cs m).2.2 = {} := by
  rcases seen_state cs m with ⟨e, e2⟩ | ⟨hk, hm, c, hh, e, h2⟩
  · rw [e, e2]; exact ⟨h, by decide, rfl⟩
  · obtain ⟨g1, _⟩ := may_ask hm hk
    unfold nodeI at g1
    have hc : c.ans = [] := by
      have h3 := h m.from_.toNat
      rcases (heard_cases hh).2 with ⟨_, e3, _⟩ | ⟨_, _, e3⟩
      · exact e3
      · rw [e3, h3]; rfl
    refine ⟨fun k => ?_, ?_⟩
    · rw [e, getD_set _ _ _ _ _ (by omega)]
      split
      · exact hc
      · exact h k
    · rcases h2 with ⟨_, e2⟩ | ⟨_, _, ⟨a, hf, _⟩ | ⟨_, e2⟩⟩
      · rw [e2]; exact ⟨by decide, rfl⟩
      · have := (find_mem hf).1
        rw [hc] at this; cases this
      · rw [e2]; exact ⟨by decide, rfl⟩
theorem heard_self {c : Cl} {m : Msg} (h1 : c.boot = m.boot) (h2 : m.low ≤ c.low) (h3 : ∀ a ∈ c.ans, c.low ≤ a.seq) : heardS c m = some c := by
  unfold heardS
  rw [if_neg (by omega), if_neg (by omega), show max c.low m.low = c.low by omega]
  have : (c.ans.filter fun a => decide (c.low ≤ a.seq)) = c.ans := by
    rw [List.filter_eq_self]
    intro a ha
    rw [decide_eq_true_iff]
    exact h3 a ha
  rw [this]
theorem heard_ge {c c' : Cl} {m : Msg} (h : heardS c m = some c') : m.low ≤ c'.low ∧ ∀ a ∈ c'.ans, c'.low ≤ a.seq := by
  rcases (heard_cases h).2 with ⟨_, e1, e2⟩ | ⟨_, e1, e2⟩
  · exact ⟨by omega, by rw [e1]; simp⟩
  · refine ⟨by omega, fun a ha => ?_⟩
    rw [e2, List.mem_filter, decide_eq_true_iff] at ha
    exact ha.2
/-- what was kept is told again, and nothing changes -/
theorem kept_told {cs : List Cl} (hl : cs.length = 8) {m a : Msg} (h : (keepS cs m a).2 = true) : (seenS (keepS cs m a).1 m).2 = (2, a) ∧ (seenS (keepS cs m a).1 m).1 = (keepS cs m a).1 ∧ (keepS cs m a).1.length = 8 := by
  unfold keepS at h ⊢
  by_cases hc : (seenS cs m).2.1 = 3 ∧ fitsS m a
  · rw [if_pos hc] at h ⊢
    obtain ⟨k1, k2, c, k3, k4, k5, k6, k7⟩ := seen_new hc.1
    obtain ⟨g1, _⟩ := may_ask k2 k1
    unfold nodeI at g1
    have hi : m.from_.toNat < cs.length := by omega
    have hq : a.seq = m.seq := hc.2.2.2.2.2.2
    have hcc : (seenS cs m).1.getD m.from_.toNat {} = c := by rw [k4, getD_set _ _ _ _ _ hi, if_pos rfl]
    simp only
    rw [hcc, k4, List.set_set]
    have hgd : (cs.set m.from_.toNat (addS c a)).getD m.from_.toNat {} = addS c a := by rw [getD_set _ _ _ _ _ hi, if_pos rfl]
    have hb := (heard_cases k3).1
    obtain ⟨q1, q2⟩ := heard_ge k3
    have hh : heardS (addS c a) m = some (addS c a) := heard_self hb q1 (fun x hx => by
      simp only [addS, List.mem_append, List.mem_singleton] at hx
      rcases hx with hx | rfl
      · exact q2 x hx
      · show c.low ≤ x.seq; omega)
    have hf : findS (addS c a) m.seq = some a := by
      unfold findS addS at *
      simp only [List.find?_append, k7, Option.none_or]
      simp [hq]
    unfold seenS
    rw [if_pos ⟨k1, k2⟩, hgd, hh]
    simp only
    rw [if_neg (by show ¬ (m.seq < c.low ∨ c.low + 8 ≤ m.seq); omega), hf]
    exact ⟨rfl, by rw [List.set_set], by simp [hl]⟩
  · rw [if_neg hc] at h; cases h
/-- nothing was kept -/
theorem not_kept {cs : List Cl} (hl : cs.length = 8) (hn : NoAns cs) {m a : Msg} (h : (keepS cs m a).2 = false) : NoAns (keepS cs m a).1 ∧ (keepS cs m a).1.length = 8 := by
  unfold keepS at h ⊢
  by_cases hc : (seenS cs m).2.1 = 3 ∧ fitsS m a
  · rw [if_pos hc] at h; cases h
  · rw [if_neg hc]
    refine ⟨(hn.seen hl m).1, ?_⟩
    rcases seen_state cs m with ⟨e, _⟩ | ⟨_, _, c, _, e, _⟩
    · rw [e]; exact hl
    · rw [e, List.length_set]; exact hl
theorem seen_len {cs : List Cl} (hl : cs.length = 8) (m : Msg) : (seenS cs m).1.length = 8 := by
  rcases seen_state cs m with ⟨e, _⟩ | ⟨_, _, c, _, e, _⟩
  · rw [e]; exact hl
  · rw [e, List.length_set]; exact hl
/-- replies of which the answer a to m is all that was kept, or nothing -/
def GoodO (kept : Bool) (m a : Msg) (ps : List Pc) : Prop := ∃ cs, St ps cs ∧ (kept = true → (seenS cs m).2 = (2, a) ∧ (seenS cs m).1 = cs) ∧ (kept = false → NoAns cs)
theorem GoodO.init (m a : Msg) : GoodO (keepP (List.replicate 8 {}) m a).2 m a (keepP (List.replicate 8 {}) m a).1 := by
  obtain ⟨h1, h2⟩ := St.init.keep m a
  refine ⟨_, h1, fun h => ?_, fun h => ?_⟩
  · rw [h2] at h
    exact ⟨(kept_told rfl h).1, (kept_told rfl h).2.1⟩
  · rw [h2] at h
    exact (not_kept rfl NoAns.init h).1
/-- what is told -/
def toldO (kept : Bool) (a : Msg) : Msg := if kept = true then a else {}
theorem GoodO.seen {kept : Bool} {m a : Msg} {ps : List Pc} (h : GoodO kept m a ps) : GoodO kept m a (seenP ps m).1 ∧ ((seenP ps m).2.1 == 2) = kept ∧ (seenP ps m).2.2 = toldO kept a := by
  obtain ⟨cs, h1, h2, h3⟩ := h
  obtain ⟨s1, s2⟩ := h1.seen m
  cases kept with
  | true =>
    obtain ⟨e1, e2⟩ := h2 rfl
    rw [e1] at s2
    rw [e2] at s1
    refine ⟨⟨cs, s1, (fun _ => ⟨e1, e2⟩), (fun h => by cases h)⟩, ?_, ?_⟩
    · rw [s2]; rfl
    · rw [s2]; rfl
  | false =>
    obtain ⟨n1, n2, n3⟩ := (h3 rfl).seen h1.lc m
    rw [s2]
    refine ⟨⟨_, s1, (fun h => by cases h), (fun _ => n1)⟩, ?_, ?_⟩
    · rw [beq_eq_false_iff_ne]; exact n2
    · rw [n3]; rfl
theorem toldO_len (kept : Bool) (a : Msg) : (toldO kept a).stamp.length ≤ a.stamp.length := by
  unfold toldO
  split
  · exact Nat.le_refl _
  · exact Nat.zero_le _
end Go.Proofs.YtaipbikbapjmjaaGreat

/- replies.Keep of nil replies, and replies whose stamps lie in known blocks. No condition beyond what each theorem states. -/
namespace Go.Proofs.YtaipbikbapjmjaaGreat
open Go Go.RowKit Go.PlainAid

set_option maxRecDepth 100000 in
set_option maxHeartbeats 8000000 in
theorem rkeep_nil (m a : Msg) (sv sa : Value) (W : World) (hs : SlI W sv m.stamp) (hsa : SlI W sa a.stamp) (hga : Rng a) (hsha : Short maxLen a) :
    Calls Tryz.prog 10 #[.pointer none, .agg (mcells m sv).toArray, .agg (mcells a sa).toArray] W fun e w' => e = .returned (.bool false) ∧ Kp No W w' := by
  have kA : Kp No W ((W.alloc (.cells (mcells m sv).toArray 32)).alloc (.cells (mcells a sa).toArray 32)) := ((Kp.refl No W).alloc _).alloc _
  have HM := Lib.hid (show Bk ((W.alloc (.cells (mcells m sv).toArray 32)).alloc (.cells (mcells a sa).toArray 32)) W.heap.size 32 (mcells m sv) from (Bk.new' rfl rfl).alloc _)
  have HA := Lib.hid (show Bk ((W.alloc (.cells (mcells m sv).toArray 32)).alloc (.cells (mcells a sa).toArray 32)) (W.heap.size + 1) 32 (mcells a sa) from Bk.new' (by simp) rfl)
  have pl := look_nil m sv ((W.alloc (.cells (mcells m sv).toArray 32)).alloc (.cells (mcells a sa).toArray 32))
  have HSA := Lib.hid (hsa.no kA)
  have HK := Lib.hid kA
  have HGA := Lib.hid hga; have HSHA := Lib.hid hsha
  obtain ⟨A, c, rfl, _⟩ : ∃ A c, sv = .slice A m.stamp.length c ∧ m.stamp.length ≤ c := by obtain ⟨A, c, e, hc, _⟩ := hs; exact ⟨A, c, e, hc⟩
  obtain ⟨B, d, rfl, _⟩ : ∃ B d, sa = .slice B a.stamp.length d ∧ a.stamp.length ≤ d := by obtain ⟨B, d, e, hc, _⟩ := hsa; exact ⟨B, d, e, hc⟩
  clear kA hs hsa hga hsha
  unfold mcells at pl HM HA HK HSA ⊢
  go_enter Tryz.func10, Tryz.ntmps10
  go_wp2_with fail
  refine pl.mono ?_
  rintro e w1 ⟨rfl, k1⟩
  have HK1 := Lib.hid (HK.out.trans k1)
  have HM1 := Lib.hid (show Bk w1 W.heap.size 32 (mcells m (.slice A m.stamp.length c)) from HM.out.no k1)
  have HA1 := Lib.hid (show Bk w1 (W.heap.size + 1) 32 (mcells a (.slice B a.stamp.length d)) from HA.out.no k1)
  have HSA1 := Lib.hid (show SlI w1 (.slice B a.stamp.length d) a.stamp from HSA.out.no k1)
  clear pl k1 HM HA HSA HK
  have pv0 := valid10_any a (.slice B a.stamp.length d) w1 HSA1.out HGA.out HSHA.out
  simp only [mcells] at pv0
  go_upto_region 2 with (fail)
  go_cut [9] (fun s wx => s = .bool (decide (fitsS m a)) ∧ Kp No w1 wx)
  case first =>
    as_aux_lemma =>
      have y0 : w1.cell? ⟨W.heap.size + 1, 0, none⟩ = some (.int .i64 a.kind) := HA1.out.cell 0
      have y1 : w1.cell? ⟨W.heap.size + 1, 1, none⟩ = some (.int .i64 a.from_) := HA1.out.cell 1
      have y2 : w1.cell? ⟨W.heap.size + 1, 2, none⟩ = some (.int .i64 a.dest) := HA1.out.cell 2
      have y3 : w1.cell? ⟨W.heap.size + 1, 3, none⟩ = some (.int .i64 a.boot) := HA1.out.cell 3
      have y4 : w1.cell? ⟨W.heap.size + 1, 4, none⟩ = some (.int .i64 a.seq) := HA1.out.cell 4
      have y5 : w1.cell? ⟨W.heap.size + 1, 5, none⟩ = some (.int .i64 a.low) := HA1.out.cell 5
      have y6 : w1.cell? ⟨W.heap.size + 1, 6, none⟩ = some (.int .i64 a.verb) := HA1.out.cell 6
      have y7 : w1.cell? ⟨W.heap.size + 1, 7, none⟩ = some (.string ⟨a.path.toArray⟩) := HA1.out.cell 7
      have y8 : w1.cell? ⟨W.heap.size + 1, 8, none⟩ = some (.int .i64 a.mode) := HA1.out.cell 8
      have y9 : w1.cell? ⟨W.heap.size + 1, 9, none⟩ = some (.int .i64 a.term) := HA1.out.cell 9
      have y10 : w1.cell? ⟨W.heap.size + 1, 10, none⟩ = some (.int .i64 a.id) := HA1.out.cell 10
      have y11 : w1.cell? ⟨W.heap.size + 1, 11, none⟩ = some (.bool a.fresh) := HA1.out.cell 11
      have y12 : w1.cell? ⟨W.heap.size + 1, 12, none⟩ = some (.int .i64 a.code) := HA1.out.cell 12
      have y13 : w1.cell? ⟨W.heap.size + 1, 13, none⟩ = some (.slice B a.stamp.length d) := HA1.out.cell 13
      have y14 : w1.cell? ⟨W.heap.size + 1, 14, none⟩ = some (.int .i64 a.origin) := HA1.out.cell 14
      have y15 : w1.cell? ⟨W.heap.size + 1, 15, none⟩ = some (.int .i64 a.number) := HA1.out.cell 15
      by_cases f0 : a.kind = 2
      · have d0 : (a.kind == 2) = true := beq_iff_eq.2 f0
        have HF0 := Lib.hid f0; clear f0
        by_cases fv : mayS vpP a
        · rw [decide_eq_true fv] at pv0
          go_wp2_with fail
          refine pv0.mono ?_
          rintro e w2 ⟨rfl, k2⟩
          have HK2 := Lib.hid k2
          clear y0 y1 y2 y3 y4 y5 y6 y7 y8 y9 y10 y11 y12 y13 y14 y15
          have y0 : w2.cell? ⟨W.heap.size + 1, 0, none⟩ = some (.int .i64 a.kind) := (HA1.out.no k2).cell 0
          have y1 : w2.cell? ⟨W.heap.size + 1, 1, none⟩ = some (.int .i64 a.from_) := (HA1.out.no k2).cell 1
          have y2 : w2.cell? ⟨W.heap.size + 1, 2, none⟩ = some (.int .i64 a.dest) := (HA1.out.no k2).cell 2
          have y3 : w2.cell? ⟨W.heap.size + 1, 3, none⟩ = some (.int .i64 a.boot) := (HA1.out.no k2).cell 3
          have y4 : w2.cell? ⟨W.heap.size + 1, 4, none⟩ = some (.int .i64 a.seq) := (HA1.out.no k2).cell 4
          have z0 : w2.cell? ⟨W.heap.size, 0, none⟩ = some (.int .i64 m.kind) := (HM1.out.no k2).cell 0
          have z1 : w2.cell? ⟨W.heap.size, 1, none⟩ = some (.int .i64 m.from_) := (HM1.out.no k2).cell 1
          have z2 : w2.cell? ⟨W.heap.size, 2, none⟩ = some (.int .i64 m.dest) := (HM1.out.no k2).cell 2
          have z3 : w2.cell? ⟨W.heap.size, 3, none⟩ = some (.int .i64 m.boot) := (HM1.out.no k2).cell 3
          have z4 : w2.cell? ⟨W.heap.size, 4, none⟩ = some (.int .i64 m.seq) := (HM1.out.no k2).cell 4
          clear k2 y0 z0
          have HFV := Lib.hid fv; clear fv
          by_cases f1 : a.from_ = m.dest
          · have df1 : (a.from_ == m.dest) = true := beq_iff_eq.2 f1
            have Hf1 := Lib.hid f1; clear f1
            by_cases f2 : a.dest = m.from_
            · have df2 : (a.dest == m.from_) = true := beq_iff_eq.2 f2
              have Hf2 := Lib.hid f2; clear f2
              by_cases f3 : a.boot = m.boot
              · have df3 : (a.boot == m.boot) = true := beq_iff_eq.2 f3
                have Hf3 := Lib.hid f3; clear f3
                by_cases f4 : a.seq = m.seq
                · have df4 : (a.seq == m.seq) = true := beq_iff_eq.2 f4
                  have Hf4 := Lib.hid f4; clear f4
                  have HX9 := Lib.hid (show decide (fitsS m a) = true from decide_eq_true ⟨HF0.out, HFV.out, Hf1.out, Hf2.out, Hf3.out, Hf4.out⟩)
                  go_wp2
                  go_meet
                  exact ⟨by rw [HX9.out], HK2.out⟩
                · have df4 : (a.seq == m.seq) = false := by rw [beq_eq_false_iff_ne]; exact f4
                  have HX9 := Lib.hid (show decide (fitsS m a) = false from decide_eq_false fun h => f4 h.2.2.2.2.2)
                  clear f4
                  go_wp2
                  go_meet
                  exact ⟨by rw [HX9.out], HK2.out⟩
              · have df3 : (a.boot == m.boot) = false := by rw [beq_eq_false_iff_ne]; exact f3
                have HX9 := Lib.hid (show decide (fitsS m a) = false from decide_eq_false fun h => f3 h.2.2.2.2.1)
                clear f3
                go_wp2
                go_meet
                exact ⟨by rw [HX9.out], HK2.out⟩
            · have df2 : (a.dest == m.from_) = false := by rw [beq_eq_false_iff_ne]; exact f2
              have HX9 := Lib.hid (show decide (fitsS m a) = false from decide_eq_false fun h => f2 h.2.2.2.1)
              clear f2
              go_wp2
              go_meet
              exact ⟨by rw [HX9.out], HK2.out⟩
          · have df1 : (a.from_ == m.dest) = false := by rw [beq_eq_false_iff_ne]; exact f1
            have HX9 := Lib.hid (show decide (fitsS m a) = false from decide_eq_false fun h => f1 h.2.2.1)
            clear f1
            go_wp2
            go_meet
            exact ⟨by rw [HX9.out], HK2.out⟩
        · rw [decide_eq_false fv] at pv0
          have HX9 := Lib.hid (show decide (fitsS m a) = false from decide_eq_false fun h => fv h.2.1)
          clear fv
          go_wp2_with fail
          refine pv0.mono ?_
          rintro e w2 ⟨rfl, k2⟩
          have HK2 := Lib.hid k2; clear k2
          go_wp2
          go_meet
          exact ⟨by rw [HX9.out], HK2.out⟩
      · have d0 : (a.kind == 2) = false := by rw [beq_eq_false_iff_ne]; exact f0
        have HX9 := Lib.hid (show decide (fitsS m a) = false from decide_eq_false fun h => f0 h.1)
        clear f0 y1 y2 y3 y4 y5 y6 y7 y8 y9 y10 y11 y12 y13 y14 y15
        go_wp2
        go_meet
        exact ⟨by rw [HX9.out], Kp.refl _ _⟩
  case rest =>
    obtain ⟨rfl, kc⟩ := hcut
    have HKC := Lib.hid kc
    clear kc pv0
    go_wp2
    go_ret
    exact ⟨rfl, HK1.out.trans HKC.out⟩
theorem rpB_newP {w : World} {b : Nat} (P : Nat → Prop) (hb : Bk w b 69 (rpC (newCV 8))) : RpB w b P (List.replicate 8 {}) := by
  refine ⟨newCV 8, newCV_len 8 (by omega), newCV_ok 8, rfl, hb, fun x hx y hy => ?_⟩
  have hx2 : x = (0, 1, noSl) := by
    unfold newCV at hx
    simp only [Nat.sub_self, List.replicate_zero, List.append_nil] at hx
    exact (List.mem_replicate.1 hx).2
  subst hx2
  have hy2 : y = ({}, .slice none 0 0) := (List.mem_replicate.1 hy).2
  subst hy2
  exact SvP.none _ _
/-- their stamps lie in blocks that are there -/
theorem RpB.tight {w : World} {b : Nat} {P : Nat → Prop} {ps : List Pc} (h : RpB w b P ps) : RpB w b (fun k => P k ∧ k < w.heap.size) ps := by
  obtain ⟨cs, h1, h2, h3, h4, h5⟩ := h
  refine ⟨cs, h1, h2, h3, h4, fun x hx y hy => ?_⟩
  have h6 := h5 x hx y hy
  refine ⟨h6.1, fun k e => ⟨h6.2.1 k e, ?_⟩, h6.2.2⟩
  obtain ⟨cs2, hb⟩ := own_bk h6.1 k e
  exact hb.lt
end Go.Proofs.YtaipbikbapjmjaaGreat
