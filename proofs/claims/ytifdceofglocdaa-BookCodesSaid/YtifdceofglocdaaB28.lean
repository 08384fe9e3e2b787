/- The document's with by contract. No condition beyond what each theorem states. -/
import Derived.Test.YtifdceofglocdaaB25
import Derived.Test.YtifdceofglocdaaB22
import Derived.BigQuiet
import Derived.Deep.CutBlock
import Derived.Deep.Cut
import Derived.Deep.CutRange
import Derived.Deep.DeepCutAuto
namespace Go.Proofs.Ytifdceofglocdaa
open Go Go.RowKit Go.PlainAid

/-- the grants and one more, by its id, as they stand in memory -/
def insP : List GP → GP → List GP
  | [], g => [g]
  | a :: l, g => if a.1.id < g.1.id then a :: insP l g else g :: a :: l
theorem insP_gs : ∀ (l : List GP) (g : GP), gsL (insP l g) = insG (gsL l) g.1
  | [], _ => rfl
  | a :: l, g => by
    show gsL (if a.1.id < g.1.id then a :: insP l g else g :: a :: l) = if a.1.id < g.1.id then a.1 :: insG (gsL l) g.1 else g.1 :: a.1 :: gsL l
    split
    · rw [← insP_gs l g]; rfl
    · rfl
theorem insP_at : ∀ (l : List GP) (g : GP) (j : Nat), (∀ (k : Nat) (x : GP), k < j → l[k]? = some x → x.1.id < g.1.id) → (j = l.length ∨ ∃ x, l[j]? = some x ∧ ¬ x.1.id < g.1.id) → insP l g = l.take j ++ g :: l.drop j
  | [], g, j, _, h => by
    rcases h with h | ⟨x, h, _⟩
    · subst h; rfl
    · cases h
  | a :: l, g, 0, _, h => by
    rcases h with h | ⟨x, h, h2⟩
    · cases h
    · rw [List.getElem?_cons_zero] at h
      injection h with h
      subst h
      show (if a.1.id < g.1.id then a :: insP l g else g :: a :: l) = _
      rw [if_neg h2]; rfl
  | a :: l, g, j + 1, hl, h => by
    have h1 := insP_at l g j (fun k x hk hx => hl (k + 1) x (Nat.succ_lt_succ hk) (by rw [List.getElem?_cons_succ]; exact hx)) (by
      rcases h with h | ⟨x, h, h2⟩
      · exact .inl (Nat.succ.inj h)
      · rw [List.getElem?_cons_succ] at h
        exact .inr ⟨x, h, h2⟩)
    show (if a.1.id < g.1.id then a :: insP l g else g :: a :: l) = _
    rw [if_pos (hl 0 a (Nat.succ_pos _) rfl), h1]; rfl
theorem mid_snoc (l : List GP) (j m : Nat) (hj : j ≤ m) (hm : m < l.length) : (l.take (m + 1)).drop j = (l.take m).drop j ++ [l[m]] := by
  rw [List.take_succ_eq_append_getElem hm, List.drop_append_of_le_length (by rw [List.length_take]; omega)]
set_option maxRecDepth 100000 in
set_option maxHeartbeats 8000000 in
theorem rwith_any (v : Value) (l : List GP) (p : GP) (W : World) (hv : ArgG W v l) (hl : l.length + 1 ≤ 1954687338211) (hs : ArgInts W p.2 p.1.stamp) (hst : p.1.stamp.length ≤ 17592186043904) :
    Calls Try.prog 39 #[v, .agg (pC p).toArray] W fun e w' => ∃ sv pv, e = .returned sv ∧ w'.ownsRow W.heap.size 30 6 sv (l.length + 1) (pL (insP l (p.1, pv))) ∧ w'.ownsRow W.heap.size 3 1 pv p.1.stamp.length (ints p.1.stamp) ∧ Kp No W w' := by
  obtain ⟨Q, hQ⟩ : ∃ Q : Ending → World → Prop, Q = fun e w' => ∃ sv pv, e = .returned sv ∧ w'.ownsRow W.heap.size 30 6 sv (l.length + 1) (pL (insP l (p.1, pv))) ∧ w'.ownsRow W.heap.size 3 1 pv p.1.stamp.length (ints p.1.stamp) ∧ Kp No W w' := ⟨_, rfl⟩
  rw [← hQ]
  have HQ := Lib.hid hQ; clear hQ
  obtain ⟨⟨gid, hol, path, mode, st, term⟩, psv⟩ := p
  replace hs : ArgInts W psv st := hs
  obtain ⟨Ap, cp, rfl, _⟩ := ints_of _ _ _ hs
  have HS := Lib.hid (show ArgInts W (.slice Ap st.length cp) st from hs)
  have HST := Lib.hid (show st.length ≤ 17592186043904 from hst)
  have HV := Lib.hid hv
  obtain ⟨A, c, rfl, _⟩ := hv.len
  obtain ⟨w1, hw1⟩ : ∃ w1, w1 = W.alloc (.cells #[.int .i64 gid, .int .i64 hol, .string ⟨path.toArray⟩, .int .i64 mode, .slice Ap st.length cp, .int .i64 term] 30) := ⟨_, rfl⟩
  have HB1 := Lib.hid (show Bk w1 W.heap.size 30 [.int .i64 gid, .int .i64 hol, .string ⟨path.toArray⟩, .int .i64 mode, .slice Ap st.length cp, .int .i64 term] by rw [hw1]; exact Bk.new' rfl rfl)
  have HK1 := Lib.hid (show Kp No W w1 by rw [hw1]; exact (Kp.refl No W).alloc _)
  have hs1 : w1.heap.size = W.heap.size + 1 := by rw [hw1]; simp
  have HW := Lib.hid hw1; have HS1 := Lib.hid hs1
  clear hs hst hv hw1 hs1
  simp only [pC]
  go_enter Try.func39, Try.ntmps39
  go_upto_region 1 with (fail)
  rw [← HW.out]
  clear HW
  go_upto_block 0 with (fail)
  go_cut [5, 6] (fun o i wx => ∃ j : Nat, j ≤ l.length ∧ i = .int .i64 j ∧ (∀ (k : Nat) (x : GP), k < j → l[k]? = some x → x.1.id < gid) ∧ (j = l.length ∨ ∃ x, l[j]? = some x ∧ ¬ x.1.id < gid) ∧ wx.ownsRow w1.heap.size 30 6 o j (pL (l.take j)) ∧ Kp No w1 wx)
  case first =>
    go_wp2_with fail
    go_loopw [6, 5] (fun i o wr => ∃ j : Nat, j ≤ l.length ∧ i = .int .i64 j ∧ (∀ (k : Nat) (x : GP), k < j → l[k]? = some x → x.1.id < gid) ∧ wr.ownsRow w1.heap.size 30 6 o j (pL (l.take j)) ∧ Kp No w1 wr) (fun i _ _ => l.length - (intOf i).toNat)
    case atStart => exact ⟨0, Nat.zero_le _, rfl, (fun k x h => absurd h (Nat.not_lt_zero _)), nil_own _ _ _ _, Kp.refl _ _⟩
    case round =>
      obtain ⟨j, hj, rfl, hlo, ho, hk⟩ := hrel
      have HLO := Lib.hid hlo; have HO := Lib.hid ho; have HK := Lib.hid hk
      have HKW := Lib.hid (HK1.out.trans hk)
      have z0 : wr.cell? ⟨W.heap.size, 0, none⟩ = some (.int .i64 gid) := (HB1.out.no hk).cell 0
      clear hlo ho hk
      by_cases hlt : j < l.length
      · have hk0 : (0 : Int) ≤ (j : Int) := by omega
        have hk1 : (j : Int) < (l.length : Int) := by omega
        obtain ⟨g, o, gid2, hol2, path2, mode2, st2, term2, B, d, rfl, el, ha, hml, x0, x1, x2, x3, x4, x5⟩ := (HV.out.no HKW.out).cells hlt
        have HGE := Lib.hid (show l[j]? = some (⟨gid2, hol2, path2, mode2, st2, term2⟩, .slice B st2.length d) by rw [List.getElem?_eq_getElem hlt, el])
        have HSN := Lib.hid (show pL (l.take (j + 1)) = pL (l.take j) ++ pC (⟨gid2, hol2, path2, mode2, st2, term2⟩, .slice B st2.length d) by rw [List.take_succ_eq_append_getElem hlt, pL_snoc, el])
        have hjm : j + 1 ≤ 1954687338211 := by omega
        clear el ha hml
        by_cases hid : gid2 < gid
        · have hd : decide (gid2 < gid) = true := decide_eq_true hid
          obtain ⟨Ao, co, hao, _⟩ := own_len HO.out
          subst hao
          have hsz := HK.out.size
          clear hlt
          have hod := own_kp HO.out (Kp.refl No wr).drew (fun _ _ m => m)
          have HOD := Lib.hid hod
          have kd := (Kp.refl No wr).drew
          have HKD := Lib.hid kd
          clear hod kd
          go_wp2
          go_quiet (fail)
          go_wp2_with (at_builtin; go_must (refine wpList_app1 _ rfl _ _ 23 rfl w1.heap.size 30 _ 6 72 Try.underlying23 Try.infoGr rfl (by omega) _ j (pL (l.take j)) rfl ((own_kp HO.out ((Kp.refl No wr).drewN _) (fun _ _ m => m)).alloc _) _ _ _ rfl (Bk.new' rfl rfl : Bk _ _ _ [.int .i64 gid2, .int .i64 hol2, .string ⟨path2.toArray⟩, .int .i64 mode2, .slice B st2.length d, .int .i64 term2]) rfl (by simp [Value.oneCell']) (by omega) (by omega) (by simp; omega) ?_); intro g5 cap5 w5 hown5 hk5 hat5)
          have HO5 := Lib.hid hown5; have HK5 := Lib.hid hk5
          clear hown5 hk5 hat5
          go_roundw
          case rel =>
            refine ⟨j + 1, by omega, by go_num, fun k x hk hx => ?_, ?_, ((HK.out.drewN _).alloc _).then_ HK5.out fun i hi e => by have := (HO.out.lt i e).1; omega⟩
            · rcases Nat.lt_or_ge k j with h | h
              · exact HLO.out k x h hx
              · obtain rfl : k = j := by omega
                rw [HGE.out] at hx
                injection hx with hx
                subst hx
                exact hid
            · rw [HSN.out]
              exact HO5.out
          case measure => simp [intOf]; omega
        · have hd : decide (gid2 < gid) = false := decide_eq_false hid
          have HN := Lib.hid hid
          clear hid hlt
          go_wp2
          go_quiet (fail)
          go_wp2
          go_meet
          exact ⟨j, by omega, rfl, HLO.out, .inr ⟨_, HGE.out, HN.out⟩, own_kp HO.out ((Kp.refl No wr).drewN _) (fun _ _ m => m), HK.out.drewN _⟩
      · have hk1 : ¬ (j : Int) < (l.length : Int) := by omega
        have hd : decide (j < l.length) = false := decide_eq_false hlt
        have hjl : j = l.length := by omega
        have HJL := Lib.hid hjl
        clear hlt hjl
        go_wp2
        go_quiet (fail)
        go_wp2
        go_meet
        exact ⟨j, by omega, rfl, HLO.out, .inl HJL.out, own_kp HO.out ((Kp.refl No wr).drewN _) (fun _ _ m => m), HK.out.drewN _⟩
  case rest =>
    obtain ⟨j, hj, rfl, hlo, hend, ho, hk⟩ := hcut
    have HEND := Lib.hid (show ∀ g : GP, g.1.id = gid → insP l g = l.take j ++ g :: l.drop j from fun g hg => insP_at l g j (fun k x hk hx => by rw [hg]; exact hlo k x hk hx) (by rw [hg]; exact hend))
    have HLO := Lib.hid hlo
    have HJ := Lib.hid hj
    obtain ⟨A5, c5, rfl, _⟩ := own_len ho
    have HO := Lib.hid ho; have HK := Lib.hid hk; have HKW := Lib.hid (HK1.out.trans hk)
    have HBx := Lib.hid (HB1.out.no hk)
    have hsz1 := HS1.out; have hszk := hk.size
    have pc := copyG_any (⟨gid, hol, path, mode, st, term⟩, .slice Ap st.length cp) wc (HS.out.no HKW.out) HST.out
    simp only [pC] at pc
    clear hlo hend ho hk
    have z0 : wc.cell? ⟨W.heap.size, 0, none⟩ = some (.int .i64 gid) := HBx.out.cell 0
    have z1 : wc.cell? ⟨W.heap.size, 1, none⟩ = some (.int .i64 hol) := HBx.out.cell 1
    have z2 : wc.cell? ⟨W.heap.size, 2, none⟩ = some (.string ⟨path.toArray⟩) := HBx.out.cell 2
    have z3 : wc.cell? ⟨W.heap.size, 3, none⟩ = some (.int .i64 mode) := HBx.out.cell 3
    have z4 : wc.cell? ⟨W.heap.size, 4, none⟩ = some (.slice Ap st.length cp) := HBx.out.cell 4
    have z5 : wc.cell? ⟨W.heap.size, 5, none⟩ = some (.int .i64 term) := HBx.out.cell 5
    go_wp2_with fail
    refine pc.mono ?_
    rintro e w4 ⟨pv, rfl, op, k4⟩
    obtain ⟨Aq, cq, rfl, _⟩ := own_len op
    have HOP := Lib.hid op; have HK4 := Lib.hid k4
    have HO4 := Lib.hid (own_kp HO.out k4 fun _ _ m => m)
    have hsz4 := k4.size
    clear op k4 pc z0 z1 z2 z3 z4 z5
    go_wp2_with (at_builtin; go_must (refine wpList_app1 _ rfl _ _ 23 rfl w1.heap.size 30 _ 6 72 Try.underlying23 Try.infoGr rfl (by omega) _ j (pL (l.take j)) rfl (HO4.out.alloc _) _ _ _ rfl (Bk.new' rfl rfl : Bk _ _ _ [.int .i64 gid, .int .i64 hol, .string ⟨path.toArray⟩, .int .i64 mode, .slice Aq st.length cq, .int .i64 term]) rfl (by simp [Value.oneCell']) (by omega) (by omega) (by simp; omega) ?_); intro g5 cap5 w5 hown5 hk5 hat5)
    have HO5 := Lib.hid hown5
    have HK5 := Lib.hid (show Kp No w1 w5 from ((HK.out.trans HK4.out).alloc _).then_ hk5 fun i hi e => by have := (HO.out.lt i e).1; omega)
    have HP5 := Lib.hid (show w5.ownsRow W.heap.size 3 1 (.slice Aq st.length cq) st.length (ints st) from own_mono (own_kp (HOP.out.alloc (.cells #[.int .i64 gid, .int .i64 hol, .string ⟨path.toArray⟩, .int .i64 mode, .slice Aq st.length cq, .int .i64 term] 30)) hk5 (own_apart HOP.out HO4.out (by decide))) HKW.out.size)
    clear hown5 hk5 hat5 HOP hszk hsz4
    obtain ⟨q, hq⟩ : ∃ q : GP, q = (⟨gid, hol, path, mode, st, term⟩, .slice Aq st.length cq) := ⟨_, rfl⟩
    have HO5 := Lib.hid (show w5.ownsRow w1.heap.size 30 6 (.slice (some ⟨g5, 0, none⟩) (j + 1) cap5) (j + 1) (pL (l.take j ++ q :: (l.take j).drop j)) by
      have e : (l.take j).drop j = [] := List.drop_eq_nil_of_le (by rw [List.length_take]; omega)
      rw [e, hq, pL_append]
      have h := HO5.out
      rwa [show pL [((⟨gid, hol, path, mode, st, term⟩ : Grt), (.slice Aq st.length cq : Value))] = [.int .i64 gid, .int .i64 hol, .string ⟨path.toArray⟩, .int .i64 mode, .slice Aq st.length cq, .int .i64 term] from rfl])
    have HQQ := Lib.hid hq
    clear hq
    go_wp2
    go_loopw [6, 5] (fun i o wr => ∃ m : Nat, j ≤ m ∧ m ≤ l.length ∧ i = .int .i64 m ∧ wr.ownsRow w1.heap.size 30 6 o (m + 1) (pL (l.take j ++ q :: (l.take m).drop j)) ∧ wr.ownsRow W.heap.size 3 1 (.slice Aq st.length cq) st.length (ints st) ∧ Kp No w1 wr) (fun i _ _ => l.length - (intOf i).toNat)
    case atStart => exact ⟨j, Nat.le_refl _, HJ.out, rfl, HO5.out, HP5.out, HK5.out⟩
    case round =>
      obtain ⟨m, hjm, hm, rfl, ho, hop, hk⟩ := hrel
      have HO := Lib.hid ho; have HOP := Lib.hid hop; have HK := Lib.hid hk; have HKW := Lib.hid (HK1.out.trans hk)
      clear ho hop hk
      by_cases hlt : m < l.length
      · have hk0 : (0 : Int) ≤ (m : Int) := by omega
        have hk1 : (m : Int) < (l.length : Int) := by omega
        obtain ⟨g, o, gid2, hol2, path2, mode2, st2, term2, B, d, rfl, el, ha, hml, x0, x1, x2, x3, x4, x5⟩ := (HV.out.no HKW.out).cells hlt
        have HSN := Lib.hid (show pL (l.take j ++ q :: (l.take (m + 1)).drop j) = pL (l.take j ++ q :: (l.take m).drop j) ++ pC (⟨gid2, hol2, path2, mode2, st2, term2⟩, .slice B st2.length d) by
          rw [mid_snoc l j m hjm hlt, ← List.cons_append, ← List.append_assoc, pL_snoc, el])
        have hmm : m + 1 + 1 ≤ 1954687338211 := by omega
        clear el ha hml hlt
        obtain ⟨Ao, co, hao, _⟩ := own_len HO.out
        subst hao
        have hsz := HK.out.size
        go_wp2_with (at_builtin; go_must (refine wpList_app1 _ rfl _ _ 23 rfl w1.heap.size 30 _ 6 72 Try.underlying23 Try.infoGr rfl (by omega) _ (m + 1) (pL (l.take j ++ q :: (l.take m).drop j)) rfl (HO.out.alloc _) _ _ _ rfl (Bk.new' rfl rfl : Bk _ _ _ [.int .i64 gid2, .int .i64 hol2, .string ⟨path2.toArray⟩, .int .i64 mode2, .slice B st2.length d, .int .i64 term2]) rfl (by simp [Value.oneCell']) (by omega) (by omega) (by simp; omega) ?_); intro g6 cap6 w6 hown6 hk6 hat6)
        have HO6 := Lib.hid hown6; have HK6 := Lib.hid hk6
        have HP6 := Lib.hid (show w6.ownsRow W.heap.size 3 1 (.slice Aq st.length cq) st.length (ints st) from own_kp (HOP.out.alloc (.cells #[.int .i64 gid2, .int .i64 hol2, .string ⟨path2.toArray⟩, .int .i64 mode2, .slice B st2.length d, .int .i64 term2] 30)) hk6 (own_apart HOP.out HO.out (by decide)))
        clear hown6 hk6 hat6
        go_roundw
        case rel =>
          refine ⟨m + 1, by omega, by omega, by go_num, ?_, HP6.out, (HK.out.alloc _).then_ HK6.out fun i hi e => by have := (HO.out.lt i e).1; omega⟩
          rw [HSN.out]
          exact HO6.out
        case measure => simp [intOf]; omega
      · have hk1 : ¬ (m : Int) < (l.length : Int) := by omega
        have hml : m = l.length := by omega
        have HF := Lib.hid (show wr.ownsRow W.heap.size 30 6 (.slice none 0 0) 0 (pL []) from nil_own _ _ _ _)
        clear HF
        rw [hml, List.take_length] at HO
        have HE := Lib.hid (show insP l q = l.take j ++ q :: l.drop j from HEND.out q (by rw [HQQ.out]))
        rw [← HE.out] at HO
        clear hlt hml
        go_wp2
        rw [HQ.out]
        refine ⟨_, .slice Aq st.length cq, rfl, own_mono ?_ HK1.out.size, HOP.out, HKW.out⟩
        have h := HO.out
        rw [HQQ.out] at h
        exact h
end Go.Proofs.Ytifdceofglocdaa
