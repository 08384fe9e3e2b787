/- Several texts of this claim in one. No condition beyond what each theorem states. -/
import Derived.Test.YtkiaclldjofdoaaGreatH02
import Derived.Test.YtkiaclldjofdoaaGreatH03
import Derived.Test.YtkiaclldjofdoaaGreatH04
import Derived.Test.YtkiaclldjofdoaaGreatH05
/- The document's New, message, Low and Get by contract. No condition beyond what each theorem states. -/
namespace Go.Proofs.YtkiaclldjofdoaaGreat
open Go Go.RowKit Go.Maps Go.PlainAid

/-- the document's calls as a value -/
def rC (boot next : Int) (sv : Value) : List Value := [.int .i64 boot, .int .i64 next, sv]

theorem infoR : (Tryz.prog.info? 39).map (·.size) = some 3 := by kernel_rfl

set_option maxRecDepth 100000 in
set_option maxHeartbeats 4000000 in
theorem rmessage_any (x : Cll) (f boot low : Int) (W : World) : Calls Tryz.prog 30 #[vC x, .int .i64 f, .int .i64 boot, .int .i64 low] W fun e w' => e = .returned (.agg (mC x f boot low).toArray) ∧ Kp No W w' := by
  obtain ⟨C, hC⟩ : ∃ C, C = mC x f boot low := ⟨_, rfl⟩
  rw [← hC]
  have HT := Lib.hid (show Sxt C by rw [hC]; exact Sxt.of _)
  obtain ⟨a0, a1, a2, a3, a4, a5, a6, a7, a8, a9⟩ := x
  have HB := Lib.hid (Bk.new (W.alloc (.cells (cC ⟨a0, a1, a2, a3, a4, a5, a6, a7, a8, a9⟩).toArray 32)) 50 m0)
  have HK := Lib.hid (((Kp.refl No W).alloc (.cells (cC ⟨a0, a1, a2, a3, a4, a5, a6, a7, a8, a9⟩).toArray 32)).alloc (.cells m0.toArray 50))
  have HAZ : Hid ((.agg #[.int .i64 1, .int .i64 f, .int .i64 a1, .int .i64 boot, .int .i64 a0, .int .i64 low, .int .i64 a2, .string ⟨a3.toArray⟩, .int .i64 a4, .int .i64 a5, .int .i64 a6, .bool a7, .int .i64 0, .slice none 0 0, .int .i64 0, .int .i64 0] : Value) = .agg C.toArray) := Lib.hid (by rw [hC]; rfl)
  have es : (W.alloc (.cells (cC ⟨a0, a1, a2, a3, a4, a5, a6, a7, a8, a9⟩).toArray 32)).heap.size = W.heap.size + 1 := by simp
  rw [es] at HB
  have HTH := Lib.hid (HB.out.thereM rfl HT.out)
  have HX := Lib.hid ((HB.out.put (C := C) (by rw [HT.out.len]; rfl)).all_)
  have HK2 := Lib.hid (HK.out.sets (g := W.heap.size + 1) C 0 (.inr (by omega)))
  have HM := Lib.hid HT.out.info
  have HO := Lib.hid HT.out.one
  have HI := Lib.hid HT.out.infoL
  simp only [cC, m0, mcells] at HTH HX HK2
  clear HB HK es hC
  unfold vC cC
  go_enter Tryz.func30, Tryz.ntmps30
  go_wp2_with (refine wpList_store_mid rfl _ _ _ rfl (W.heap.size + 1) 0 C.toArray rfl HAZ.out HTH.out HM.out HO.out ?_)
  exact bodyPost_ret (res_c rfl _ _ rfl HX.out Tryz.underlying50 rfl HI.out) rfl ⟨rfl, HK2.out⟩

set_option maxRecDepth 100000 in
set_option maxHeartbeats 1000000 in
theorem rlow_any (boot next : Int) (sv : Value) (l : List Cll) (W : World) (hv : ArgC W sv l) (hl : l.length ≤ maxLen) :
    Calls Tryz.prog 23 #[.agg (rC boot next sv).toArray] W fun e w' => e = .returned (.int .i64 (lowC l next)) ∧ Kp No W w' := by
  obtain ⟨A, c, rfl, hcl⟩ := hv.len
  have hK := Lib.hid ((Kp.refl No W).alloc (.cells #[.int .i64 boot, .int .i64 next, .slice A l.length c] 39))
  have HV := Lib.hid (hv.no hK.out)
  unfold rC
  cases l with
  | nil =>
    have HE := Lib.hid (show lowC [] next = next from rfl)
    simp only [List.length_nil] at HV hK ⊢
    clear hv hcl
    go_enter Tryz.func23, Tryz.ntmps23
    go_wp2
    go_ret
    exact ⟨ret_int rfl HE.out.symm, hK.out⟩
  | cons x r =>
    have HE := Lib.hid (show lowC (x :: r) next = x.seq from rfl)
    obtain ⟨g, o, rfl, _, hr⟩ := HV.out.at_ (k := 0) (Nat.succ_pos _)
    have x0 := hr 0 (.int .i64 x.seq) rfl
    simp only [Nat.zero_mul, Nat.add_zero] at x0
    obtain ⟨n, hn⟩ : ∃ n : Nat, n = (x :: r).length := ⟨_, rfl⟩
    have hn1 : (0 : Int) < (n : Int) := by rw [hn]; simp only [List.length_cons]; omega
    have hn2 : ¬ n = 0 := by rw [hn]; simp
    have hn3 : ((n : Int) == 0) = false := by rw [beq_eq_false_iff_ne]; omega
    rw [← hn] at x0 hK ⊢
    clear HV hv hcl hr hn hl
    go_enter Tryz.func23, Tryz.ntmps23
    go_wp2
    go_ret
    exact ⟨ret_int rfl HE.out.symm, hK.out⟩

set_option maxRecDepth 100000 in
set_option maxHeartbeats 4000000 in
theorem rget_any (boot next : Int) (sv : Value) (l : List Cll) (s : Int) (W : World) (hv : ArgC W sv l) (hl : l.length ≤ maxLen) :
    Calls Tryz.prog 14 #[.agg (rC boot next sv).toArray, .int .i64 s] W fun e w' => e = .returned (.tuple #[vC (atC l s), .bool (getC l s).isSome]) ∧ Kp No W w' := by
  obtain ⟨Q, hQ⟩ : ∃ Q : Ending → World → Prop, Q = fun e w' => e = .returned (.tuple #[vC (atC l s), .bool (getC l s).isSome]) ∧ Kp No W w' := ⟨_, rfl⟩
  rw [← hQ]
  have HQ := Lib.hid hQ; clear hQ
  obtain ⟨A, c, rfl, hcl⟩ := hv.len
  obtain ⟨w1, hw1⟩ : ∃ w1, w1 = (W.alloc (.cells #[.int .i64 boot, .int .i64 next, .slice A l.length c] 39)).alloc (.cells #[.int .i64 0, .int .i64 0, .int .i64 0, .string ⟨#[]⟩, .int .i64 0, .int .i64 0, .int .i64 0, .bool false, .int .i64 0, .int .i64 0] 32) := ⟨_, rfl⟩
  have HK1 := Lib.hid (show Kp No W w1 by rw [hw1]; exact ((Kp.refl No W).alloc _).alloc _)
  have HB1 := Lib.hid (show Bk w1 W.heap.size 39 [.int .i64 boot, .int .i64 next, .slice A l.length c] by rw [hw1]; exact (Bk.new' rfl rfl).alloc _)
  have HZ1 := Lib.hid (show Bk w1 (W.heap.size + 1) 32 (cC {}) by rw [hw1]; exact Bk.new' (by simp) rfl)
  have HV := Lib.hid (hv.no HK1.out)
  have HW1 := Lib.hid hw1
  have hl2 : l.length ≤ 9223372036854775807 := by unfold maxLen at hl; omega
  clear hv hcl hw1 hl
  unfold rC
  go_enter Tryz.func14, Tryz.ntmps14
  go_upto_region 1 with (fail)
  rw [← HW1.out]
  clear HW1
  go_wp2
  have y2 : w1.cell? ⟨W.heap.size, 2, none⟩ = some (.slice A l.length c) := HB1.out.cell 2
  go_loopw [6] (fun i wr => ∃ j : Nat, j ≤ l.length ∧ i = .int .i64 j ∧ (∀ (k : Nat) (x : Cll), k < j → l[k]? = some x → x.seq ≠ s) ∧ w1 = wr) (fun i _ => l.length - (Go.RowKit.intOf i).toNat)
  case atStart => exact ⟨0, Nat.zero_le _, rfl, (fun k g h => absurd h (Nat.not_lt_zero _)), rfl⟩
  case round =>
    obtain ⟨j, hj, rfl, hno, rfl⟩ := hrel
    have HN := Lib.hid hno
    clear hno
    by_cases hlt : j < l.length
    · have hk0 : (0 : Int) ≤ (j : Int) := by omega
      have hk1 : (j : Int) < (l.length : Int) := by omega
      obtain ⟨g, o, hA, hgl, hr⟩ := HV.out.at_ hlt
      subst hA
      have HR := Lib.hid hr
      have x0 := hr 0 _ rfl
      simp only [Nat.add_zero] at x0
      obtain ⟨x, hx⟩ : ∃ x, x = l[j] := ⟨_, rfl⟩
      have HE := Lib.hid (show l[j]? = some x by rw [List.getElem?_eq_getElem hlt, hx])
      rw [← hx] at x0 HR
      clear hlt hr hgl hx
      by_cases hid : x.seq = s
      · obtain ⟨C, hC⟩ : ∃ C, C = cC x := ⟨_, rfl⟩
        have HT := Lib.hid (show Ten C by rw [hC]; exact Ten.of _)
        rw [← hC] at HR
        have HX := Lib.hid (show Q (.returned (.tuple #[.agg C.toArray, .bool true])) (w1.setCells (W.heap.size + 1) 0 C) by
          have hg : getC l s = some x := by
            unfold getC
            rw [List.find?_eq_some_iff_getElem]
            refine ⟨by simpa using hid, j, (List.getElem?_eq_some_iff.1 HE.out).1, (List.getElem?_eq_some_iff.1 HE.out).2, fun k hk => ?_⟩
            have := HN.out k _ hk (List.getElem?_eq_getElem (by omega))
            simpa using this
          rw [HQ.out]
          refine ⟨?_, HK1.out.sets C 0 (.inr (by omega))⟩
          unfold atC; rw [hg, hC]; rfl)
        have HIL := Lib.hid HT.out.infoL; have HIA := Lib.hid HT.out.info; have HIO := Lib.hid HT.out.one
        have HTH := Lib.hid (HZ1.out.thereC rfl HT.out)
        have HRX := Lib.hid (show Bk (w1.setCells (W.heap.size + 1) 0 C) (W.heap.size + 1) 32 C from HZ1.out.put (by rw [HT.out.len]; rfl))
        clear hC
        go_wp2_with (first
          | (with_reducible refine wpList_load_mid rfl _ _ rfl g (o + j * 10) rfl C _ HR.out Tryz.underlying32 rfl HIL.out ?_)
          | (with_reducible refine wpList_store_mid rfl _ _ _ rfl (W.heap.size + 1) 0 C.toArray rfl rfl HTH.out HIA.out HIO.out ?_))
        exact bodyPost_ret (res_ct (s := 4) (u := 5) rfl _ _ rfl HRX.out.all_ Tryz.underlying32 rfl HIL.out) rfl HX.out
      · have hid2 : (x.seq == s) = false := by rw [beq_eq_false_iff_ne]; exact hid
        go_wp2
        go_roundw
        case rel =>
          refine ⟨j + 1, by omega, by go_num, fun k x2 hk hg => ?_, by first | trivial | rfl⟩
          rcases Nat.lt_or_ge k j with h | h
          · exact HN.out k x2 h hg
          · obtain rfl : k = j := by omega
            rw [HE.out] at hg
            injection hg with hg
            subst hg
            exact hid
        case measure => simp [Go.RowKit.intOf]; omega
    · have hk1 : ¬ (j : Int) < (l.length : Int) := by omega
      have hjl : j = l.length := by omega
      obtain ⟨C, hC⟩ : ∃ C, C = cC {} := ⟨_, rfl⟩
      have HT := Lib.hid (show Ten C by rw [hC]; exact Ten.of _)
      have HX := Lib.hid (show Q (.returned (.tuple #[.agg C.toArray, .bool false])) (w1.setCells (W.heap.size + 1) 0 C) by
        have hg : getC l s = none := by
          unfold getC
          rw [List.find?_eq_none]
          intro x hx
          obtain ⟨k, hk, e⟩ := List.mem_iff_getElem.1 hx
          have := HN.out k x (by omega) (by rw [← e]; exact List.getElem?_eq_getElem _)
          simpa using this
        rw [HQ.out]
        refine ⟨?_, HK1.out.sets C 0 (.inr (by omega))⟩
        unfold atC; rw [hg, hC]; rfl)
      have HIL := Lib.hid HT.out.infoL; have HIA := Lib.hid HT.out.info; have HIO := Lib.hid HT.out.one
      have HTH := Lib.hid (HZ1.out.thereC rfl HT.out)
      have HRX := Lib.hid (show Bk (w1.setCells (W.heap.size + 1) 0 C) (W.heap.size + 1) 32 C from HZ1.out.put (by rw [HT.out.len]; rfl))
      have HAZ := Lib.hid (show (.agg #[.int .i64 0, .int .i64 0, .int .i64 0, .string ⟨#[]⟩, .int .i64 0, .int .i64 0, .int .i64 0, .bool false, .int .i64 0, .int .i64 0] : Value) = .agg C.toArray by rw [hC]; rfl)
      clear hlt hC
      go_wp2_with (refine wpList_store_mid rfl _ _ _ rfl (W.heap.size + 1) 0 C.toArray rfl HAZ.out HTH.out HIA.out HIO.out ?_)
      exact bodyPost_ret (res_ct (s := 4) (u := 5) rfl _ _ rfl HRX.out.all_ Tryz.underlying32 rfl HIL.out) rfl HX.out
end Go.Proofs.YtkiaclldjofdoaaGreat

/- The law's own call, and awake, by contract. No condition beyond what each theorem states. -/
namespace Go.Proofs.YtkiaclldjofdoaaGreat
open Go Go.RowKit Go.Maps Go.PlainAid

def acqC : Cll := { verb := 1, path := [97], mode := 1, term := 9 }
theorem acquire_any (W : World) : Calls Tryz.prog 10 #[] W fun e w' => e = .returned (vC acqC) ∧ Kp No W w' := by
  have HB := Lib.hid (Bk.new W 32 (cC acqC))
  have HK := Lib.hid ((Kp.refl No W).alloc (.cells (cC acqC).toArray 32))
  go_enter Tryz.func10, Tryz.ntmps10
  go_wp2
  exact bodyPost_ret (res_c rfl _ _ rfl HB.out.all_ Tryz.underlying32 rfl (Ten.of acqC).infoL) rfl ⟨rfl, HK.out⟩

theorem okX_acq : okX acqC := by
  have h : vpP [97] = true := by decide
  unfold okX acqC
  simp only [if_true]
  exact ⟨⟨by decide, by decide⟩, h, .inl rfl, ⟨by decide, by decide⟩, by simp, by simp⟩
theorem in_acq : InX acqC := ⟨by unfold acqC; decide, by unfold acqC; decide⟩
theorem in_bad4 : InX { verb := 4 } := ⟨by decide, by decide⟩
theorem okX_bad4 : ¬ okX { verb := 4 } := by
  rintro ⟨_, h⟩
  simp at h

def sX (n s t : Int) : Cll := { seq := n, verb := 1, path := [97], mode := 1, term := 9, sent := s, tries := t }
theorem call_acq (c : Cls) (now : Int) : callC c now acqC = sX c.next now 1 := rfl

/-- acquire asked once more of calls -/
theorem open_acq (b mb : Nat) (c : Cls) (now : Int) (w : World) (h : OwnCs w b mb c) (hc : CsOk c) (hn : 0 ≤ now ∧ now ≤ 1152921504606846976) (h1 : c.next ≤ 1099511627776) (h2 : c.opn.length < 4) (h3 : c.next < c.low + 8) :
    Calls Tryz.prog 9 #[.pointer (some ⟨b, 0, none⟩), .int .i64 now, vC acqC] w fun e w' =>
      e = .returned (.tuple #[.int .i64 c.next, .int .i64 0]) ∧ OwnCs w' b mb { c with next := c.next + 1, opn := c.opn ++ [sX c.next now 1] } ∧ Kp (Two b mb) w w' := by
  refine (open_any b mb c now acqC w h hc in_acq).mono ?_
  rintro e w' ⟨rfl, h5, h6⟩
  have e1 : startE (decide (okX acqC)) c now = 0 := by
    rw [decide_eq_true okX_acq]
    unfold startE
    rw [if_neg (by omega), if_neg (by decide), if_neg (by omega), if_neg (by omega)]
  rw [e1] at h5 ⊢
  exact ⟨rfl, h5, h6⟩
theorem open_acq_busy (b mb : Nat) (c : Cls) (now : Int) (w : World) (h : OwnCs w b mb c) (hc : CsOk c) (hn : 0 ≤ now ∧ now ≤ 1152921504606846976) (h1 : c.next ≤ 1099511627776) (h2 : 4 ≤ c.opn.length ∨ c.low + 8 ≤ c.next) :
    Calls Tryz.prog 9 #[.pointer (some ⟨b, 0, none⟩), .int .i64 now, vC acqC] w fun e w' =>
      e = .returned (.tuple #[.int .i64 0, .int .i64 52]) ∧ OwnCs w' b mb c ∧ Kp (Two b mb) w w' := by
  refine (open_any b mb c now acqC w h hc in_acq).mono ?_
  rintro e w' ⟨rfl, h5, h6⟩
  have e1 : startE (decide (okX acqC)) c now = 52 := by
    rw [decide_eq_true okX_acq]
    unfold startE
    rw [if_neg (by omega), if_neg (by decide), if_neg (by omega), if_pos h2]
  rw [e1] at h5 ⊢
  exact ⟨rfl, h5, h6⟩
theorem open_bad4 (b mb : Nat) (c : Cls) (now : Int) (w : World) (h : OwnCs w b mb c) (hc : CsOk c) (hn : 0 ≤ now ∧ now ≤ 1152921504606846976) :
    Calls Tryz.prog 9 #[.pointer (some ⟨b, 0, none⟩), .int .i64 now, .agg #[.int .i64 0, .int .i64 0, .int .i64 4, .string ⟨#[]⟩, .int .i64 0, .int .i64 0, .int .i64 0, .bool false, .int .i64 0, .int .i64 0]] w fun e w' =>
      e = .returned (.tuple #[.int .i64 0, .int .i64 22]) ∧ OwnCs w' b mb c ∧ Kp (Two b mb) w w' := by
  refine (open_any b mb c now { verb := 4 } w h hc in_bad4).mono ?_
  rintro e w' ⟨rfl, h5, h6⟩
  have e1 : startE (decide (okX { verb := 4 })) c now = 22 := by
    rw [decide_eq_false okX_bad4]
    unfold startE
    rw [if_neg (by omega), if_pos rfl]
  rw [e1] at h5 ⊢
  exact ⟨rfl, h5, h6⟩

/-- calls after the example's steps -/
def aC (n : Int) (l : List Cll) : Cls := { boot := 3, next := n, opn := l }
theorem aC_ok1 (t : Int) : CsOk (aC 2 [sX 1 10 t]) where
  boot := (by decide : (1 : Int) ≤ 3 ∧ (3 : Int) ≤ 1099511627776)
  next := (by decide : (1 : Int) ≤ 2 ∧ (2 : Int) ≤ 1099511627777)
  ris := List.pairwise_singleton _ _
  num := by intro x hx; simp only [aC, List.mem_singleton] at hx; subst hx; exact (by decide : (1 : Int) ≤ 1 ∧ (1 : Int) < 2)
  win := (by decide : (2 : Int) ≤ 1 + 8)
  len := (by decide : (1 : Nat) ≤ 4)
theorem aC_ok2 : CsOk (aC 2 []) where
  boot := (by decide : (1 : Int) ≤ 3 ∧ (3 : Int) ≤ 1099511627776)
  next := (by decide : (1 : Int) ≤ 2 ∧ (2 : Int) ≤ 1099511627777)
  ris := List.Pairwise.nil
  num := by intro x hx; cases hx
  win := (by decide : (2 : Int) ≤ 2 + 8)
  len := (by decide : (0 : Nat) ≤ 4)
theorem kp_two {W w w' : World} {b mb : Nat} (h : Kp No W w) (k : Kp (Two b mb) w w') (hb : W.heap.size ≤ b) (hm : W.heap.size ≤ mb) : Kp No W w' :=
  h.then_ k fun i hi e => by rcases e with e | e <;> omega
theorem kp_one {W w w' : World} {mb : Nat} (h : Kp No W w) (k : Kp (One mb) w w') (hm : W.heap.size ≤ mb) : Kp No W w' :=
  h.then_ k fun i hi e => by have e : i = mb := e; omega
theorem OwnCs.off {w : World} {b mb g : Nat} {c : Cls} {t : TypeId} {cs : List Value} (h : OwnCs w b mb c) (hg : Bk w g t cs) (ht : t ≠ 66) : ¬ Two b mb g := by
  rintro (rfl | rfl)
  · exact hg.ne_ h.1 ht rfl
  · obtain ⟨es, clock, h1, _⟩ := h.2
    unfold Bk at hg
    rw [h1] at hg
    cases hg
theorem OwnCs.off1 {w : World} {b mb g : Nat} {c : Cls} {t : TypeId} {cs : List Value} (h : OwnCs w b mb c) (hg : Bk w g t cs) (ht : t ≠ 66) : ¬ One mb g := fun e => h.off hg ht (.inr e)

set_option maxRecDepth 100000 in
set_option maxHeartbeats 4000000 in
theorem awake14_any (W : World) : Calls Tryz.prog 8 #[] W fun e w' => e = .returned (.bool true) ∧ Kp No W w' := by
  obtain ⟨M, hM⟩ : ∃ M, M = mC (sX 1 10 1) 2 3 1 := ⟨_, rfl⟩
  have HTM := Lib.hid (show Sxt M by rw [hM]; exact Sxt.of _)
  have HMM := Lib.hid HTM.out.info; have HOM := Lib.hid HTM.out.one; have HLM := Lib.hid HTM.out.infoL
  have HEM := Lib.hid hM
  obtain ⟨X, hX⟩ : ∃ X, X = cC (sX 1 10 2) := ⟨_, rfl⟩
  have HTX := Lib.hid (show Ten X by rw [hX]; exact Ten.of _)
  have HMX := Lib.hid HTX.out.info; have HOX := Lib.hid HTX.out.one; have HLX := Lib.hid HTX.out.infoL
  have HXX := Lib.hid hX
  clear hM hX
  have m1 : M[1]? = some (.int .i64 2) := by rw [HEM.out]; rfl
  have m3 : M[3]? = some (.int .i64 3) := by rw [HEM.out]; rfl
  have m7 : M[7]? = some (.string ⟨#[97]⟩) := by rw [HEM.out]; rfl
  have n9 : X[9]? = some (.int .i64 2) := by rw [HXX.out]; rfl
  have n8 : X[8]? = some (.int .i64 10) := by rw [HXX.out]; rfl
  have HM1 := Lib.hid m1; have HM3 := Lib.hid m3; have HM7 := Lib.hid m7; have HX9 := Lib.hid n9; have HX8 := Lib.hid n8
  clear m1 m3 m7 n9 n8
  go_enter Tryz.func8, Tryz.ntmps8
  go_wp2_with fail
  refine (new_good 3 W (by decide) (by decide)).mono ?_
  rintro e w1 ⟨b, mb, rfl, o1, hb, hmb, k1⟩
  go_wp2_with fail
  refine (acquire_any w1).mono ?_
  rintro e w2 ⟨rfl, k2⟩
  have o2 := o1.no k2
  have K2 := k1.trans k2
  go_wp2_with fail
  refine (open_acq b mb (newC 3) 10 w2 o2 (CsOk.new ⟨by decide, by decide⟩) (by decide) (by decide) (by decide) (by decide)).mono ?_
  rintro e w3 ⟨rfl, o3, k3⟩
  have HK3 := Lib.hid (kp_two K2 k3 hb hmb)
  have HO3 := Lib.hid (show OwnCs w3 b mb (aC 2 [sX 1 10 1]) from o3)
  clear o1 o2 o3 k1 k2 k3 K2
  have pa : Calls Tryz.prog 18 #[.pointer (some ⟨b, 0, none⟩), .int .i64 2, .int .i64 1] w3 fun e w' => e = .returned (.tuple #[.agg M.toArray, .bool true]) ∧ Kp No w3 w' := by
    have h := pask_any b mb (aC 2 [sX 1 10 1]) 2 1 w3 HO3.out (aC_ok1 1) (by decide)
    rw [HEM.out]
    exact h
  go_wp2_with fail
  refine pa.mono ?_
  rintro e w4 ⟨rfl, k4⟩
  have HO4 := Lib.hid (HO3.out.no k4)
  have HK4 := Lib.hid (HK3.out.trans k4)
  clear pa k4
  have HTHx := Lib.hid (show (w4.alloc (.cells m0.toArray 50)).there w4.heap.size 0 M.toArray.size from (Bk.new w4 _ _).thereM rfl HTM.out)
  have HBM5 := Lib.hid (show Bk ((w4.alloc (.cells m0.toArray 50)).setCells w4.heap.size 0 M) w4.heap.size 50 M from (Bk.new w4 _ m0).put HTM.out.len)
  have k5 := Lib.hid (show Kp No w4 ((w4.alloc (.cells m0.toArray 50)).setCells w4.heap.size 0 M) from ((Kp.refl No w4).alloc _).sets M 0 (.inr (Nat.le_refl _)))
  have e0 : m0.toArray = #[.int .i64 0, .int .i64 0, .int .i64 0, .int .i64 0, .int .i64 0, .int .i64 0, .int .i64 0, .string ⟨#[]⟩, .int .i64 0, .int .i64 0, .int .i64 0, .bool false, .int .i64 0, .slice none 0 0, .int .i64 0, .int .i64 0] := rfl
  rw [e0] at HTHx HBM5 k5
  clear e0
  go_upto_region 6 with (with_reducible refine wpList_store_mid rfl _ _ _ rfl w4.heap.size 0 M.toArray rfl rfl HTHx.out HMM.out HOM.out ?_)
  clear HTHx
  generalize World.setCells _ w4.heap.size 0 M = w5 at *
  have HO5 := Lib.hid (HO4.out.no k5.out)
  have HK5 := Lib.hid (HK4.out.trans k5.out)
  have pg : Calls Tryz.prog 16 #[.pointer (some ⟨b, 0, none⟩), .int .i64 1] w5 fun e w' => e = .returned (.tuple #[.agg X.toArray, .bool true]) ∧ OwnCs w' b mb (aC 2 [sX 1 10 2]) ∧ Kp (One mb) w5 w' := by
    have h := again_any b mb (aC 2 [sX 1 10 1]) 1 w5 HO5.out (aC_ok1 1) (by decide)
    have e0 : againX (sX 1 10 1) = sX 1 10 2 := by unfold againX sX wrap64; simp
    have e1 : againV (aC 2 [sX 1 10 1]).opn 1 = sX 1 10 2 := e0
    have e2 : againC (aC 2 [sX 1 10 1]) 1 = aC 2 [sX 1 10 2] := by
      show turnC (aC 2 [sX 1 10 1]) (againX (sX 1 10 1)) = _
      rw [e0]; rfl
    rw [e1, e2] at h
    rw [HXX.out]
    exact h
  clear k5
  go_wp2_with fail
  refine pg.mono ?_
  rintro e w6 ⟨rfl, o6, k6⟩
  have HBM6 := Lib.hid (HBM5.out.kp k6 (HO5.out.off1 HBM5.out (by decide)))
  have HK6 := Lib.hid (kp_one HK5.out k6 hmb)
  have HO6 := Lib.hid o6
  clear pg k6 o6
  have HTHx := Lib.hid (show (w6.alloc (.cells (cC {}).toArray 32)).there w6.heap.size 0 X.toArray.size from (Bk.new w6 _ _).thereC rfl HTX.out)
  have HBX7 := Lib.hid (show Bk ((w6.alloc (.cells (cC {}).toArray 32)).setCells w6.heap.size 0 X) w6.heap.size 32 X from (Bk.new w6 _ (cC {})).put HTX.out.len)
  have k7 := Lib.hid (show Kp No w6 ((w6.alloc (.cells (cC {}).toArray 32)).setCells w6.heap.size 0 X) from ((Kp.refl No w6).alloc _).sets X 0 (.inr (Nat.le_refl _)))
  have e0 : (cC {}).toArray = #[.int .i64 0, .int .i64 0, .int .i64 0, .string ⟨#[]⟩, .int .i64 0, .int .i64 0, .int .i64 0, .bool false, .int .i64 0, .int .i64 0] := rfl
  rw [e0] at HTHx HBX7 k7
  clear e0
  go_upto_region 7 with (with_reducible refine wpList_store_mid rfl _ _ _ rfl w6.heap.size 0 X.toArray rfl rfl HTHx.out HMX.out HOX.out ?_)
  clear HTHx
  generalize World.setCells _ w6.heap.size 0 X = w7 at *
  have HO7 := Lib.hid (HO6.out.no k7.out)
  have HK7 := Lib.hid (HK6.out.trans k7.out)
  have HBM7 := Lib.hid (HBM6.out.no k7.out)
  clear k7
  go_wp2_with fail
  refine (open_bad4 b mb _ 10 w7 HO7.out (aC_ok1 2) (by decide)).mono ?_
  rintro e w8 ⟨rfl, o8, k8⟩
  have HBM8 := Lib.hid (HBM7.out.kp k8 (HO7.out.off HBM7.out (by decide)))
  have HBX8 := Lib.hid (HBX7.out.kp k8 (HO7.out.off HBX7.out (by decide)))
  have HK8 := Lib.hid (kp_two HK7.out k8 hb hmb)
  have HO8 := Lib.hid o8
  clear k8 o8
  have x1 : w8.cell? ⟨w4.heap.size, 1, none⟩ = some (.int .i64 2) := (HBM8.out.cell 1).trans HM1.out
  have x3 : w8.cell? ⟨w4.heap.size, 3, none⟩ = some (.int .i64 3) := (HBM8.out.cell 3).trans HM3.out
  have x7 : w8.cell? ⟨w4.heap.size, 7, none⟩ = some (.string ⟨#[97]⟩) := (HBM8.out.cell 7).trans HM7.out
  have y9 : w8.cell? ⟨w6.heap.size, 9, none⟩ = some (.int .i64 2) := (HBX8.out.cell 9).trans HX9.out
  have y8 : w8.cell? ⟨w6.heap.size, 8, none⟩ = some (.int .i64 10) := (HBX8.out.cell 8).trans HX8.out
  go_wp2_with fail
  refine (low_any b mb (aC 2 [sX 1 10 2]) w8 HO8.out (aC_ok1 2)).mono ?_
  rintro e w9 ⟨rfl, k9⟩
  have hlo : (aC 2 [sX 1 10 2]).low = 1 := rfl
  rw [hlo]
  have HO9 := Lib.hid (HO8.out.no k9)
  have HK9 := Lib.hid (HK8.out.trans k9)
  have pc : Calls Tryz.prog 11 #[.pointer (some ⟨b, 0, none⟩), .int .i64 1] w9 fun e w' => e = .returned (.tuple #[.agg X.toArray, .bool true]) ∧ OwnCs w' b mb (aC 2 []) ∧ Kp (One mb) w9 w' := by
    have h := close_any b mb (aC 2 [sX 1 10 2]) 1 w9 HO9.out (by decide)
    rw [HXX.out]
    exact h
  clear k9 x1 x3 x7 y9 y8 hlo HBM8 HBX8
  go_wp2_with fail
  refine pc.mono ?_
  rintro e w10 ⟨rfl, o10, k10⟩
  have HO10 := Lib.hid o10
  have HK10 := Lib.hid (kp_one HK9.out k10 hmb)
  clear pc o10 k10
  have HTHx := Lib.hid (show (w10.alloc (.cells (cC {}).toArray 32)).there w10.heap.size 0 X.toArray.size from (Bk.new w10 _ _).thereC rfl HTX.out)
  have HBX11 := Lib.hid (show Bk ((w10.alloc (.cells (cC {}).toArray 32)).setCells w10.heap.size 0 X) w10.heap.size 32 X from (Bk.new w10 _ (cC {})).put HTX.out.len)
  have k11 := Lib.hid (show Kp No w10 ((w10.alloc (.cells (cC {}).toArray 32)).setCells w10.heap.size 0 X) from ((Kp.refl No w10).alloc _).sets X 0 (.inr (Nat.le_refl _)))
  have e0 : (cC {}).toArray = #[.int .i64 0, .int .i64 0, .int .i64 0, .string ⟨#[]⟩, .int .i64 0, .int .i64 0, .int .i64 0, .bool false, .int .i64 0, .int .i64 0] := rfl
  rw [e0] at HTHx HBX11 k11
  clear e0
  go_upto_region 11 with (with_reducible refine wpList_store_mid rfl _ _ _ rfl w10.heap.size 0 X.toArray rfl rfl HTHx.out HMX.out HOX.out ?_)
  clear HTHx
  generalize World.setCells _ w10.heap.size 0 X = w11 at *
  have HO11 := Lib.hid (HO10.out.no k11.out)
  have HK11 := Lib.hid (HK10.out.trans k11.out)
  clear k11
  have y9 : w11.cell? ⟨w10.heap.size, 9, none⟩ = some (.int .i64 2) := (HBX11.out.cell 9).trans HX9.out
  go_wp2_with fail
  refine (low_any b mb (aC 2 []) w11 HO11.out aC_ok2).mono ?_
  rintro e w12 ⟨rfl, k12⟩
  have hlo : (aC 2 []).low = 2 := rfl
  rw [hlo]
  have HO12 := Lib.hid (HO11.out.no k12)
  have HK12 := Lib.hid (HK11.out.trans k12)
  clear k12 y9 hlo
  go_wp2_with fail
  refine (boot_any b mb (aC 2 []) w12 HO12.out).mono ?_
  rintro e w13 ⟨rfl, k13⟩
  have hbo : (aC 2 []).boot = 3 := rfl
  rw [hbo]
  have HO13 := Lib.hid (HO12.out.no k13)
  have HK13 := Lib.hid (HK12.out.trans k13)
  clear k13 hbo
  go_wp2_with fail
  refine (list_any b mb (aC 2 []) w13 HO13.out aC_ok2).mono ?_
  rintro e w14 ⟨v, rfl, o14, k14⟩
  obtain ⟨A14, c14, rfl, _⟩ := own_len o14
  have HK14 := Lib.hid (HK13.out.trans k14)
  have hl0 : (aC 2 []).opn.length = 0 := rfl
  rw [hl0]
  clear k14 o14 hl0
  go_wp2
  go_ret
  exact ⟨rfl, HK14.out⟩
end Go.Proofs.YtkiaclldjofdoaaGreat
