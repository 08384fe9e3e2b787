/- All fields asked (wire). No condition beyond what each theorem states. -/
import Derived.Test.YtbnpdghfbiacaaaMv
import Derived.Test.YtbnpdghfbiacaaaMw
namespace Go.Proofs.Ytbnpdghfbiacaaa
open Go Go.RowKit Go.PlainAid

set_option maxRecDepth 100000 in
theorem valid1_any (v : FV) (fl : Fld) (g : Nat) (m : Msg) (sv : Value) (W : World) (hf : FOk W v fl) (hm : MsgB W g m sv) (hs : Short maxLen m) :
    Calls Try.prog 21 #[.agg #[.func (.func v.wn) #[] v.wc, .func (.func v.rn) #[] v.rc, .func (.func v.fn) #[] v.fc], .pointer (some ⟨g, 0, none⟩)] W fun e w' => e = .returned (.bool (!fl.may m)) ∧ Kp No W w' := by
  have kA : Kp No W (W.alloc (.cells #[.func (.func v.wn) #[] v.wc, .func (.func v.rn) #[] v.rc, .func (.func v.fn) #[] v.fc] 55)) := (Kp.refl No W).alloc _
  have pf := hf.fine _ (Stay.no kA) g m sv (hm.no kA) hs
  have we : ∀ (args : Array Value) (w : World), (callFunc v.fn args).run Try.prog w = .ok (.enter v.fn args) w := hf.fe
  have HK := Lib.hid kA
  clear hf hm kA
  go_enter Try.func21, Try.ntmps21
  go_wp2_with fail
  refine pf.mono ?_
  rintro e w' ⟨rfl, k2⟩
  have K2 := Lib.hid (HK.out.trans k2)
  clear k2 pf
  cases hx : fl.may m
  all_goals
    have HX := Lib.hid hx; clear hx
    go_wp2
    go_ret
    exact ⟨ret_bool rfl (by rw [HX.out]; rfl), K2.out⟩
theorem all_takeF {L : List Fld} {k : Nat} (p : Fld → Bool) (hk : k < L.length) : (L.take (k + 1)).all p = ((L.take k).all p && p L[k]) := by
  rw [List.take_succ_eq_append_getElem hk, List.all_append]; simp only [List.all_cons, List.all_nil, Bool.and_true]
set_option maxRecDepth 100000 in
set_option maxHeartbeats 2000000 in
theorem indexFld_any (A : Option Addr) (c B : Nat) (L : List Fld) (g : Nat) (m : Msg) (sv : Value) (w : World) (hv : FsAt w B (.slice A L.length c) L) (hl : L.length ≤ 1000) (hm : MsgB w g m sv) (hs : Short maxLen m) :
    Calls Try.prog 52 #[.slice A L.length c, .func (.func 21) #[] #[.pointer (some ⟨g, 0, none⟩)]] w fun e w' => (∃ r : Int, e = .returned (.int .i64 r) ∧ decide (0 ≤ r) = !(L.all fun f => f.may m)) ∧ Kp No w w' := by
  have HV := Lib.hid hv; have HM := Lib.hid hm; have HSH := Lib.hid hs; clear hv hm hs
  go_enter Try.func52, Try.ntmps52
  go_wp2
  go_loopw [8] (fun i wr => ∃ k : Nat, k ≤ L.length ∧ i = .int .i64 k ∧ Kp No w wr ∧ ((L.take k).all fun f => f.may m) = true) (fun i _ => L.length - (intOf i).toNat)
  case atStart => exact ⟨0, Nat.zero_le _, rfl, Kp.refl _ _, by simp⟩
  case round =>
    obtain ⟨k, hk, rfl, hK, hF⟩ := hrel
    have HF := Lib.hid hF; have HK := Lib.hid hK; clear hF hK
    by_cases hlt : k < L.length
    · have hk0 : (0 : Int) ≤ (k : Int) := by omega
      have hk1 : (k : Int) < (L.length : Int) := by omega
      obtain ⟨g', c', v, e1, c0, c1, c2, hfl⟩ := (HV.out.no HK.out).at_ hlt
      injection e1 with e1 _ e1c
      subst e1 e1c
      have HT := Lib.hid (all_takeF (fun f => f.may m) hlt)
      have HN := Lib.hid (show (L[k]).may m = false → (L.all fun f => f.may m) = false from fun h => by
        rw [Bool.eq_false_iff]; intro ha
        have := List.all_eq_true.1 ha _ (List.getElem_mem hlt)
        rw [h] at this; cases this)
      have pv := valid1_any v L[k] g m sv wr hfl (HM.out.no HK.out) HSH.out
      generalize L[k] = fl at *
      clear hfl
      go_wp2_with fail
      refine pv.mono ?_
      rintro e w' ⟨rfl, k2⟩
      have HK2 := Lib.hid (HK.out.trans k2)
      clear pv k2
      cases hok : fl.may m with
      | false =>
        have HO := Lib.hid hok; clear hok
        go_wp2
        go_ret
        exact ⟨⟨k, rfl, by rw [HN.out HO.out]; simp⟩, HK2.out⟩
      | true =>
        have HO := Lib.hid hok; clear hok
        go_wp2
        go_roundw
        case rel => exact ⟨k + 1, by omega, by go_num, HK2.out, by rw [HT.out, HF.out, HO.out]; rfl⟩
        case measure => simp [intOf]; omega
    · have hk' : k = L.length := by omega
      have hall : (L.all fun f => f.may m) = true := by have := HF.out; rwa [hk', List.take_length] at this
      have HA := Lib.hid hall; clear hall hk'
      have hk1 : ¬ (k : Int) < (L.length : Int) := by omega
      go_wp2
      go_ret
      exact ⟨⟨-1, rfl, by rw [HA.out]; rfl⟩, HK.out⟩
theorem containsFld_any (A : Option Addr) (c B : Nat) (L : List Fld) (g : Nat) (m : Msg) (sv : Value) (w : World) (hv : FsAt w B (.slice A L.length c) L) (hl : L.length ≤ 1000) (hm : MsgB w g m sv) (hs : Short maxLen m) :
    Calls Try.prog 20 #[.slice A L.length c, .func (.func 21) #[] #[.pointer (some ⟨g, 0, none⟩)]] w fun e w' => e = .returned (.bool (!(L.all fun f => f.may m))) ∧ Kp No w w' := by
  have pi := indexFld_any A c B L g m sv w hv hl hm hs
  clear hv hm hs
  go_enter Try.func20, Try.ntmps20
  go_wp2_with fail
  refine pi.mono ?_
  rintro e w' ⟨⟨r, rfl, hr⟩, k2⟩
  have HR := Lib.hid hr; have HK := Lib.hid k2; clear hr k2 pi
  go_wp2
  go_ret
  exact ⟨ret_bool rfl HR.out, HK.out⟩
end Go.Proofs.Ytbnpdghfbiacaaa
