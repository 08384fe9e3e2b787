/- RepliesOnce: no request is told New twice, and whoever asks again is told the answer that was kept, for every list of requests. No condition. -/
import Derived.Test.YtaipbikbapjmjaaGreatB17
import Derived.Test.YtaipbikbapjmjaaGreatB18
import Derived.IntWalk
import Derived.Deep.QuietTactic
import Derived.BigQuiet
import Derived.ProofKit
import Derived.OpenShut
import Derived.ShutString
import Derived.ChangeOld
import Derived.SizedLaws
import Derived.Below
namespace Go.Proofs.YtaipbikbapjmjaaGreat.repliesOnce
open Go.ChangeShapes Go.WideShapes Go.ChangeAt Go.RowKit
open Go.ChangeMaps (open_string shut_string)

theorem own : ownKnob Tryz.prog.godebug = none := by kernel_rfl
theorem laidOut : laidOutB Tryz.prog = true := by kernel_rfl
theorem zeroAk : (Tryz.prog.info? 55).map (fun i => (i.zero, i.size, i.bytes)) = some (some (.agg #[.int .i64 0, .int .i64 0, .int .i64 0, .int .i64 0]), 4, 32) := by kernel_rfl
set_option maxRecDepth 100000 in
set_option maxHeartbeats 8000000 in
theorem walk (v : Value) (l : List Ak) (W : World) (hl : ArgAk W v l) (hs : l.length * 32 ≤ reachBytes) : Calls Tryz.prog 5 #[v] W fun e w' => e = .returned (.bool true) ∧ Below W.heap.size W w' := by
  obtain ⟨A, c, rfl, hc, hat⟩ := hl
  have hln : l.length ≤ 4398046511103 := by unfold reachBytes at hs; omega
  have HAT := Lib.hid hat
  clear hat hs
  go_enter Tryz.func5, Tryz.ntmps5
  go_wp2_with fail
  refine (awake_any _).mono ?_
  rintro e wa ⟨rfl, ka⟩
  go_wp2_with fail
  refine (rnew_any _).mono ?_
  rintro e w0 ⟨rfl, hb0, k0⟩
  have HR0 := Lib.hid (rpB_new hb0)
  have HK0 := Lib.hid (ka.trans k0)
  have HBW := Lib.hid (show W.heap.size ≤ wa.heap.size from ka.size)
  clear ka k0 hb0
  generalize wa.heap.size = b at *
  go_wp2
  go_loopw [4, 19] (fun dv i wr => ∃ (k : Nat) (d : List Ak) (ps : List Pc) (cs : List Cl), k ≤ l.length ∧ k ≤ 301 ∧ i = .int .i64 k ∧ d.length ≤ k ∧ wr.ownsRow W.heap.size 55 4 dv d.length (akL d) ∧ RpB wr b (fun _ => True) ps ∧ St ps cs ∧ InvO cs d k ∧ Kp No W wr) (fun _ i _ => l.length - (intOf i).toNat)
  case atStart => exact ⟨0, [], _, _, Nat.zero_le _, Nat.zero_le _, rfl, Nat.zero_le _, nil_own _ _ _ _, HR0.out, St.init, InvO.init, HK0.out⟩
  case round =>
  obtain ⟨k, d, ps, cs, hk, hk3, rfl, hd, ho, hr, hst, hinv, hkp⟩ := hrel
  clear HR0 HK0
  have HR := Lib.hid hr; have HST := Lib.hid hst; have HINV := Lib.hid hinv; have HK := Lib.hid hkp; have HO := Lib.hid ho
  clear hr hst hinv hkp ho
  by_cases hlt : k < l.length
  · obtain ⟨g, o, rfl, hg, hrow⟩ := HAT.out (fun e => by rw [e] at hlt; simp at hlt)
    obtain ⟨hI, hrg⟩ := hrow k hlt
    obtain ⟨x, hx⟩ : ∃ x, x = l[k] := ⟨_, rfl⟩
    rw [← hx] at hI hrg
    clear hx
    have hrr := range_kp hrg HK.out (fun m => m)
    have c0 : wr.cell? ⟨g, o + k * 4, none⟩ = some (.int .i64 x.frm) := hrr 0 _ rfl
    have c1 : wr.cell? ⟨g, o + k * 4 + 1, none⟩ = some (.int .i64 x.boot) := hrr 1 _ rfl
    have c2 : wr.cell? ⟨g, o + k * 4 + 2, none⟩ = some (.int .i64 x.seq) := hrr 2 _ rfl
    have c3 : wr.cell? ⟨g, o + k * 4 + 3, none⟩ = some (.int .i64 x.low) := hrr 3 _ rfl
    have hk0 : (0 : Int) ≤ (k : Int) := by omega
    have hk1 : (k : Int) < (l.length : Int) := by omega
    clear hrr hrg hrow
    by_cases h300 : 300 < k
    · have d300 : (300 : Int) < (k : Int) := by omega
      go_wp2
      go_ret
      exact ⟨rfl, (HK.out.alloc _).below (Nat.le_refl _) fun _ _ m => m⟩
    · have d300 : ¬ (300 : Int) < (k : Int) := by omega
      have HX6 := Lib.hid (show Bk ((((wr.alloc (.cells #[.int .i64 x.frm, .int .i64 x.boot, .int .i64 x.seq, .int .i64 x.low] 55)).alloc (.cells #[.int .i64 1, .int .i64 x.frm, .int .i64 ((x.frm.tmod 8 + 9) % 8), .int .i64 x.boot, .int .i64 x.seq, .int .i64 x.low, .int .i64 3, .string ⟨#[]⟩, .int .i64 0, .int .i64 0, .int .i64 5, .bool false, .int .i64 0, .slice none 0 0, .int .i64 0, .int .i64 0] 32)).alloc (.cells #[.int .i64 ((k : Int) + 1)] 3)).alloc (.cells #[.int .i64 2, .int .i64 ((x.frm.tmod 8 + 9) % 8), .int .i64 x.frm, .int .i64 x.boot, .int .i64 x.seq, .int .i64 0, .int .i64 0, .string ⟨#[]⟩, .int .i64 0, .int .i64 9, .int .i64 ((k : Int) + 1), .bool false, .int .i64 0, .slice (some ⟨wr.heap.size + 1 + 1, 0, none⟩) 1 1, .int .i64 0, .int .i64 0] 32)) wr.heap.size 55 (akC x) from (((Bk.new' rfl rfl).alloc _).alloc _).alloc _)
      have HX7 := Lib.hid (show Bk ((((wr.alloc (.cells #[.int .i64 x.frm, .int .i64 x.boot, .int .i64 x.seq, .int .i64 x.low] 55)).alloc (.cells #[.int .i64 1, .int .i64 x.frm, .int .i64 ((x.frm.tmod 8 + 9) % 8), .int .i64 x.boot, .int .i64 x.seq, .int .i64 x.low, .int .i64 3, .string ⟨#[]⟩, .int .i64 0, .int .i64 0, .int .i64 5, .bool false, .int .i64 0, .slice none 0 0, .int .i64 0, .int .i64 0] 32)).alloc (.cells #[.int .i64 ((k : Int) + 1)] 3)).alloc (.cells #[.int .i64 2, .int .i64 ((x.frm.tmod 8 + 9) % 8), .int .i64 x.frm, .int .i64 x.boot, .int .i64 x.seq, .int .i64 0, .int .i64 0, .string ⟨#[]⟩, .int .i64 0, .int .i64 9, .int .i64 ((k : Int) + 1), .bool false, .int .i64 0, .slice (some ⟨wr.heap.size + 1 + 1, 0, none⟩) 1 1, .int .i64 0, .int .i64 0] 32)) (wr.heap.size + 1) 32 (mcells (onceM x) (.slice none 0 0)) from ((Bk.new' (by simp) rfl).alloc _).alloc _)
      have HX3 := Lib.hid (show Bk ((((wr.alloc (.cells #[.int .i64 x.frm, .int .i64 x.boot, .int .i64 x.seq, .int .i64 x.low] 55)).alloc (.cells #[.int .i64 1, .int .i64 x.frm, .int .i64 ((x.frm.tmod 8 + 9) % 8), .int .i64 x.boot, .int .i64 x.seq, .int .i64 x.low, .int .i64 3, .string ⟨#[]⟩, .int .i64 0, .int .i64 0, .int .i64 5, .bool false, .int .i64 0, .slice none 0 0, .int .i64 0, .int .i64 0] 32)).alloc (.cells #[.int .i64 ((k : Int) + 1)] 3)).alloc (.cells #[.int .i64 2, .int .i64 ((x.frm.tmod 8 + 9) % 8), .int .i64 x.frm, .int .i64 x.boot, .int .i64 x.seq, .int .i64 0, .int .i64 0, .string ⟨#[]⟩, .int .i64 0, .int .i64 9, .int .i64 ((k : Int) + 1), .bool false, .int .i64 0, .slice (some ⟨wr.heap.size + 1 + 1, 0, none⟩) 1 1, .int .i64 0, .int .i64 0] 32)) (wr.heap.size + 1 + 1) 3 [.int .i64 ((k : Int) + 1)] from (Bk.new' (by simp) rfl).alloc _)
      have HX8 := Lib.hid (show Bk ((((wr.alloc (.cells #[.int .i64 x.frm, .int .i64 x.boot, .int .i64 x.seq, .int .i64 x.low] 55)).alloc (.cells #[.int .i64 1, .int .i64 x.frm, .int .i64 ((x.frm.tmod 8 + 9) % 8), .int .i64 x.boot, .int .i64 x.seq, .int .i64 x.low, .int .i64 3, .string ⟨#[]⟩, .int .i64 0, .int .i64 0, .int .i64 5, .bool false, .int .i64 0, .slice none 0 0, .int .i64 0, .int .i64 0] 32)).alloc (.cells #[.int .i64 ((k : Int) + 1)] 3)).alloc (.cells #[.int .i64 2, .int .i64 ((x.frm.tmod 8 + 9) % 8), .int .i64 x.frm, .int .i64 x.boot, .int .i64 x.seq, .int .i64 0, .int .i64 0, .string ⟨#[]⟩, .int .i64 0, .int .i64 9, .int .i64 ((k : Int) + 1), .bool false, .int .i64 0, .slice (some ⟨wr.heap.size + 1 + 1, 0, none⟩) 1 1, .int .i64 0, .int .i64 0] 32)) (wr.heap.size + 1 + 1 + 1) 32 (mcells (markM k x) (.slice (some ⟨wr.heap.size + 1 + 1, 0, none⟩) 1 1)) from Bk.new' (by simp) rfl)
      have HKW := Lib.hid (show Kp No wr ((((wr.alloc (.cells #[.int .i64 x.frm, .int .i64 x.boot, .int .i64 x.seq, .int .i64 x.low] 55)).alloc (.cells #[.int .i64 1, .int .i64 x.frm, .int .i64 ((x.frm.tmod 8 + 9) % 8), .int .i64 x.boot, .int .i64 x.seq, .int .i64 x.low, .int .i64 3, .string ⟨#[]⟩, .int .i64 0, .int .i64 0, .int .i64 5, .bool false, .int .i64 0, .slice none 0 0, .int .i64 0, .int .i64 0] 32)).alloc (.cells #[.int .i64 ((k : Int) + 1)] 3)).alloc (.cells #[.int .i64 2, .int .i64 ((x.frm.tmod 8 + 9) % 8), .int .i64 x.frm, .int .i64 x.boot, .int .i64 x.seq, .int .i64 0, .int .i64 0, .string ⟨#[]⟩, .int .i64 0, .int .i64 9, .int .i64 ((k : Int) + 1), .bool false, .int .i64 0, .slice (some ⟨wr.heap.size + 1 + 1, 0, none⟩) 1 1, .int .i64 0, .int .i64 0] 32)) from ((((Kp.refl No wr).alloc _).alloc _).alloc _).alloc _)
      have t1 : -8 < x.frm.tmod 8 := Int.lt_tmod_of_pos _ (by omega)
      have t2 : x.frm.tmod 8 < 8 := Int.tmod_lt_of_pos _ (by omega)
      obtain ⟨I1, I2, I3, I4⟩ := hI
      obtain ⟨Ad, cd, rfl, hcd⟩ := own_len HO.out
      have pq : Calls Tryz.prog 13 #[.pointer (some ⟨b, 0, none⟩), (.agg #[.int .i64 1, .int .i64 x.frm, .int .i64 ((x.frm.tmod 8 + 9) % 8), .int .i64 x.boot, .int .i64 x.seq, .int .i64 x.low, .int .i64 3, .string ⟨#[]⟩, .int .i64 0, .int .i64 0, .int .i64 5, .bool false, .int .i64 0, .slice none 0 0, .int .i64 0, .int .i64 0] : Value)] ((((wr.alloc (.cells #[.int .i64 x.frm, .int .i64 x.boot, .int .i64 x.seq, .int .i64 x.low] 55)).alloc (.cells #[.int .i64 1, .int .i64 x.frm, .int .i64 ((x.frm.tmod 8 + 9) % 8), .int .i64 x.boot, .int .i64 x.seq, .int .i64 x.low, .int .i64 3, .string ⟨#[]⟩, .int .i64 0, .int .i64 0, .int .i64 5, .bool false, .int .i64 0, .slice none 0 0, .int .i64 0, .int .i64 0] 32)).alloc (.cells #[.int .i64 ((k : Int) + 1)] 3)).alloc (.cells #[.int .i64 2, .int .i64 ((x.frm.tmod 8 + 9) % 8), .int .i64 x.frm, .int .i64 x.boot, .int .i64 x.seq, .int .i64 0, .int .i64 0, .string ⟨#[]⟩, .int .i64 0, .int .i64 9, .int .i64 ((k : Int) + 1), .bool false, .int .i64 0, .slice (some ⟨wr.heap.size + 1 + 1, 0, none⟩) 1 1, .int .i64 0, .int .i64 0] 32)) (SeenR ((((wr.alloc (.cells #[.int .i64 x.frm, .int .i64 x.boot, .int .i64 x.seq, .int .i64 x.low] 55)).alloc (.cells #[.int .i64 1, .int .i64 x.frm, .int .i64 ((x.frm.tmod 8 + 9) % 8), .int .i64 x.boot, .int .i64 x.seq, .int .i64 x.low, .int .i64 3, .string ⟨#[]⟩, .int .i64 0, .int .i64 0, .int .i64 5, .bool false, .int .i64 0, .slice none 0 0, .int .i64 0, .int .i64 0] 32)).alloc (.cells #[.int .i64 ((k : Int) + 1)] 3)).alloc (.cells #[.int .i64 2, .int .i64 ((x.frm.tmod 8 + 9) % 8), .int .i64 x.frm, .int .i64 x.boot, .int .i64 x.seq, .int .i64 0, .int .i64 0, .string ⟨#[]⟩, .int .i64 0, .int .i64 9, .int .i64 ((k : Int) + 1), .bool false, .int .i64 0, .slice (some ⟨wr.heap.size + 1 + 1, 0, none⟩) 1 1, .int .i64 0, .int .i64 0] 32)) b (fun _ => True) ps (onceM x)) :=
        rseen_any b (fun _ => True) ps (onceM x) (.slice none 0 0) _ (HR.out.no HKW.out) (SlI.nil _ _ _) (small_rng15 (by simp [onceM, onceTo]; omega) rfl) ⟨by simp [onceM, maxLen], by simp [onceM, maxLen]⟩
      have HAT4 := Lib.hid (HR.out.no HKW.out).at_
      have HO4 := Lib.hid (own_kp HO.out HKW.out fun _ _ m => m)
      have HST5 := Lib.hid (HST.out.seen (onceM x)); have HINV0 := Lib.hid HINV.out; have HSTL := Lib.hid HST.out.lc; have HIN5 := Lib.hid (HINV.out.seen HST.out.lc (onceM x))
      have HND := Lib.hid (show ∀ q, (Value.slice Ad d.length cd).ownBlock = some q → q ≠ wr.heap.size from fun q e => by
        obtain ⟨cs, hb⟩ := own_bk HO.out q e
        have := hb.lt
        omega)
      clear HO HR
      go_upto_region 11 with (fail)
      go_wp2_with fail
      clear c0 c1 c2 c3
      refine pq.mono ?_
      rintro e w5 hsr
      unfold SeenR at hsr
      obtain ⟨hr5, k5, sv5, rfl, ho5⟩ := hsr
      clear pq
      have HNB : Hid (∀ q t cs, Bk ((((wr.alloc (.cells #[.int .i64 x.frm, .int .i64 x.boot, .int .i64 x.seq, .int .i64 x.low] 55)).alloc (.cells #[.int .i64 1, .int .i64 x.frm, .int .i64 ((x.frm.tmod 8 + 9) % 8), .int .i64 x.boot, .int .i64 x.seq, .int .i64 x.low, .int .i64 3, .string ⟨#[]⟩, .int .i64 0, .int .i64 0, .int .i64 5, .bool false, .int .i64 0, .slice none 0 0, .int .i64 0, .int .i64 0] 32)).alloc (.cells #[.int .i64 ((k : Int) + 1)] 3)).alloc (.cells #[.int .i64 2, .int .i64 ((x.frm.tmod 8 + 9) % 8), .int .i64 x.frm, .int .i64 x.boot, .int .i64 x.seq, .int .i64 0, .int .i64 0, .string ⟨#[]⟩, .int .i64 0, .int .i64 9, .int .i64 ((k : Int) + 1), .bool false, .int .i64 0, .slice (some ⟨wr.heap.size + 1 + 1, 0, none⟩) 1 1, .int .i64 0, .int .i64 0] 32)) q t cs → t ≠ 69 → ¬ One b q) := Lib.hid fun q t cs hb ht e => by
        have e : q = b := e
        subst e
        obtain ⟨cs2, h2⟩ := HAT4.out
        exact hb.ne_ h2 ht rfl
      have HX6' := Lib.hid (HX6.out.kp k5 (HNB.out _ _ _ HX6.out (by decide)))
      have HX7' := Lib.hid (HX7.out.kp k5 (HNB.out _ _ _ HX7.out (by decide)))
      have HX3' := Lib.hid (HX3.out.kp k5 (HNB.out _ _ _ HX3.out (by decide)))
      have HX8' := Lib.hid (HX8.out.kp k5 (HNB.out _ _ _ HX8.out (by decide)))
      have HO5 := Lib.hid (own_kp HO4.out k5 fun q e => by
        obtain ⟨cs, hb⟩ := own_bk HO4.out q e
        exact HNB.out _ _ _ hb (by decide))
      have HK5 := Lib.hid ((HK.out.trans HKW.out).then_ k5 fun j hj e => by have e : j = b := e; have := HBW.out; omega)
      have HR5 := Lib.hid hr5
      have HSV := Lib.hid (own_argI ho5)
      obtain ⟨A5, c5, rfl, _⟩ := own_len ho5
      clear HX6 HX7 HX3 HX8 HAT4 HO4 HNB hr5 k5 ho5 HK HKW HST HINV
      generalize hsn : seenP ps (onceM x) = sn at *
      obtain ⟨ps5, v5, a5⟩ := sn
      clear hsn
      simp only at HST5 HR5 HSV
      go_upto_region 12 with (refine wpList_store_mid rfl _ _ _ rfl w5.heap.size 0 (mcells a5 (.slice A5 a5.stamp.length c5)).toArray rfl rfl (msg_there _ _ _) (msg_info _ _) (msg_one _ _ _ _) ?_)
      have g6 := msg_store w5 a5 A5 a5.stamp.length c5
      generalize hw6 : World.setCells _ w5.heap.size 0 _ = w6
      rw [show (w5.alloc (.cells #[.int .i64 0, .int .i64 0, .int .i64 0, .int .i64 0, .int .i64 0, .int .i64 0, .int .i64 0, .string ⟨#[]⟩, .int .i64 0, .int .i64 0, .int .i64 0, .bool false, .int .i64 0, .slice none 0 0, .int .i64 0, .int .i64 0] 32)).setCells w5.heap.size 0 (mcells a5 (.slice A5 a5.stamp.length c5)) = w6 from hw6] at g6
      clear hw6
      obtain ⟨b6, k6⟩ := g6
      have HX10 := Lib.hid b6
      have HX6 := Lib.hid (HX6'.out.no k6); have HX7 := Lib.hid (HX7'.out.no k6); have HX8 := Lib.hid (HX8'.out.no k6); have HX3 := Lib.hid (HX3'.out.no k6)
      have HO6 := Lib.hid (own_kp HO5.out k6 fun _ _ m => m); have HK6 := Lib.hid (HK5.out.trans k6); have HR6 := Lib.hid (HR5.out.no k6); have HSV6 := Lib.hid (HSV.out.no k6)
      clear b6 k6 HX6' HX7' HX8' HX3' HO5 HK5 HR5 HSV
      obtain ⟨wo, hwo⟩ : ∃ wo : World, wo = wr := ⟨_, rfl⟩
      subst hwo
      have hdl : (d.length : Int) ≤ 301 := by omega
      go_wp2
      go_loopw [11, 62] (fun t i wq => ∃ j : Nat, j ≤ d.length ∧ i = .int .i64 j ∧ t = .int .i64 (atK d x j) ∧ Kp No w6 wq) (fun _ i _ => d.length - (intOf i).toNat)
      case atStart => exact ⟨0, Nat.zero_le _, rfl, rfl, Kp.refl _ _⟩
      case round =>
      obtain ⟨j, hj, rfl, rfl, hkq⟩ := hrel
      have HKQ := Lib.hid hkq; clear hkq
      by_cases hjl : j < d.length
      · have hkq := HKQ.out
        obtain ⟨gd, cd2, ed, _, hrd⟩ := own_ak HO6.out hjl
        injection ed with ed _ ed2
        subst ed; subst ed2
        have hrd := range_kp hrd hkq (fun m => m)
        obtain ⟨y, hy⟩ : ∃ y, y = d[j] := ⟨_, rfl⟩
        rw [← hy] at hrd
        have HSTP := Lib.hid (show atK d x (j + 1) = if likeA y x then (j : Int) else atK d x j by
          conv => lhs; unfold atK
          rw [List.getD_eq_getElem?_getD, List.getElem?_eq_getElem hjl, Option.getD_some, hy])
        clear hy
        have c0 : wr.cell? ⟨gd, j * 4, none⟩ = some (.int .i64 y.frm) := hrd 0 _ rfl
        have c1 : wr.cell? ⟨gd, j * 4 + 1, none⟩ = some (.int .i64 y.boot) := hrd 1 _ rfl
        have c2 : wr.cell? ⟨gd, j * 4 + 2, none⟩ = some (.int .i64 y.seq) := hrd 2 _ rfl
        have c3 : wr.cell? ⟨gd, j * 4 + 3, none⟩ = some (.int .i64 y.low) := hrd 3 _ rfl
        have hx6 := HX6.out.no hkq
        have x0 : wr.cell? ⟨wo.heap.size, 0, none⟩ = some (.int .i64 x.frm) := hx6.cell 0
        have x1 : wr.cell? ⟨wo.heap.size, 1, none⟩ = some (.int .i64 x.boot) := hx6.cell 1
        have x2 : wr.cell? ⟨wo.heap.size, 2, none⟩ = some (.int .i64 x.seq) := hx6.cell 2
        have hxl := hx6.lt
        have hj0 : (0 : Int) ≤ (j : Int) := by omega
        have hj1 : (j : Int) < (d.length : Int) := by omega
        clear hrd hx6 hkq
        by_cases e0 : y.frm = x.frm
        · have f0 : (y.frm == x.frm) = true := beq_iff_eq.2 e0
          by_cases e1 : y.boot = x.boot
          · have f1 : (y.boot == x.boot) = true := beq_iff_eq.2 e1
            by_cases e2 : y.seq = x.seq
            · have f2 : (y.seq == x.seq) = true := beq_iff_eq.2 e2
              have HS2 := Lib.hid (show atK d x (j + 1) = j by rw [HSTP.out, if_pos ⟨e0, e1, e2⟩])
              clear e0 e1 e2
              go_wp2
              go_roundw
              case rel => exact ⟨j + 1, by omega, by go_num, by rw [HS2.out], HKQ.out.alloc _⟩
              case measure => simp [intOf]; omega
            · have f2 : (y.seq == x.seq) = false := by rw [beq_eq_false_iff_ne]; exact e2
              have HS2 := Lib.hid (show atK d x (j + 1) = atK d x j by rw [HSTP.out, if_neg fun h => e2 h.2.2])
              clear e0 e1 e2
              go_wp2
              go_roundw
              case rel => exact ⟨j + 1, by omega, by go_num, by rw [HS2.out], HKQ.out.alloc _⟩
              case measure => simp [intOf]; omega
          · have f1 : (y.boot == x.boot) = false := by rw [beq_eq_false_iff_ne]; exact e1
            have HS2 := Lib.hid (show atK d x (j + 1) = atK d x j by rw [HSTP.out, if_neg fun h => e1 h.2.1])
            clear e0 e1
            go_wp2
            go_roundw
            case rel => exact ⟨j + 1, by omega, by go_num, by rw [HS2.out], HKQ.out.alloc _⟩
            case measure => simp [intOf]; omega
        · have f0 : (y.frm == x.frm) = false := by rw [beq_eq_false_iff_ne]; exact e0
          have HS2 := Lib.hid (show atK d x (j + 1) = atK d x j by rw [HSTP.out, if_neg fun h => e0 h.1])
          clear e0
          go_wp2
          go_roundw
          case rel => exact ⟨j + 1, by omega, by go_num, by rw [HS2.out], HKQ.out.alloc _⟩
          case measure => simp [intOf]; omega
      have hje : j = d.length := by omega
      have hj1 : ¬ (j : Int) < (d.length : Int) := by omega
      have HAK := Lib.hid (show atK d x j = atK d x d.length by rw [hje])
      have hkq := HKQ.out
      have Y6 := Lib.hid (HX6.out.no hkq); have Y7 := Lib.hid (HX7.out.no hkq); have Y8 := Lib.hid (HX8.out.no hkq); have Y3 := Lib.hid (HX3.out.no hkq); have Y10 := Lib.hid (HX10.out.no hkq)
      have OY := Lib.hid (own_kp HO6.out hkq fun _ _ m => m); have KY := Lib.hid (HK6.out.trans hkq); have RY := Lib.hid (HR6.out.no hkq); have SY := Lib.hid (HSV6.out.no hkq)
      have hi1 : Hid ((Tryz.prog.info? 32).map (·.size) = some (mcells (onceM x) (.slice none 0 0)).length) := Lib.hid (by kernel_rfl)
      have HUH := Lib.hid (Tryz.underlying32)
      have HRG := Lib.hid (range_of Y7.out)
      have pv := valid10_any (onceM x) (.slice none 0 0) wr (SlI.nil _ _ _) (small_rng15 (by simp [onceM, onceTo]; omega) rfl) ⟨by simp [onceM, maxLen], by simp [onceM, maxLen]⟩
      generalize hD : (mcells (onceM x) (.slice none 0 0)) = D at pv HRG hi1
      clear hD hkq HX6 HX7 HX8 HX3 HX10 HO6 HK6 HR6 HSV6 HKQ
      have HSTS := Lib.hid (seen_state cs (onceM x))
      by_cases hm : mayS vpP (onceM x)
      · rw [decide_eq_true hm] at pv
        have HM := Lib.hid hm; clear hm
        have hcase := HSTS.out
        have hst5 := HST5.out
        rcases hcase with ⟨_, he⟩ | ⟨_, _, cc, _, _, ⟨_, he⟩ | ⟨_, _, ⟨aa, _, he⟩ | ⟨_, he⟩⟩⟩
        · as_aux_lemma =>
          rw [he] at hst5
          obtain ⟨hs5, he5⟩ := hst5
          have ev : v5 = 1 := congrArg Prod.fst he5
          have ea : a5 = {} := congrArg Prod.snd he5
          subst ev
          have HST6 := Lib.hid hs5
          subst ea
          clear he he5 hs5 HSTS
          go_wp2_with (refine wpList_load_mid rfl _ _ rfl (wo.heap.size + 1) 0 rfl D _ HRG.out HUH.out rfl hi1.out ?_)
          refine pv.mono ?_
          rintro e w7 ⟨rfl, k7⟩
          have Z6 := Lib.hid (Y6.out.no k7); have Z7 := Lib.hid (Y7.out.no k7); have Z8 := Lib.hid (Y8.out.no k7); have Z3 := Lib.hid (Y3.out.no k7); have Z10 := Lib.hid (Y10.out.no k7)
          have OZ := Lib.hid (own_kp OY.out k7 fun _ _ m => m); have KZ := Lib.hid (KY.out.trans k7); have RZ := Lib.hid (RY.out.no k7); have SZ := Lib.hid (SY.out.no k7)
          clear k7 pv Y6 Y7 Y8 Y3 Y10 OY KY RY SY HRG hi1 HUH
          have z0 : w7.cell? ⟨w5.heap.size, 0, none⟩ = some (.int .i64 0) := Z10.out.cell 0
          have hle := lenP_le HST6.out x.frm
          have pl := rlen_any b (fun _ => True) ps5 x.frm w7 RZ.out
          have x0 : w7.cell? ⟨wo.heap.size, 0, none⟩ = some (.int .i64 x.frm) := Z6.out.cell 0
          generalize lenP ps5 x.frm = LN at *
          have hle2 : ((LN : Nat) : Int) ≤ 8 := by omega
          go_wp2_with fail
          refine pl.mono ?_
          rintro e w9 ⟨rfl, k9⟩
          have O9 := Lib.hid (own_kp OZ.out k9 fun _ _ m => m); have K9 := Lib.hid (KZ.out.trans k9); have R9 := Lib.hid (RZ.out.no k9)
          clear k9 x0 pl
          go_wp2
          go_roundw
          case rel => exact ⟨k + 1, d, ps5, _, by omega, by omega, by go_num, by omega, O9.out, R9.out, HST6.out, (HIN5.out.mono (by omega : (k : Int) ≤ ((k + 1 : Nat) : Int))), K9.out⟩
          case measure => simp [intOf]; omega
        · as_aux_lemma =>
          rw [he] at hst5
          obtain ⟨hs5, he5⟩ := hst5
          have ev : v5 = 1 := congrArg Prod.fst he5
          have ea : a5 = {} := congrArg Prod.snd he5
          subst ev
          have HST6 := Lib.hid hs5
          subst ea
          clear he he5 hs5 HSTS
          go_wp2_with (refine wpList_load_mid rfl _ _ rfl (wo.heap.size + 1) 0 rfl D _ HRG.out HUH.out rfl hi1.out ?_)
          refine pv.mono ?_
          rintro e w7 ⟨rfl, k7⟩
          have Z6 := Lib.hid (Y6.out.no k7); have Z7 := Lib.hid (Y7.out.no k7); have Z8 := Lib.hid (Y8.out.no k7); have Z3 := Lib.hid (Y3.out.no k7); have Z10 := Lib.hid (Y10.out.no k7)
          have OZ := Lib.hid (own_kp OY.out k7 fun _ _ m => m); have KZ := Lib.hid (KY.out.trans k7); have RZ := Lib.hid (RY.out.no k7); have SZ := Lib.hid (SY.out.no k7)
          clear k7 pv Y6 Y7 Y8 Y3 Y10 OY KY RY SY HRG hi1 HUH
          have z0 : w7.cell? ⟨w5.heap.size, 0, none⟩ = some (.int .i64 0) := Z10.out.cell 0
          have hle := lenP_le HST6.out x.frm
          have pl := rlen_any b (fun _ => True) ps5 x.frm w7 RZ.out
          have x0 : w7.cell? ⟨wo.heap.size, 0, none⟩ = some (.int .i64 x.frm) := Z6.out.cell 0
          generalize lenP ps5 x.frm = LN at *
          have hle2 : ((LN : Nat) : Int) ≤ 8 := by omega
          go_wp2_with fail
          refine pl.mono ?_
          rintro e w9 ⟨rfl, k9⟩
          have O9 := Lib.hid (own_kp OZ.out k9 fun _ _ m => m); have K9 := Lib.hid (KZ.out.trans k9); have R9 := Lib.hid (RZ.out.no k9)
          clear k9 x0 pl
          go_wp2
          go_roundw
          case rel => exact ⟨k + 1, d, ps5, _, by omega, by omega, by go_num, by omega, O9.out, R9.out, HST6.out, (HIN5.out.mono (by omega : (k : Int) ≤ ((k + 1 : Nat) : Int))), K9.out⟩
          case measure => simp [intOf]; omega
        · as_aux_lemma =>
          obtain ⟨jj, hjj, hlk, haa, hat⟩ := HINV0.out.kept HSTL.out x he
          rw [he] at hst5
          obtain ⟨hs5, he5⟩ := hst5
          have ev : v5 = 2 := congrArg Prod.fst he5
          have ea : a5 = aa := congrArg Prod.snd he5
          rw [haa, mark_like hlk] at ea
          obtain ⟨_, b1, b2, _⟩ := HINV0.out.i1 d[jj] (List.getElem_mem hjj)
          subst ev
          subst ea
          have HST6 := Lib.hid hs5
          have ha2 : atK d x j = (jj : Int) := HAK.out.trans hat
          rw [ha2]
          clear he he5 hs5 HSTS hlk haa hat ha2
          go_wp2_with (refine wpList_load_mid rfl _ _ rfl (wo.heap.size + 1) 0 rfl D _ HRG.out HUH.out rfl hi1.out ?_)
          refine pv.mono ?_
          rintro e w7 ⟨rfl, k7⟩
          have Z6 := Lib.hid (Y6.out.no k7); have Z7 := Lib.hid (Y7.out.no k7); have Z8 := Lib.hid (Y8.out.no k7); have Z3 := Lib.hid (Y3.out.no k7); have Z10 := Lib.hid (Y10.out.no k7)
          have OZ := Lib.hid (own_kp OY.out k7 fun _ _ m => m); have KZ := Lib.hid (KY.out.trans k7); have RZ := Lib.hid (RY.out.no k7); have SZ := Lib.hid (SY.out.no k7)
          clear k7 pv Y6 Y7 Y8 Y3 Y10 OY KY RY SY HRG hi1 HUH
          obtain ⟨gd, cd2, ed, _, hrd⟩ := own_ak OZ.out hjj
          injection ed with ed _ ed2
          subst ed; subst ed2
          obtain ⟨y, hy⟩ : ∃ y, y = d[jj] := ⟨_, rfl⟩
          rw [← hy] at hrd b1 b2 Z10 SZ
          clear hy
          have hz := SZ.out
          have hz0 : 0 < (markM y.low x).stamp.length := by simp [markM]
          obtain ⟨ga, oa, ca, ea, hra⟩ := hz.at_ hz0
          clear hz hz0
          injection ea with ea _ ea2
          subst ea; subst ea2
          have s0 : w7.cell? ⟨ga, oa, none⟩ = some (.int .i64 (y.low + 1)) := hra 0 _ rfl
          have y3 : w7.cell? ⟨gd, jj * 4 + 3, none⟩ = some (.int .i64 y.low) := hrd 3 _ rfl
          have z10 : w7.cell? ⟨w5.heap.size, 10, none⟩ = some (.int .i64 (y.low + 1)) := Z10.out.cell 10
          have z13 : w7.cell? ⟨w5.heap.size, 13, none⟩ = some (.slice (some ⟨ga, oa, none⟩) 1 c5) := Z10.out.cell 13
          have z4 : w7.cell? ⟨w5.heap.size, 4, none⟩ = some (.int .i64 x.seq) := Z10.out.cell 4
          have z3 : w7.cell? ⟨w5.heap.size, 3, none⟩ = some (.int .i64 x.boot) := Z10.out.cell 3
          have z2 : w7.cell? ⟨w5.heap.size, 2, none⟩ = some (.int .i64 x.frm) := Z10.out.cell 2
          have x0 : w7.cell? ⟨wo.heap.size, 0, none⟩ = some (.int .i64 x.frm) := Z6.out.cell 0
          have x1 : w7.cell? ⟨wo.heap.size, 1, none⟩ = some (.int .i64 x.boot) := Z6.out.cell 1
          have x2 : w7.cell? ⟨wo.heap.size, 2, none⟩ = some (.int .i64 x.seq) := Z6.out.cell 2
          have hjj0 : (0 : Int) ≤ (jj : Int) := by omega
          have hjj1 : (jj : Int) < (d.length : Int) := by omega
          have hjn : ¬ (jj : Int) < 0 := by omega
          have djn : decide ((jj : Int) < 0) = false := decide_eq_false hjn
          have hwr : IntKind.i64.wrap (y.low + 1) = y.low + 1 := IntWalk.i64_in _ (by omega)
          clear hrd hra
          go_wp2
          go_quiet (fail)
          clear x0 x1 x2 z2 z3 z4 z10 z13 y3 s0
          generalize hq : World.drewN w7 _ = wq
          have kq : Kp No w7 wq := by rw [← hq]; exact (Kp.refl No w7).drewN _
          clear hq
          have V6 := Lib.hid (Z6.out.no kq)
          have OV := Lib.hid (own_kp OZ.out kq fun _ _ m => m); have KV := Lib.hid (KZ.out.trans kq); have RV := Lib.hid (RZ.out.no kq)
          clear kq Z6 Z7 Z8 Z3 Z10 OZ KZ RZ SZ
          have hle := lenP_le HST6.out x.frm
          have pl := rlen_any b (fun _ => True) ps5 x.frm wq RV.out
          have x0 : wq.cell? ⟨wo.heap.size, 0, none⟩ = some (.int .i64 x.frm) := V6.out.cell 0
          generalize lenP ps5 x.frm = LN at *
          have hle2 : ((LN : Nat) : Int) ≤ 8 := by omega
          go_wp2_with fail
          refine pl.mono ?_
          rintro e w9 ⟨rfl, k9⟩
          have O9 := Lib.hid (own_kp OV.out k9 fun _ _ m => m); have K9 := Lib.hid (KV.out.trans k9); have R9 := Lib.hid (RV.out.no k9)
          clear k9 x0 pl
          go_wp2
          go_roundw
          case rel => exact ⟨k + 1, d, ps5, _, by omega, by omega, by go_num, by omega, O9.out, R9.out, HST6.out, (HIN5.out.mono (by omega : (k : Int) ≤ ((k + 1 : Nat) : Int))), K9.out⟩
          case measure => simp [intOf]; omega
        · as_aux_lemma =>
          obtain ⟨hat, hkt, hiv⟩ := HINV0.out.new_ HSTL.out (by omega) (by omega) x (by rw [he])
          rw [he] at hst5
          obtain ⟨hs5, he5⟩ := hst5
          have ev : v5 = 3 := congrArg Prod.fst he5
          have ea : a5 = {} := congrArg Prod.snd he5
          subst ev
          have HST6 := Lib.hid hs5
          subst ea
          have ha2 : atK d x j = -1 := HAK.out.trans hat
          rw [ha2]
          have HST7 := Lib.hid (hs5.keep (onceM x) (markM k x))
          have HKT := Lib.hid hkt; have HIV := Lib.hid hiv
          clear he he5 hs5 HSTS hat ha2 hkt hiv
          go_wp2_with (refine wpList_load_mid rfl _ _ rfl (wo.heap.size + 1) 0 rfl D _ HRG.out HUH.out rfl hi1.out ?_)
          refine pv.mono ?_
          rintro e w7 ⟨rfl, k7⟩
          have Z6 := Lib.hid (Y6.out.no k7); have Z7 := Lib.hid (Y7.out.no k7); have Z8 := Lib.hid (Y8.out.no k7); have Z3 := Lib.hid (Y3.out.no k7); have Z10 := Lib.hid (Y10.out.no k7)
          have OZ := Lib.hid (own_kp OY.out k7 fun _ _ m => m); have KZ := Lib.hid (KY.out.trans k7); have RZ := Lib.hid (RY.out.no k7); have SZ := Lib.hid (SY.out.no k7)
          clear k7 pv Y6 Y7 Y8 Y3 Y10 OY KY RY SY HRG hi1 HUH
          have z0 : w7.cell? ⟨(wo.heap.size + 1), 0, none⟩ = some (.int .i64 1) := Z7.out.cell 0
          have z1 : w7.cell? ⟨(wo.heap.size + 1), 1, none⟩ = some (.int .i64 x.frm) := Z7.out.cell 1
          have z2 : w7.cell? ⟨(wo.heap.size + 1), 2, none⟩ = some (.int .i64 ((x.frm.tmod 8 + 9) % 8)) := Z7.out.cell 2
          have z3 : w7.cell? ⟨(wo.heap.size + 1), 3, none⟩ = some (.int .i64 x.boot) := Z7.out.cell 3
          have z4 : w7.cell? ⟨(wo.heap.size + 1), 4, none⟩ = some (.int .i64 x.seq) := Z7.out.cell 4
          have z5 : w7.cell? ⟨(wo.heap.size + 1), 5, none⟩ = some (.int .i64 x.low) := Z7.out.cell 5
          have z6 : w7.cell? ⟨(wo.heap.size + 1), 6, none⟩ = some (.int .i64 3) := Z7.out.cell 6
          have z7 : w7.cell? ⟨(wo.heap.size + 1), 7, none⟩ = some (.string ⟨#[]⟩) := Z7.out.cell 7
          have z8 : w7.cell? ⟨(wo.heap.size + 1), 8, none⟩ = some (.int .i64 0) := Z7.out.cell 8
          have z9 : w7.cell? ⟨(wo.heap.size + 1), 9, none⟩ = some (.int .i64 0) := Z7.out.cell 9
          have z10 : w7.cell? ⟨(wo.heap.size + 1), 10, none⟩ = some (.int .i64 5) := Z7.out.cell 10
          have z11 : w7.cell? ⟨(wo.heap.size + 1), 11, none⟩ = some (.bool false) := Z7.out.cell 11
          have z12 : w7.cell? ⟨(wo.heap.size + 1), 12, none⟩ = some (.int .i64 0) := Z7.out.cell 12
          have z13 : w7.cell? ⟨(wo.heap.size + 1), 13, none⟩ = some (.slice none 0 0) := Z7.out.cell 13
          have z14 : w7.cell? ⟨(wo.heap.size + 1), 14, none⟩ = some (.int .i64 0) := Z7.out.cell 14
          have z15 : w7.cell? ⟨(wo.heap.size + 1), 15, none⟩ = some (.int .i64 0) := Z7.out.cell 15
          have y0 : w7.cell? ⟨(wo.heap.size + 1 + 1 + 1), 0, none⟩ = some (.int .i64 2) := Z8.out.cell 0
          have y1 : w7.cell? ⟨(wo.heap.size + 1 + 1 + 1), 1, none⟩ = some (.int .i64 ((x.frm.tmod 8 + 9) % 8)) := Z8.out.cell 1
          have y2 : w7.cell? ⟨(wo.heap.size + 1 + 1 + 1), 2, none⟩ = some (.int .i64 x.frm) := Z8.out.cell 2
          have y3 : w7.cell? ⟨(wo.heap.size + 1 + 1 + 1), 3, none⟩ = some (.int .i64 x.boot) := Z8.out.cell 3
          have y4 : w7.cell? ⟨(wo.heap.size + 1 + 1 + 1), 4, none⟩ = some (.int .i64 x.seq) := Z8.out.cell 4
          have y5 : w7.cell? ⟨(wo.heap.size + 1 + 1 + 1), 5, none⟩ = some (.int .i64 0) := Z8.out.cell 5
          have y6 : w7.cell? ⟨(wo.heap.size + 1 + 1 + 1), 6, none⟩ = some (.int .i64 0) := Z8.out.cell 6
          have y7 : w7.cell? ⟨(wo.heap.size + 1 + 1 + 1), 7, none⟩ = some (.string ⟨#[]⟩) := Z8.out.cell 7
          have y8 : w7.cell? ⟨(wo.heap.size + 1 + 1 + 1), 8, none⟩ = some (.int .i64 0) := Z8.out.cell 8
          have y9 : w7.cell? ⟨(wo.heap.size + 1 + 1 + 1), 9, none⟩ = some (.int .i64 9) := Z8.out.cell 9
          have y10 : w7.cell? ⟨(wo.heap.size + 1 + 1 + 1), 10, none⟩ = some (.int .i64 ((k : Int) + 1)) := Z8.out.cell 10
          have y11 : w7.cell? ⟨(wo.heap.size + 1 + 1 + 1), 11, none⟩ = some (.bool false) := Z8.out.cell 11
          have y12 : w7.cell? ⟨(wo.heap.size + 1 + 1 + 1), 12, none⟩ = some (.int .i64 0) := Z8.out.cell 12
          have y13 : w7.cell? ⟨(wo.heap.size + 1 + 1 + 1), 13, none⟩ = some (.slice (some ⟨wo.heap.size + 1 + 1, 0, none⟩) 1 1) := Z8.out.cell 13
          have y14 : w7.cell? ⟨(wo.heap.size + 1 + 1 + 1), 14, none⟩ = some (.int .i64 0) := Z8.out.cell 14
          have y15 : w7.cell? ⟨(wo.heap.size + 1 + 1 + 1), 15, none⟩ = some (.int .i64 0) := Z8.out.cell 15
          have pk : Calls Tryz.prog 10 #[.pointer (some ⟨b, 0, none⟩), (.agg #[.int .i64 1, .int .i64 x.frm, .int .i64 ((x.frm.tmod 8 + 9) % 8), .int .i64 x.boot, .int .i64 x.seq, .int .i64 x.low, .int .i64 3, .string ⟨#[]⟩, .int .i64 0, .int .i64 0, .int .i64 5, .bool false, .int .i64 0, .slice none 0 0, .int .i64 0, .int .i64 0] : Value), (.agg #[.int .i64 2, .int .i64 ((x.frm.tmod 8 + 9) % 8), .int .i64 x.frm, .int .i64 x.boot, .int .i64 x.seq, .int .i64 0, .int .i64 0, .string ⟨#[]⟩, .int .i64 0, .int .i64 9, .int .i64 ((k : Int) + 1), .bool false, .int .i64 0, .slice (some ⟨wo.heap.size + 1 + 1, 0, none⟩) 1 1, .int .i64 0, .int .i64 0] : Value)] w7 (KeepR w7 b (fun _ => True) ps5 (onceM x) (markM k x)) :=
            rkeep_any b (fun _ => True) ps5 (onceM x) (markM k x) (.slice none 0 0) (.slice (some ⟨wo.heap.size + 1 + 1, 0, none⟩) 1 1) _ RZ.out (SlI.nil _ _ _) (small_rng15 (by simp [onceM, onceTo]; omega) rfl) ⟨by simp [onceM, maxLen], by simp [onceM, maxLen]⟩ ⟨_, 1, rfl, Nat.le_refl _, fun _ => ⟨_, 0, _, rfl, Z3.out, range_of Z3.out⟩⟩ (mark_rng (by omega) (by simp [onceTo]; omega) (by omega) (by omega) (by omega)) ⟨by simp [markM, maxLen], by simp [markM, maxLen]⟩
          have HAT7 := Lib.hid RZ.out.at_
          have hd0 : decide ((0 : Int) ≤ -1) = false := by decide
          go_wp2_with fail
          refine pk.mono ?_
          rintro e w8 hkr
          unfold KeepR at hkr
          obtain ⟨hr8, k8, rfl⟩ := hkr
          have hkt : (keepP ps5 (onceM x) (markM k x)).2 = true := HST7.out.2.trans HKT.out
          rw [hkt]
          have hnb : ∀ q t cs, Bk w7 q t cs → t ≠ 69 → ¬ One b q := fun q t cs hb ht e => by
            have e : q = b := e
            subst e
            obtain ⟨cs2, h2⟩ := HAT7.out
            exact hb.ne_ h2 ht rfl
          have V6 := Lib.hid (Z6.out.kp k8 (hnb _ _ _ Z6.out (by decide)))
          have OV := Lib.hid (own_kp OZ.out k8 fun q e => by
            obtain ⟨cs, hb⟩ := own_bk OZ.out q e
            exact hnb _ _ _ hb (by decide))
          have KV := Lib.hid (KZ.out.then_ k8 fun j hj e => by have e : j = b := e; have := HBW.out; omega)
          have RV := Lib.hid (hr8.mono (Q := fun _ => True) fun _ _ => trivial)
          generalize hkp : keepP ps5 (onceM x) (markM k x) = kp at *
          have HS8 := Lib.hid (show St kp.1 _ from HST7.out.1)
          obtain ⟨ps8, okk⟩ := kp
          simp only at RV HS8
          clear hkp hnb pk hkt hr8 k8 HKT HST7 Z7 Z8 Z3 Z10 OZ KZ RZ SZ HAT7 z0 z1 z2 z3 z4 z5 z6 z7 z8 z9 z10 z11 z12 z13 z14 z15 y0 y1 y2 y3 y4 y5 y6 y7 y8 y9 y10 y11 y12 y13 y14 y15
          have x0 : w8.cell? ⟨wo.heap.size, 0, none⟩ = some (.int .i64 x.frm) := V6.out.cell 0
          have x1 : w8.cell? ⟨wo.heap.size, 1, none⟩ = some (.int .i64 x.boot) := V6.out.cell 1
          have x2 : w8.cell? ⟨wo.heap.size, 2, none⟩ = some (.int .i64 x.seq) := V6.out.cell 2
          have hz8 : W.heap.size ≤ w8.heap.size := KV.out.size
          go_upto_region 31 with (at_builtin; refine wpList_app1 _ rfl _ _ 53 rfl W.heap.size 55 _ 4 32 Tryz.underlying53 zeroAk rfl (by omega) _ d.length (akL d) rfl (OV.out.alloc _) _ _ _ rfl (Bk.new' (by simp) rfl) rfl (by simp [Value.oneCell']) (by omega) (by omega) (by simp; omega) ?_; intro g1 cap1 w9 hown1 hk1 hat1)
          have V6b := Lib.hid ((V6.out.alloc _).kp hk1 (fun e => HND.out _ e rfl))
          have hob := OV.out.alloc (.cells #[.int .i64 x.frm, .int .i64 x.boot, .int .i64 x.seq, .int .i64 k] 55)
          have OV9 := Lib.hid (show w9.ownsRow W.heap.size 55 4 (.slice (some ⟨g1, 0, none⟩) (d.length + 1) cap1) (d ++ [(⟨x.frm, x.boot, x.seq, (k : Int)⟩ : Ak)]).length (akL (d ++ [(⟨x.frm, x.boot, x.seq, (k : Int)⟩ : Ak)])) from by
            rw [akL_snoc, List.length_append]; exact hown1)
          have KV9 := Lib.hid (kp_own hob (KV.out.alloc _) hk1)
          have RV9 := Lib.hid ((RV.out.no ((Kp.refl No w8).alloc _)).kp hk1 (fun e => by
            obtain ⟨cs, hb⟩ := own_bk hob b e
            obtain ⟨cs2, h2⟩ := (RV.out.no ((Kp.refl No w8).alloc (.cells #[.int .i64 x.frm, .int .i64 x.boot, .int .i64 x.seq, .int .i64 k] 55))).at_
            exact hb.ne_ h2 (by decide) rfl) (fun q cs hb _ e => by
            obtain ⟨cs2, hb2⟩ := own_bk hob q e
            exact hb.ne_ hb2 (by decide) rfl))
          clear hown1 hk1 hat1 hob x0 x1 x2 V6 OV KV RV
          have hle := lenP_le HS8.out x.frm
          have pl := rlen_any b (fun _ => True) ps8 x.frm w9 RV9.out
          have x0 : w9.cell? ⟨wo.heap.size, 0, none⟩ = some (.int .i64 x.frm) := V6b.out.cell 0
          generalize lenP ps8 x.frm = LN at *
          have hle2 : ((LN : Nat) : Int) ≤ 8 := by omega
          go_wp2_with fail
          refine pl.mono ?_
          rintro e w9 ⟨rfl, k9⟩
          have O9 := Lib.hid (own_kp OV9.out k9 fun _ _ m => m); have K9 := Lib.hid (KV9.out.trans k9); have R9 := Lib.hid (RV9.out.no k9)
          clear k9 x0 pl
          go_wp2
          go_roundw
          case rel => exact ⟨k + 1, d ++ [(⟨x.frm, x.boot, x.seq, (k : Int)⟩ : Ak)], ps8, _, by omega, by omega, by go_num, by simp; omega, O9.out, R9.out, HS8.out, HIV.out, K9.out⟩
          case measure => simp [intOf]; omega
      · rw [decide_eq_false hm] at pv
        have he : (seenS cs (onceM x)).2 = (1, {}) := by
          rcases HSTS.out with ⟨_, he⟩ | ⟨_, h2, _⟩
          · exact he
          · exact absurd h2 hm
        have hst5 := HST5.out
        rw [he] at hst5
        obtain ⟨hs5, he5⟩ := hst5
        have ev : v5 = 1 := congrArg Prod.fst he5
        subst ev
        have HST6 := Lib.hid hs5
        clear hm he he5 hs5 HSTS
        go_wp2_with (refine wpList_load_mid rfl _ _ rfl (wo.heap.size + 1) 0 rfl D _ HRG.out HUH.out rfl hi1.out ?_)
        refine pv.mono ?_
        rintro e w7 ⟨rfl, k7⟩
        have Z6 := Lib.hid (Y6.out.no k7); have Z7 := Lib.hid (Y7.out.no k7); have Z8 := Lib.hid (Y8.out.no k7); have Z3 := Lib.hid (Y3.out.no k7); have Z10 := Lib.hid (Y10.out.no k7)
        have OZ := Lib.hid (own_kp OY.out k7 fun _ _ m => m); have KZ := Lib.hid (KY.out.trans k7); have RZ := Lib.hid (RY.out.no k7); have SZ := Lib.hid (SY.out.no k7)
        clear k7 pv Y6 Y7 Y8 Y3 Y10 OY KY RY SY HRG hi1 HUH
        have hle := lenP_le HST6.out x.frm
        have pl := rlen_any b (fun _ => True) ps5 x.frm w7 RZ.out
        have x0 : w7.cell? ⟨wo.heap.size, 0, none⟩ = some (.int .i64 x.frm) := Z6.out.cell 0
        generalize lenP ps5 x.frm = LN at *
        have hle2 : ((LN : Nat) : Int) ≤ 8 := by omega
        go_wp2_with fail
        refine pl.mono ?_
        rintro e w9 ⟨rfl, k9⟩
        have O9 := Lib.hid (own_kp OZ.out k9 fun _ _ m => m); have K9 := Lib.hid (KZ.out.trans k9); have R9 := Lib.hid (RZ.out.no k9)
        clear k9 x0 pl
        go_wp2
        go_roundw
        case rel => exact ⟨k + 1, d, ps5, _, by omega, by omega, by go_num, by omega, O9.out, R9.out, HST6.out, (HIN5.out.mono (by omega : (k : Int) ≤ ((k + 1 : Nat) : Int))), K9.out⟩
        case measure => simp [intOf]; omega
  · have hk1 : ¬ (k : Int) < (l.length : Int) := by omega
    go_wp2
    go_ret
    exact ⟨rfl, HK.out.below (Nat.le_refl _) fun _ _ m => m⟩

/-! ### The row's step -/
set_option maxRecDepth 100000 in
theorem lifted (os : Os) (started : os.Started) (H : Type) (enc : TypeId × Value → H) :
    ReturnsInHanded {} Tryz.checked os 5 .any (Rows.repliesOnceSpec.pre6 enc Tryz.prog Tryz.f5 Rows.repliesOnceRow.domain false) (Rows.repliesOnceSpec.post enc Tryz.prog Tryz.f5 false true false false) := by
  refine returnsInHanded_of_change_sized (C := Tryz.checked) own started (by kernel_rfl) Tryz.func5
    (ChangeSpec.witness6 (enc := enc) (C := Tryz.checked) false ⟨#[], #[.slice none 0 0], []⟩ 8 (by kernel_rfl) (by kernel_rfl) (by kernel_rfl) (by kernel_rfl)) ?_
  intro W base args ds gs before hval0 hW hcnd hsz0 _
  have hval : ∀ (j : Nat) t v, Tryz.f5.params[j]? = some t → args[j]? = some v → Value.okWide Tryz.prog W .any base t v := hval0
  have hW' := hW
  obtain ⟨p, q, hA0, hV, rfl, hfz, hnd⟩ := hW
  have hA : DataW.TrodAll enc Tryz.prog W 0 (fun _ => true) true Tryz.f5.params.toList args.toList ds p := hA0
  rw [Tryz.params5] at hA hval
  obtain ⟨v0, vs0, d0, ds0, p0, q0, hargs, rfl, rfl, h0, r0⟩ := trodAll_cons hA
  obtain ⟨rfl, rfl, rfl⟩ := trodAll_nil r0
  obtain rfl : args = #[v0] := by cases args; simp_all
  obtain ⟨rfl, rfl⟩ := trodVars_none hV
  have hsz : ∀ (j : Nat) (t : TypeId) (d : DataW H), ([53] : List TypeId)[j]? = some t → [d0][j]? = some d → ∀ n ∈ d.weights Tryz.prog t, n ≤ reachBytes := by
    intro j t d ht hd n hn
    have hsz1 : (DataW.weightsEach Tryz.prog ([53] : List TypeId) [d0]).all (· ≤ reachBytes) = true := hsz0
    have := List.all_eq_true.1 hsz1 n (DataW.weights_mem_each ht hd n hn)
    simpa using this
  have k0 := h0
  have lt0 : ∀ x ∈ p0, x.block < W.heap.size := by obtain ⟨m, hm⟩ := k0; exact DataW.trod_lt m _ _ _ hm
  obtain ⟨l0, hl0, hs0⟩ := open_asked Tryz.underlying53 Tryz.underlying55 Tryz.underlying3 Tryz.underlying3 Tryz.underlying3 Tryz.underlying3 (by kernel_rfl) (by kernel_rfl) (by kernel_rfl) (by kernel_rfl) (by kernel_rfl) rfl rfl rfl rfl (by kernel_rfl) (hval 0 53 v0 rfl rfl) h0 (hsz 0 53 d0 rfl rfl)
  refine (walk v0 l0 W hl0 hs0).mono fun e W' ⟨he, bel⟩ => ?_
  subst he
  exact ⟨_, rfl, _, _, _, [], _, [], hW', trodAll_mk1 (shut_bool Tryz.underlying4 _), (trodAll_cons_mk (Below.trod laidOut (by kernel_rfl) (of_decide_eq_true (by kernel_rfl)) k0 bel lt0) trodAll_mk0), rfl, bel.frame _, fun h => by cases h⟩

theorem over : Rows.repliesOnceRow.holds Tryz.pinned (OpenSpec.ofChange Rows.repliesOnceSpec) :=
  OpenClaim.holds_of_wide 5 Tryz.f5 rfl rfl rfl rfl rfl rfl rfl ⟨rfl, rfl, rfl, rfl, rfl⟩ rfl rfl rfl rfl rfl (by kernel_rfl) Tryz.func5 (by kernel_rfl)
    (of_decide_eq_true (by kernel_rfl)) (by unfold Func.isWrapper; first | (rw [if_pos (by decide +kernel)]; kernel_rfl) | (rw [if_neg (by decide +kernel)]; exact ⟨rfl, rfl⟩))
    (fun os started H enc _ => lifted os started H enc)

theorem proved : Rows.RepliesOnceSaid := over
#print axioms proved
end Go.Proofs.YtaipbikbapjmjaaGreat.repliesOnce
