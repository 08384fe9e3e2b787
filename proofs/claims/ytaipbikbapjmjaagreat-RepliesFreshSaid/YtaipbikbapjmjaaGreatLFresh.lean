/- RepliesFresh: whoever asks in good order is never told Stale, gets each answer again, and is not touched by what others ask, for every input. No condition. -/
import Derived.Test.YtaipbikbapjmjaaGreatB17
import Derived.Test.YtaipbikbapjmjaaGreatB19
import Derived.IntWalk
import Derived.ProofKit
import Derived.OpenShut
import Derived.ShutString
import Derived.ChangeOld
import Derived.SizedLaws
import Derived.Below
namespace Go.Proofs.YtaipbikbapjmjaaGreat.repliesFresh
open Go.ChangeShapes Go.WideShapes Go.ChangeAt Go.RowKit
open Go.ChangeMaps (open_string shut_string)

theorem own : ownKnob Tryz.prog.godebug = none := by kernel_rfl
theorem laidOut : laidOutB Tryz.prog = true := by kernel_rfl
/-- a whole array read under a guard that holds -/
theorem wpList_load_mid_g {P : Program} {ops : Array Oper} {rest : List Oper} {op : Oper} {a : Act} {w : World} {Q : Exit → Act → World → Prop} (hw : Region.wanted op (yielded ops a.tmps) = true) (ty : TypeId) (x : Operand) (ho : op.op = .load ty x)
    (b o : Nat) (hx : a.eval x = .pointer (some ⟨b, o, none⟩)) (cs : List Value) (d : TypeDesc) (hc : w.rangeAt b o cs)
    (hu : P.underlying ty = some d) (hd : d.isRow = true) (hi : (P.info? ty).map (·.size) = some cs.length)
    (h : wpList P ops Q rest (a.put op.dst (.agg cs.toArray)) w) : wpList P ops Q (op :: rest) a w :=
  wpList_step fun K hK => by
    rw [if_pos hw]
    exact wp_load_mid ty x ho b o hx cs d hc hu hd hi (hK _ _ h)
def otherM (f : Int) (y : Ak) : Msg := { kind := 1, from_ := y.frm, dest := f, boot := y.boot, seq := y.seq, low := y.low, verb := 3, id := 5 }
/-- where the law stands -/
def FrAt (f bo : Int) (b : Nat) (W : World) (m : Nat) (lv nv : Value) (w : World) : Prop := ∃ (lo n : Nat) (ps : List Pc) (cs : List Cl), lv = .int .i64 (lo : Int) ∧ nv = .int .i64 (n : Int) ∧ n ≤ m ∧ RpB w b (fun _ => True) ps ∧ St ps cs ∧ InvF f bo cs lo n ∧ Kp No W w
set_option maxRecDepth 100000 in
set_option maxHeartbeats 40000000 in
theorem walk (f bo : Int) (sv : Value) (S : List Int) (v : Value) (l : List Ak) (W : World) (hfb : -9223372036854775808 ≤ f ∧ f < 9223372036854775808) (hbb : -9223372036854775808 ≤ bo ∧ bo < 9223372036854775808) (hsv : ArgInts W sv S) (hsz : ∀ n ∈ S, -9223372036854775808 ≤ n ∧ n ≤ 9223372036854775807) (hl : ArgAk W v l) (hs : l.length * 32 ≤ reachBytes) : Calls Tryz.prog 6 #[.agg #[.int .i64 f, .int .i64 bo], sv, v] W fun e w' => e = .returned (.bool true) ∧ Below W.heap.size W w' := by
  obtain ⟨A, c, rfl, hc, hat⟩ := hl
  have hln : l.length ≤ 4398046511103 := by unfold reachBytes at hs; omega
  have HSV := Lib.hid hsv
  obtain ⟨sA, sC, rfl, hsC, _⟩ := hsv
  have HAT := Lib.hid hat; have HSZ := Lib.hid hsz
  clear hat hs hsz
  have HD : Hid ((f < 0 ∨ 7 < f ∨ bo < 1 ∨ 1099511627776 < bo ∨ 300 < S.length) ∨ (0 ≤ f ∧ f ≤ 7 ∧ 1 ≤ bo ∧ bo ≤ 1099511627776 ∧ S.length ≤ 300)) := Lib.hid (by omega)
  have KB := Lib.hid ((Kp.refl No W).alloc (.cells #[.int .i64 f, .int .i64 bo] 58))
  go_enter Tryz.func6, Tryz.ntmps6
  go_wp2_with fail
  refine (awake_any _).mono ?_
  rintro e wa ⟨rfl, ka⟩
  have hbk := (show Bk (W.alloc (.cells #[.int .i64 f, .int .i64 bo] 58)) W.heap.size 58 [.int .i64 f, .int .i64 bo] from Bk.new' rfl rfl).no ka
  have q0 : wa.cell? ⟨W.heap.size, 0, none⟩ = some (.int .i64 f) := hbk.cell 0
  have q1 : wa.cell? ⟨W.heap.size, 1, none⟩ = some (.int .i64 bo) := hbk.cell 1
  have KA := Lib.hid (KB.out.trans ka)
  clear ka hbk KB
  go_wp2
  go_region
  clear q0 q1
  rcases HD.out with hbad | ⟨f0, f7, b1, b2, s3⟩
  · as_aux_lemma =>
    rcases hbad with h | h | h | h | h
    · go_wp2
      go_ret
      exact ⟨rfl, KA.out.drew.below (Nat.le_refl _) fun _ _ m => m⟩
    · have h2 : ¬ f < 0 := by omega
      go_wp2
      go_ret
      exact ⟨rfl, KA.out.drew.below (Nat.le_refl _) fun _ _ m => m⟩
    · by_cases h2 : f < 0
      · go_wp2
        go_ret
        exact ⟨rfl, KA.out.drew.below (Nat.le_refl _) fun _ _ m => m⟩
      · by_cases h3 : 7 < f
        · go_wp2
          go_ret
          exact ⟨rfl, KA.out.drew.below (Nat.le_refl _) fun _ _ m => m⟩
        · go_wp2
          go_ret
          exact ⟨rfl, KA.out.drew.below (Nat.le_refl _) fun _ _ m => m⟩
    · have h4 : ¬ bo < 1 := by omega
      by_cases h2 : f < 0
      · go_wp2
        go_ret
        exact ⟨rfl, KA.out.drew.below (Nat.le_refl _) fun _ _ m => m⟩
      · by_cases h3 : 7 < f
        · go_wp2
          go_ret
          exact ⟨rfl, KA.out.drew.below (Nat.le_refl _) fun _ _ m => m⟩
        · go_wp2
          go_ret
          exact ⟨rfl, KA.out.drew.below (Nat.le_refl _) fun _ _ m => m⟩
    · have h6 : (300 : Int) < (S.length : Int) := by omega
      by_cases h2 : f < 0
      · go_wp2
        go_ret
        exact ⟨rfl, KA.out.drew.below (Nat.le_refl _) fun _ _ m => m⟩
      · by_cases h3 : 7 < f
        · go_wp2
          go_ret
          exact ⟨rfl, KA.out.drew.below (Nat.le_refl _) fun _ _ m => m⟩
        · by_cases h4 : bo < 1
          · go_wp2
            go_ret
            exact ⟨rfl, KA.out.drew.below (Nat.le_refl _) fun _ _ m => m⟩
          · by_cases h5 : 1099511627776 < bo
            · go_wp2
              go_ret
              exact ⟨rfl, KA.out.drew.below (Nat.le_refl _) fun _ _ m => m⟩
            · go_wp2
              go_ret
              exact ⟨rfl, KA.out.drew.below (Nat.le_refl _) fun _ _ m => m⟩
  have n1 : ¬ f < 0 := by omega
  have n2 : ¬ 7 < f := by omega
  have n3 : ¬ bo < 1 := by omega
  have n4 : ¬ 1099511627776 < bo := by omega
  have n5 : ¬ (300 : Int) < (S.length : Int) := by omega
  go_wp2_with fail
  refine (rnew_any _).mono ?_
  rintro e w0 ⟨rfl, hb0, k0⟩
  have HR0 := Lib.hid (rpB_new hb0)
  have HK0 := Lib.hid (KA.out.drew.trans k0)
  have HBW := Lib.hid (show W.heap.size ≤ wa.drew.heap.size from KA.out.drew.size)
  clear k0 hb0 KA n1 n2 n3 n4 n5
  generalize wa.drew.heap.size = b at *
  have HS3 := Lib.hid s3
  go_wp2
  go_loopw [10, 11, 50] (fun lv nv i wr => ∃ k : Nat, k ≤ S.length ∧ i = .int .i64 k ∧ FrAt f bo b W (k + 1) lv nv wr) (fun _ _ i _ => S.length - (intOf i).toNat)
  case atStart => exact ⟨0, Nat.zero_le _, rfl, 1, 1, _, _, rfl, rfl, Nat.le_refl _, HR0.out, St.init, InvF.init _ _, HK0.out⟩
  case round =>
  obtain ⟨k, hk, rfl, lo, n, ps, cs, rfl, rfl, hn, hr, hst, hinv, hkp⟩ := hrel
  clear HR0 HK0
  have HR := Lib.hid hr; have HST := Lib.hid hst; have HINV := Lib.hid hinv; have HK := Lib.hid hkp
  have hlo1 := hinv.h1; have hlo2 := hinv.h2; have hlo3 := hinv.h3
  clear hr hst hinv hkp
  by_cases hlt : k < S.length
  · obtain ⟨sg, so, sc2, es, hsr⟩ := (HSV.out.no HK.out).at_ hlt
    injection es with es _ es2
    subst es; subst es2
    obtain ⟨s, hsd⟩ : ∃ s, s = S[k] := ⟨_, rfl⟩
    have hsb := HSZ.out s (by rw [hsd]; exact List.getElem_mem hlt)
    have c0 : wr.cell? ⟨sg, so + k, none⟩ = some (.int .i64 s) := hsr k s (by rw [List.getElem?_eq_getElem hlt, hsd])
    have hk0 : (0 : Int) ≤ (k : Int) := by omega
    have hk1 : (k : Int) < (S.length : Int) := by omega
    clear hsr hsd
    go_upto_if 58 with (fail)
    clear c0
    go_cut [14] (fun _ wx => ∃ ps cs, RpB wx b (fun _ => True) ps ∧ St ps cs ∧ InvF f bo cs lo n ∧ Kp No W wx)
    case first =>
      by_cases hkl : k < l.length
      · have hkl2 : (k : Int) < (l.length : Int) := by omega
        obtain ⟨g, o, rfl, hg, hrow⟩ := HAT.out (fun e => by rw [e] at hkl; simp at hkl)
        obtain ⟨hI, hrg⟩ := hrow k hkl
        obtain ⟨y, hy⟩ : ∃ y, y = l[k] := ⟨_, rfl⟩
        rw [← hy] at hI hrg
        clear hy
        have hrr := range_kp hrg HK.out (fun m => m)
        have c0 : wr.cell? ⟨g, o + k * 4, none⟩ = some (.int .i64 y.frm) := hrr 0 _ rfl
        have c1 : wr.cell? ⟨g, o + k * 4 + 1, none⟩ = some (.int .i64 y.boot) := hrr 1 _ rfl
        have c2 : wr.cell? ⟨g, o + k * 4 + 2, none⟩ = some (.int .i64 y.seq) := hrr 2 _ rfl
        have c3 : wr.cell? ⟨g, o + k * 4 + 3, none⟩ = some (.int .i64 y.low) := hrr 3 _ rfl
        clear hrr hrg hrow
        obtain ⟨I1, I2, I3, I4⟩ := hI
        by_cases he : y.frm = f
        · have d0 : (y.frm != f) = false := by rw [bne_eq_false_iff_eq]; exact he
          have HE := Lib.hid he; clear he
          go_wp2
          go_meet
          exact ⟨_, _, HR.out.no ((Kp.refl No wr).alloc _), HST.out, HINV.out, HK.out.alloc _⟩
        · have d0 : (y.frm != f) = true := by rw [bne_iff_ne]; exact he
          have HE := Lib.hid he; clear he
          have ky : Kp No wr (wr.alloc (.cells #[.int .i64 y.frm, .int .i64 y.boot, .int .i64 y.seq, .int .i64 y.low] 55)) := (Kp.refl No wr).alloc _
          have pq : Calls Tryz.prog 13 #[.pointer (some ⟨b, 0, none⟩), (.agg #[.int .i64 1, .int .i64 y.frm, .int .i64 f, .int .i64 y.boot, .int .i64 y.seq, .int .i64 y.low, .int .i64 3, .string ⟨#[]⟩, .int .i64 0, .int .i64 0, .int .i64 5, .bool false, .int .i64 0, .slice none 0 0, .int .i64 0, .int .i64 0] : Value)] (wr.alloc (.cells #[.int .i64 y.frm, .int .i64 y.boot, .int .i64 y.seq, .int .i64 y.low] 55)) (SeenR (wr.alloc (.cells #[.int .i64 y.frm, .int .i64 y.boot, .int .i64 y.seq, .int .i64 y.low] 55)) b (fun _ => True) ps (otherM f y)) :=
            rseen_any b (fun _ => True) ps (otherM f y) (.slice none 0 0) _ (HR.out.no ky) (SlI.nil _ _ _) (small_rng15 (by simp [otherM]; omega) rfl) ⟨by simp [otherM, maxLen], by simp [otherM, maxLen]⟩
          have KY := Lib.hid ky; clear ky
          go_wp2_with fail
          refine pq.mono ?_
          rintro e w5 hsr
          unfold SeenR at hsr
          obtain ⟨hr5, k5, sv5, rfl, _⟩ := hsr
          have HR5 := Lib.hid hr5
          have HK5 := Lib.hid ((HK.out.trans KY.out).then_ k5 fun j hj e => by have e : j = b := e; have := HBW.out; omega)
          clear hr5 k5 pq
          go_wp2
          go_meet
          exact ⟨_, _, HR5.out, (HST.out.seen (otherM f y)).1, HINV.out.other HST.out.lc f0 (otherM f y) HE.out, HK5.out⟩
      · have hkl2 : ¬ (k : Int) < (l.length : Int) := by omega
        go_wp2
        go_meet
        exact ⟨_, _, HR.out, HST.out, HINV.out, HK.out⟩
    case rest =>
      obtain ⟨ps1, cs1, hr1, hst1, hinv1, hkp1⟩ := hcut
      clear HR HST HINV HK
      have HR := Lib.hid hr1; have HST := Lib.hid hst1; have HINV := Lib.hid hinv1; have HK := Lib.hid hkp1
      clear hr1 hst1 hinv1 hkp1
      have hn301 : n ≤ 302 := by have := HS3.out; omega
      go_upto_region 15 with (fail)
      go_cut [87] (fun t wx => t = .bool (decide (s.tmod 2 = 0 ∧ n < lo + 8)) ∧ wc = wx)
      case first =>
        by_cases h2 : s.tmod 2 = 0
        · have d2 : (s.tmod 2 == 0) = true := beq_iff_eq.2 h2
          by_cases h3 : n < lo + 8
          · have d3 : (n : Int) < (lo : Int) + 8 := by omega
            have HX := Lib.hid (show decide (s.tmod 2 = 0 ∧ n < lo + 8) = true from decide_eq_true ⟨h2, h3⟩)
            clear h2 h3
            go_wp2
            go_meet
            exact ⟨by rw [HX.out], by first | trivial | rfl⟩
          · have d3 : ¬ (n : Int) < (lo : Int) + 8 := by omega
            have HX := Lib.hid (show decide (s.tmod 2 = 0 ∧ n < lo + 8) = false from decide_eq_false fun h => h3 h.2)
            clear h2 h3
            go_wp2
            go_meet
            exact ⟨by rw [HX.out], by first | trivial | rfl⟩
        · have d2 : (s.tmod 2 == 0) = false := by rw [beq_eq_false_iff_ne]; exact h2
          have HX := Lib.hid (show decide (s.tmod 2 = 0 ∧ n < lo + 8) = false from decide_eq_false fun h => h2 h.1)
          clear h2
          go_wp2
          go_meet
          exact ⟨by rw [HX.out], by first | trivial | rfl⟩
      case rest =>
        obtain ⟨rfl, rfl⟩ := hcut
        go_upto_if 87 with (fail)
        go_cut [10, 11] (fun lv nv wx => FrAt f bo b W (k + 2) lv nv wx)
        case first =>
          by_cases hcc : s.tmod 2 = 0 ∧ n < lo + 8
          · rw [decide_eq_true hcc]
            have hlt8 := hcc.2
            clear hcc
            have HNEW := Lib.hid (HINV.out.new_ HST.out.lc (by omega) (by omega) (by omega) hlt8)
            have HS1 := Lib.hid (HST.out.seen (askF f bo n lo))
            obtain ⟨CA, hCA⟩ : ∃ C, C = mcells (askF f bo n lo) (.slice none 0 0) := ⟨_, rfl⟩
            obtain ⟨CB, hCB⟩ : ∃ C, C = mcells (ansF f bo n) (.slice none 0 0) := ⟨_, rfl⟩
            have hia : Hid ((Tryz.prog.info? 32).map (·.size) = some CA.length) := Lib.hid (by rw [hCA]; kernel_rfl)
            have hib : Hid ((Tryz.prog.info? 32).map (·.size) = some CB.length) := Lib.hid (by rw [hCB]; kernel_rfl)
            have HUH := Lib.hid (Tryz.underlying32)
            have HCA := Lib.hid hCA; have HCB := Lib.hid hCB
            clear hCA hCB
            obtain ⟨wo, hwo⟩ : ∃ wo : World, wo = wc := ⟨_, rfl⟩
            subst hwo
            go_upto_region 16 with (fail)
            go_cut [15] (fun p wx => p = .pointer (some ⟨wo.heap.size, 0, none⟩) ∧ Bk wx wo.heap.size 32 CA ∧ Kp No wo wx)
            case first =>
              go_wp2
              go_meet
              exact ⟨rfl, by rw [HCA.out]; exact Bk.new' rfl rfl, (Kp.refl No wo).alloc _⟩
            case rest =>
            obtain ⟨rfl, hb15, k15⟩ := hcut
            have z2 : wc.cell? ⟨wo.heap.size, 2, none⟩ = some (.int .i64 ((f + 1) % 8)) := by
              have h := hb15
              rw [HCA.out] at h
              exact h.cell 2
            have H15 := Lib.hid hb15; have K15 := Lib.hid k15
            have hs15 : wo.heap.size < wc.heap.size := hb15.lt
            clear hb15 k15
            generalize wo.heap.size = p15 at *
            obtain ⟨wp, hwp⟩ : ∃ wp : World, wp = wc := ⟨_, rfl⟩
            subst hwp
            go_upto_region 17 with (fail)
            go_cut [16] (fun p wx => p = .pointer (some ⟨wp.heap.size, 0, none⟩) ∧ Bk wx wp.heap.size 32 CB ∧ Kp No wp wx)
            case first =>
              go_wp2
              go_meet
              exact ⟨rfl, by rw [HCB.out]; exact Bk.new' rfl rfl, (Kp.refl No wp).alloc _⟩
            case rest =>
            obtain ⟨rfl, hb16, k16⟩ := hcut
            have H15c := Lib.hid (H15.out.no k16); have H16 := Lib.hid hb16; have KY := Lib.hid (K15.out.trans k16)
            clear z2 H15 K15 hb16 k16 hs15
            generalize wp.heap.size = p16 at *
            have HRc := Lib.hid (HR.out.no KY.out); have HKc := Lib.hid (HK.out.trans KY.out)
            clear HR HK
            go_upto_region 18 with (fail)
            obtain ⟨wq, hwq⟩ : ∃ wq : World, wq = wc := ⟨_, rfl⟩
            subst hwq
            go_cut [17, 18] (fun v _ wx => v = .int .i64 3 ∧ Bk wx p15 32 CA ∧ Bk wx p16 32 CB ∧ (∃ ps5 cs5, RpB wx b (fun _ => True) ps5 ∧ St ps5 cs5 ∧ (keepS cs5 (askF f bo n lo) (ansF f bo n)).2 = true ∧ InvF f bo (keepS cs5 (askF f bo n lo) (ansF f bo n)).1 lo (n + 1)) ∧ Kp No W wx)
            case first =>
              have pq : Calls Tryz.prog 13 #[.pointer (some ⟨b, 0, none⟩), (.agg CA.toArray : Value)] wq (SeenR wq b (fun _ => True) ps1 (askF f bo n lo)) := by
                rw [HCA.out]
                exact rseen_any b (fun _ => True) ps1 (askF f bo n lo) (.slice none 0 0) _ HRc.out (SlI.nil _ _ _) (small_rng15 (by simp [askF]; omega) rfl) ⟨by simp [askF, maxLen], by simp [askF, maxLen]⟩
              have HATY := Lib.hid HRc.out.at_
              have HRA := Lib.hid (range_of H15c.out)
              go_wp2_with (refine wpList_load_mid rfl _ _ rfl p15 0 rfl CA _ HRA.out HUH.out rfl hia.out ?_)
              refine pq.mono ?_
              rintro e w5 hsr
              unfold SeenR at hsr
              obtain ⟨hr5, k5, sv5, rfl, ho5⟩ := hsr
              clear pq HRA
              have hnb : ∀ q t cs, Bk wq q t cs → t ≠ 69 → ¬ One b q := fun q t cs hb ht e => by
                have e : q = b := e
                subst e
                obtain ⟨cs2, h2⟩ := HATY.out
                exact hb.ne_ h2 ht rfl
              have HB15 := Lib.hid (H15c.out.kp k5 (hnb _ _ _ H15c.out (by decide))); have HB16 := Lib.hid (H16.out.kp k5 (hnb _ _ _ H16.out (by decide)))
              have HK5 := Lib.hid (HKc.out.then_ k5 fun j hj e => by have e : j = b := e; have := HBW.out; omega)
              have HR5 := Lib.hid hr5
              obtain ⟨A5, c5, rfl, _⟩ := own_len ho5
              clear hr5 k5 ho5 hnb H15c H16 HATY KY HRc HKc
              generalize hsn : seenP ps1 (askF f bo n lo) = sn at *
              obtain ⟨ps5, v5, a5⟩ := sn
              clear hsn
              obtain ⟨hs5, he5⟩ := HS1.out
              obtain ⟨e3, ekt, einv⟩ := HNEW.out
              rw [e3] at he5
              have ev : v5 = 3 := congrArg Prod.fst he5
              have ea : a5 = {} := congrArg Prod.snd he5
              subst ev
              subst ea
              have HS5 := Lib.hid hs5; have HKT := Lib.hid ekt; have HIV := Lib.hid einv
              clear hs5 he5 e3 ekt einv HS1 HNEW
              simp only at HR5
              go_wp2_with (refine wpList_store_mid rfl _ _ _ rfl w5.heap.size 0 (mcells ({} : Msg) (.slice A5 0 c5)).toArray rfl rfl (msg_there _ _ _) (msg_info _ _) (msg_one _ _ _ _) ?_)
              have g6 := msg_store w5 ({} : Msg) A5 0 c5
              generalize hw6 : World.setCells _ w5.heap.size 0 _ = w6
              rw [show (w5.alloc (.cells #[.int .i64 0, .int .i64 0, .int .i64 0, .int .i64 0, .int .i64 0, .int .i64 0, .int .i64 0, .string ⟨#[]⟩, .int .i64 0, .int .i64 0, .int .i64 0, .bool false, .int .i64 0, .slice none 0 0, .int .i64 0, .int .i64 0] 32)).setCells w5.heap.size 0 (mcells ({} : Msg) (.slice A5 0 c5)) = w6 from hw6] at g6
              clear hw6
              obtain ⟨_, k6⟩ := g6
              go_meet
              exact ⟨rfl, HB15.out.no k6, HB16.out.no k6, ⟨_, _, HR5.out.no k6, HS5.out, HKT.out, HIV.out⟩, HK5.out.trans k6⟩
            case rest =>
            obtain ⟨rfl, hb15, hb16, ⟨ps5, cs5, hr5, hs5, hkt5, hiv5⟩, hk5⟩ := hcut
            clear H15c H16 KY HRc HKc HS1 HNEW HST HINV
            have HRA := Lib.hid (range_of hb15); have HRB := Lib.hid (range_of hb16); have HK6 := Lib.hid hk5; have HKT := Lib.hid hkt5; have HIV := Lib.hid hiv5
            have pk : Calls Tryz.prog 10 #[.pointer (some ⟨b, 0, none⟩), .agg CA.toArray, .agg CB.toArray] wc (KeepR wc b (fun _ => True) ps5 (askF f bo n lo) (ansF f bo n)) := by
              rw [HCA.out, HCB.out]
              exact rkeep_any b (fun _ => True) ps5 (askF f bo n lo) (ansF f bo n) (.slice none 0 0) (.slice none 0 0) _ hr5 (SlI.nil _ _ _) (small_rng15 (by simp [askF]; omega) rfl) ⟨by simp [askF, maxLen], by simp [askF, maxLen]⟩ (SlI.nil _ _ _) (small_rng15 (by simp [ansF]; omega) rfl) ⟨by simp [ansF, maxLen], by simp [ansF, maxLen]⟩
            have HS7 := Lib.hid (hs5.keep (askF f bo n lo) (ansF f bo n))
            clear hb15 hb16 hr5 hs5 hkt5 hiv5 hk5
            go_wp2_with (first
              | (refine wpList_load_mid_g (by rfl) _ _ rfl p15 0 rfl CA _ HRA.out HUH.out rfl hia.out ?_)
              | (refine wpList_load_mid_g (by rfl) _ _ rfl p16 0 rfl CB _ HRB.out HUH.out rfl hib.out ?_))
            refine pk.mono ?_
            rintro e w8 hkr
            unfold KeepR at hkr
            obtain ⟨hr8, k8, rfl⟩ := hkr
            have hkt : (keepP ps5 (askF f bo n lo) (ansF f bo n)).2 = true := HS7.out.2.trans HKT.out
            rw [hkt]
            have HFIN := Lib.hid (show FrAt f bo b W (k + 2) (.int .i64 (lo : Int)) (.int .i64 ((n : Int) + 1)) w8 from
              ⟨lo, n + 1, _, _, rfl, by go_num, by omega, hr8.mono (fun _ _ => trivial), HS7.out.1, HIV.out, HK6.out.then_ k8 fun j hj e => by have e : j = b := e; have := HBW.out; omega⟩)
            clear pk hkt hr8 k8
            go_wp2
            go_meet
            exact HFIN.out
          · rw [decide_eq_false hcc]
            clear hcc
            by_cases hl2 : lo < n
            · have d2 : (lo : Int) < (n : Int) := by omega
              have HFIN := Lib.hid (show FrAt f bo b W (k + 2) (.int .i64 ((lo : Int) + 1)) (.int .i64 (n : Int)) wc from
                ⟨lo + 1, n, _, _, by go_num, rfl, by omega, HR.out, HST.out, HINV.out.up hl2, HK.out⟩)
              go_wp2
              go_meet
              exact HFIN.out
            · have d2 : ¬ (lo : Int) < (n : Int) := by omega
              have HFIN := Lib.hid (show FrAt f bo b W (k + 2) (.int .i64 (lo : Int)) (.int .i64 (n : Int)) wc from
                ⟨lo, n, _, _, rfl, rfl, by omega, HR.out, HST.out, HINV.out, HK.out⟩)
              go_wp2
              go_meet
              exact HFIN.out
        case rest =>
          obtain ⟨lo2, n2, ps2, cs2, rfl, rfl, hn2, hr2, hst2, hinv2, hkp2⟩ := hcut
          clear HR HST HINV HK hlo1 hlo2 hlo3 hn301
          have HR := Lib.hid hr2; have HST := Lib.hid hst2; have HINV := Lib.hid hinv2; have HK := Lib.hid hkp2
          have hlo1 := hinv2.h1; have hlo2 := hinv2.h2; have hlo3 := hinv2.h3
          clear hr2 hst2 hinv2 hkp2
          have hn302 : n2 ≤ 302 := by have := HS3.out; omega
          obtain ⟨wo, hwo⟩ : ∃ wo : World, wo = wr := ⟨_, rfl⟩
          subst hwo
          go_wp2
          go_loopw [19] (fun i wq => ∃ (j : Nat) (ps : List Pc) (cs : List Cl), lo2 ≤ j ∧ j ≤ n2 ∧ i = .int .i64 (j : Int) ∧ RpB wq b (fun _ => True) ps ∧ St ps cs ∧ InvF f bo cs lo2 n2 ∧ (lo2 < j → lenS cs f = n2 - lo2) ∧ Kp No W wq) (fun i _ => n2 - (intOf i).toNat)
          case atStart => exact ⟨lo2, ps2, cs2, Nat.le_refl _, hlo2, rfl, HR.out, HST.out, HINV.out, (fun h => by omega), HK.out⟩
          case round =>
          obtain ⟨j, ps3, cs3, hj1, hj2, rfl, hr3, hst3, hinv3, hlen3, hkp3⟩ := hrel
          clear HR HST HINV HK
          have HR := Lib.hid hr3; have HST := Lib.hid hst3; have HINV := Lib.hid hinv3; have HK := Lib.hid hkp3; have HLEN := Lib.hid hlen3
          clear hr3 hst3 hinv3 hlen3 hkp3
          by_cases hjn : j < n2
          · have d1 : (j : Int) < (n2 : Int) := by omega
            have pq : Calls Tryz.prog 13 #[.pointer (some ⟨b, 0, none⟩), (.agg #[.int .i64 1, .int .i64 f, .int .i64 ((f + 1) % 8), .int .i64 bo, .int .i64 (j : Int), .int .i64 (lo2 : Int), .int .i64 3, .string ⟨#[]⟩, .int .i64 0, .int .i64 0, .int .i64 (j : Int), .bool false, .int .i64 0, .slice none 0 0, .int .i64 0, .int .i64 0] : Value)] wr (SeenR wr b (fun _ => True) ps3 (askF f bo j lo2)) :=
              rseen_any b (fun _ => True) ps3 (askF f bo j lo2) (.slice none 0 0) _ HR.out (SlI.nil _ _ _) (small_rng15 (by simp [askF]; omega) rfl) ⟨by simp [askF, maxLen], by simp [askF, maxLen]⟩
            have HAG := Lib.hid (HINV.out.again HST.out.lc (by omega) (by omega) (by omega) hj1 hjn)
            have HS1 := Lib.hid (HST.out.seen (askF f bo j lo2))
            go_wp2_with fail
            refine pq.mono ?_
            rintro e w5 hsr
            unfold SeenR at hsr
            obtain ⟨hr5, k5, sv5, rfl, ho5⟩ := hsr
            clear pq
            have HK5 := Lib.hid (HK.out.then_ k5 fun j hj e => by have e : j = b := e; have := HBW.out; omega)
            have HR5 := Lib.hid hr5
            obtain ⟨A5, c5, rfl, _⟩ := own_len ho5
            clear hr5 k5 ho5
            generalize hsn : seenP ps3 (askF f bo j lo2) = sn at *
            obtain ⟨ps5, v5, a5⟩ := sn
            clear hsn
            obtain ⟨hs5, he5⟩ := HS1.out
            obtain ⟨e3, einv, elen⟩ := HAG.out
            rw [e3] at he5
            have ev : v5 = 2 := congrArg Prod.fst he5
            have ea : a5 = ansF f bo j := congrArg Prod.snd he5
            subst ev
            subst ea
            have HS5 := Lib.hid hs5; have HLN := Lib.hid elen; have HIV := Lib.hid einv
            clear hs5 he5 e3 elen einv HS1 HAG
            simp only at HR5
            go_upto_region 28 with (refine wpList_store_mid rfl _ _ _ rfl w5.heap.size 0 (mcells (ansF f bo j) (.slice A5 0 c5)).toArray rfl rfl (msg_there _ _ _) (msg_info _ _) (msg_one _ _ _ _) ?_)
            have g6 := msg_store w5 (ansF f bo j) A5 0 c5
            generalize hw6 : World.setCells _ w5.heap.size 0 _ = w6
            rw [show (w5.alloc (.cells #[.int .i64 0, .int .i64 0, .int .i64 0, .int .i64 0, .int .i64 0, .int .i64 0, .int .i64 0, .string ⟨#[]⟩, .int .i64 0, .int .i64 0, .int .i64 0, .bool false, .int .i64 0, .slice none 0 0, .int .i64 0, .int .i64 0] 32)).setCells w5.heap.size 0 (mcells (ansF f bo j) (.slice A5 0 c5)) = w6 from hw6] at g6
            clear hw6
            obtain ⟨b6, k6⟩ := g6
            have HK6 := Lib.hid (HK5.out.trans k6); have HR6 := Lib.hid (HR5.out.no k6)
            have z4 : w6.cell? ⟨w5.heap.size, 4, none⟩ = some (.int .i64 (j : Int)) := b6.cell 4
            have z12 : w6.cell? ⟨w5.heap.size, 12, none⟩ = some (.int .i64 63) := b6.cell 12
            clear b6 k6 HK5 HR5
            go_wp2
            go_roundw
            case rel => exact ⟨j + 1, ps5, _, by omega, by omega, by go_num, HR6.out, HS5.out, HIV.out, (fun _ => HLN.out), HK6.out⟩
            case measure => simp [intOf]; omega
          · have d1 : ¬ (j : Int) < (n2 : Int) := by omega
            by_cases hl2 : lo2 < n2
            · have d2 : (lo2 : Int) < (n2 : Int) := by omega
              have hle : lenP ps3 f = n2 - lo2 := (HST.out.len f).trans (HLEN.out (by omega))
              have pl := rlen_any b (fun _ => True) ps3 f wr HR.out
              rw [hle] at pl
              clear hle
              have d3 : (((n2 - lo2 : Nat) : Int) != (n2 : Int) - (lo2 : Int)) = false := by rw [bne_eq_false_iff_eq]; omega
              generalize ((n2 - lo2 : Nat) : Int) = df at *
              go_wp2_with fail
              refine pl.mono ?_
              rintro e w9 ⟨rfl, k9⟩
              have R9 := Lib.hid (HR.out.no k9); have K9 := Lib.hid (HK.out.trans k9)
              clear k9 pl
              go_wp2
              go_roundw
              case rel => exact ⟨k + 1, by omega, by go_num, lo2, n2, ps3, cs3, rfl, rfl, by omega, R9.out, HST.out, HINV.out, K9.out⟩
              case measure => simp [intOf]; omega
            · have d2 : ¬ (lo2 : Int) < (n2 : Int) := by omega
              go_wp2
              go_roundw
              case rel => exact ⟨k + 1, by omega, by go_num, lo2, n2, ps3, cs3, rfl, rfl, by omega, HR.out, HST.out, HINV.out, HK.out⟩
              case measure => simp [intOf]; omega
  · have hk1 : ¬ (k : Int) < (S.length : Int) := by omega
    go_wp2
    go_ret
    exact ⟨rfl, HK.out.below (Nat.le_refl _) fun _ _ m => m⟩

/-! ### The row's step -/
set_option maxRecDepth 100000 in
theorem lifted (os : Os) (started : os.Started) (H : Type) (enc : TypeId × Value → H) :
    ReturnsInHanded {} Tryz.checked os 6 .any (Rows.repliesFreshSpec.pre6 enc Tryz.prog Tryz.f6 Rows.repliesFreshRow.domain false) (Rows.repliesFreshSpec.post enc Tryz.prog Tryz.f6 false true false false) := by
  refine returnsInHanded_of_change_sized (C := Tryz.checked) own started (by kernel_rfl) Tryz.func6
    (ChangeSpec.witness6 (enc := enc) (C := Tryz.checked) false ⟨#[], #[.agg #[.int .i64 0, .int .i64 0], .slice none 0 0, .slice none 0 0], []⟩ 8 (by kernel_rfl) (by kernel_rfl) (by kernel_rfl) (by kernel_rfl)) ?_
  intro W base args ds gs before hval0 hW hcnd hsz0 _
  have hval : ∀ (j : Nat) t v, Tryz.f6.params[j]? = some t → args[j]? = some v → Value.okWide Tryz.prog W .any base t v := hval0
  have hW' := hW
  obtain ⟨p, q, hA0, hV, rfl, hfz, hnd⟩ := hW
  have hA : DataW.TrodAll enc Tryz.prog W 0 (fun _ => true) true Tryz.f6.params.toList args.toList ds p := hA0
  rw [Tryz.params6] at hA hval
  obtain ⟨v0, vs0, d0, ds0, p0, q0, hargs, rfl, rfl, h0, r0⟩ := trodAll_cons hA
  obtain ⟨v1, vs1, d1, ds1, p1, q1, rfl, rfl, rfl, h1, r1⟩ := trodAll_cons r0
  obtain ⟨v2, vs2, d2, ds2, p2, q2, rfl, rfl, rfl, h2, r2⟩ := trodAll_cons r1
  obtain ⟨rfl, rfl, rfl⟩ := trodAll_nil r2
  obtain rfl : args = #[v0, v1, v2] := by cases args; simp_all
  obtain ⟨rfl, rfl⟩ := trodVars_none hV
  have hsz : ∀ (j : Nat) (t : TypeId) (d : DataW H), ([58, 30, 53] : List TypeId)[j]? = some t → [d0, d1, d2][j]? = some d → ∀ n ∈ d.weights Tryz.prog t, n ≤ reachBytes := by
    intro j t d ht hd n hn
    have hsz1 : (DataW.weightsEach Tryz.prog ([58, 30, 53] : List TypeId) [d0, d1, d2]).all (· ≤ reachBytes) = true := hsz0
    have := List.all_eq_true.1 hsz1 n (DataW.weights_mem_each ht hd n hn)
    simpa using this
  have k0 := h0
  have lt0 : ∀ x ∈ p0, x.block < W.heap.size := by obtain ⟨m, hm⟩ := k0; exact DataW.trod_lt m _ _ _ hm
  obtain ⟨x0, y0, rfl, xb0, yb0⟩ := open_pair Tryz.underlying58 Tryz.underlying3 (by kernel_rfl) (by kernel_rfl) (hval 0 58 v0 rfl rfl) h0
  have k1 := h1
  have lt1 : ∀ x ∈ p1, x.block < W.heap.size := by obtain ⟨m, hm⟩ := k1; exact DataW.trod_lt m _ _ _ hm
  obtain ⟨L1, a1, l1, z1⟩ := open_intsA Tryz.underlying30 Tryz.underlying3 (by kernel_rfl) (by kernel_rfl) (hval 1 30 v1 rfl rfl) h1 (hsz 1 30 _ rfl rfl)
  have k2 := h2
  have lt2 : ∀ x ∈ p2, x.block < W.heap.size := by obtain ⟨m, hm⟩ := k2; exact DataW.trod_lt m _ _ _ hm
  obtain ⟨l2, hl2, hs2⟩ := open_asked Tryz.underlying53 Tryz.underlying55 Tryz.underlying3 Tryz.underlying3 Tryz.underlying3 Tryz.underlying3 (by kernel_rfl) (by kernel_rfl) (by kernel_rfl) (by kernel_rfl) (by kernel_rfl) rfl rfl rfl rfl (by kernel_rfl) (hval 2 53 v2 rfl rfl) h2 (hsz 2 53 d2 rfl rfl)
  refine (walk x0 y0 v1 L1 v2 l2 W xb0 yb0 a1 z1 hl2 hs2).mono fun e W' ⟨he, bel⟩ => ?_
  subst he
  exact ⟨_, rfl, _, _, _, [], _, [], hW', trodAll_mk1 (shut_bool Tryz.underlying4 _), (trodAll_cons_mk (Below.trod laidOut (by kernel_rfl) (of_decide_eq_true (by kernel_rfl)) k0 bel lt0) (trodAll_cons_mk (Below.trod laidOut (by kernel_rfl) (of_decide_eq_true (by kernel_rfl)) k1 bel lt1) (trodAll_cons_mk (Below.trod laidOut (by kernel_rfl) (of_decide_eq_true (by kernel_rfl)) k2 bel lt2) trodAll_mk0))), rfl, bel.frame _, fun h => by cases h⟩

theorem over : Rows.repliesFreshRow.holds Tryz.pinned (OpenSpec.ofChange Rows.repliesFreshSpec) :=
  OpenClaim.holds_of_wide 6 Tryz.f6 rfl rfl rfl rfl rfl rfl rfl ⟨rfl, rfl, rfl, rfl, rfl⟩ rfl rfl rfl rfl rfl (by kernel_rfl) Tryz.func6 (by kernel_rfl)
    (of_decide_eq_true (by kernel_rfl)) (by unfold Func.isWrapper; first | (rw [if_pos (by decide +kernel)]; kernel_rfl) | (rw [if_neg (by decide +kernel)]; exact ⟨rfl, rfl⟩))
    (fun os started H enc _ => lifted os started H enc)

theorem proved : Rows.RepliesFreshSaid := over
#print axioms proved
end Go.Proofs.YtaipbikbapjmjaaGreat.repliesFresh
