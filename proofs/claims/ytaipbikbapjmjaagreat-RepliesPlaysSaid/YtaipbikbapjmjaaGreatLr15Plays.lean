/- RepliesPlays: every call answers what the document says, whatever was asked ahead of it, for every script of calls. No condition beyond what the statement says. -/
import Derived.Test.YtaipbikbapjmjaaGreatF8
import Derived.Test.YtaipbikbapjmjaaGreatC6
import Derived.Test.YtaipbikbapjmjaaGreatB13
import Derived.IntWalk
import Derived.ProofKit
import Derived.OpenShut
import Derived.ShutString
import Derived.ChangeOld
import Derived.SizedLaws
import Derived.Below
namespace Go.Proofs.YtaipbikbapjmjaaGreat.repliesPlays
open Go.ChangeShapes Go.WideShapes Go.ChangeAt Go.RowKit
open Go.ChangeMaps (open_string shut_string)

theorem own : ownKnob Tryz.prog.godebug = none := by kernel_rfl
theorem laidOut : laidOutB Tryz.prog = true := by kernel_rfl
set_option maxRecDepth 100000 in
set_option maxHeartbeats 40000000 in
theorem walk (v : Value) (l : List Opx) (W : World) (hl : ArgOps W v l) (hs : l.length ≤ 17592186043904) : Calls Tryz.prog 4 #[v] W fun e w' => e = .returned (.bool true) ∧ Below W.heap.size W w' := by
  obtain ⟨A0, c0, rfl, hc0, hat⟩ := hl
  have HAT := Lib.hid hat
  clear hat
  go_enter Tryz.func4, Tryz.ntmps4
  go_wp2_with fail
  refine (awake_any _).mono ?_
  rintro e wa ⟨rfl, ka⟩
  go_wp2_with fail
  refine (rnew_any _).mono ?_
  rintro e w0 ⟨rfl, hb0, k0⟩
  go_wp2_with fail
  refine (dempty_any _).mono ?_
  rintro e w1 ⟨v1, rfl, hr1, k1⟩
  have hr2 := hr1
  obtain ⟨⟨A1, c1, hv1, _⟩, _⟩ := hr2
  rw [List.length_replicate] at hv1
  subst hv1
  have HI := Lib.hid (PlAt.init (w' := w1.alloc (.cells #[.slice A1 8 c1] 42)) ((rpB_new hb0).no k1) hr1 ((ka.trans k0).trans k1) rfl)
  have HBW := Lib.hid (show W.heap.size ≤ wa.heap.size from ka.size)
  have HBMW := Lib.hid (show W.heap.size ≤ w1.heap.size from ((ka.trans k0).trans k1).size)
  clear ka k0 k1 hb0 hr1
  go_wp2
  generalize wa.heap.size = b at *
  generalize w1.heap.size = bm at *
  go_loopw [21] (fun i wr => ∃ k : Nat, k ≤ l.length ∧ i = .int .i64 k ∧ PlAt W b bm wr) (fun i _ => l.length - (intOf i).toNat)
  case atStart => exact ⟨0, Nat.zero_le _, rfl, HI.out⟩
  case round =>
  obtain ⟨k, hk, rfl, hpl⟩ := hrel
  have HPL := Lib.hid hpl
  clear hpl HI
  by_cases hlt : k < l.length
  · obtain ⟨g, o, rfl, hrow⟩ := HAT.out (fun e => by rw [e] at hlt; simp at hlt)
    obtain ⟨hok, hrg⟩ := hrow k hlt
    obtain ⟨x, hx⟩ : ∃ x, x = l[k] := ⟨_, rfl⟩
    rw [← hx] at hok hrg
    clear hx hrow
    obtain ⟨CX, hCX⟩ : ∃ C, C = opC x := ⟨_, rfl⟩
    have HRX := Lib.hid (show wr.rangeAt g (o + k * 33) CX from by rw [hCX]; exact range_kp hrg HPL.out.kp (fun m => m))
    have HCX := Lib.hid hCX
    have HCL := Lib.hid (show CX.length = 33 from by rw [hCX]; rfl)
    have HiX : Hid ((Tryz.prog.info? 45).map (·.size) = some CX.length) := Lib.hid (by rw [HCL.out]; kernel_rfl)
    have HiXA : Hid ((Tryz.prog.info? 45).map (·.size) = some CX.toArray.size) := Lib.hid (by rw [List.size_toArray, HCL.out]; kernel_rfl)
    have HX1 := Lib.hid (show CX.toArray.all (·.oneCell') = true from by rw [hCX]; exact op_one x)
    have HUO := Lib.hid (Tryz.underlying45); have HUH := Lib.hid (Tryz.underlying32)
    have HOK := Lib.hid hok
    have hk0 : (0 : Int) ≤ (k : Int) := by omega
    have hk1 : (k : Int) < (l.length : Int) := by omega
    clear hrg hCX hok
    obtain ⟨wo, hwo⟩ : ∃ wo : World, wo = wr := ⟨_, rfl⟩
    subst hwo
    have HTH := Lib.hid (op_there wo CX.toArray.size (by rw [List.size_toArray, HCL.out]))
    go_upto_region 7 with (fail)
    go_cut [6] (fun p wx => p = .pointer (some ⟨wo.heap.size, 0, none⟩) ∧ Bk wx wo.heap.size 45 CX ∧ Kp No wo wx)
    case first =>
      have g6 := Lib.hid (op_store wo CX HCL.out)
      go_wp2_with (first
        | (with_reducible refine wpList_load_mid rfl _ _ rfl g (o + k * 33) rfl CX _ HRX.out HUO.out rfl HiX.out ?_)
        | (with_reducible refine wpList_store_mid rfl _ _ _ rfl wo.heap.size 0 CX.toArray rfl rfl HTH.out HiXA.out HX1.out ?_))
      go_meet
      exact ⟨rfl, g6.out.1, g6.out.2⟩
    case rest =>
    obtain ⟨rfl, hbx, kx⟩ := hcut
    have z0 : wc.cell? ⟨wo.heap.size, 0, none⟩ = some (.int .i64 x.kind) := by have h := hbx; rw [HCX.out] at h; exact h.cell 0
    have HBO := Lib.hid hbx
    obtain ⟨ps, D, A, c, hr, hst, hlc, hsh, h8, hbm, hrf, hkp⟩ := HPL.out.no kx
    have HR := Lib.hid hr; have HST := Lib.hid hst; have HLC := Lib.hid hlc; have HSH := Lib.hid hsh; have H8 := Lib.hid h8; have HBM := Lib.hid hbm; have HRF := Lib.hid hrf; have HK := Lib.hid hkp
    have HBX := Lib.hid (show ¬ One b wo.heap.size from fun e => by
      have e : wo.heap.size = b := e
      obtain ⟨cs2, h2⟩ := hr.at_
      exact hbx.ne_ h2 (by decide) e)
    clear hbx kx hr hst hlc hsh h8 hbm hrf hkp HPL HRX HTH
    generalize wo.heap.size = bx at *
    go_upto_if 27 with (fail)
    clear z0
    obtain ⟨wk, hwk⟩ : ∃ wk : World, wk = wc := ⟨_, rfl⟩
    subst hwk
    go_cut [7] (fun _ wx => PlAt W b bm wx)
    case first =>
      obtain ⟨CM, hCM⟩ : ∃ C, C = (mcells x.m (.slice x.A x.m.stamp.length x.c)) := ⟨_, rfl⟩
      obtain ⟨CA, hCA⟩ : ∃ C, C = (mcells x.a (.slice x.A' x.a.stamp.length x.c')) := ⟨_, rfl⟩
      have HiM : Hid ((Tryz.prog.info? 32).map (·.size) = some CM.length) := Lib.hid (by rw [hCM]; kernel_rfl)
      have HiA : Hid ((Tryz.prog.info? 32).map (·.size) = some CA.length) := Lib.hid (by rw [hCA]; kernel_rfl)
      have HCM := Lib.hid hCM; have HCA := Lib.hid hCA
      have HRM := Lib.hid (show wk.rangeAt bx 1 CM from by rw [hCM]; exact (op_range (by rw [← HCX.out]; exact HBO.out)).1)
      have HRA := Lib.hid (show wk.rangeAt bx 17 CA from by rw [hCA]; exact (op_range (by rw [← HCX.out]; exact HBO.out)).2)
      clear hCM hCA
      have PM := Lib.hid (show ∀ W2, Kp No W W2 → Calls Tryz.prog 17 #[.agg CM.toArray] W2 (OwnMR W2 x.m) from fun W2 k => by rw [HCM.out]; exact own_any x.m _ W2 (HOK.out.1.1.no k) (by have := HOK.out.1.2.2.2.1; omega))
      have PA := Lib.hid (show ∀ W2, Kp No W W2 → Calls Tryz.prog 17 #[.agg CA.toArray] W2 (OwnMR W2 x.a) from fun W2 k => by rw [HCA.out]; exact own_any x.a _ W2 (HOK.out.2.1.no k) (by have := HOK.out.2.2.2.2.1; omega))
      by_cases h1 : x.kind = 1
      · have d1 : (x.kind == 1) = true := beq_iff_eq.2 h1
        clear h1
        have PK := Lib.hid (show ∀ S d W2, Kp No wk W2 → SlI W2 (.slice S x.a.stamp.length d) x.a.stamp → Calls Tryz.prog 16 #[.agg #[.slice A D.length c], .agg CM.toArray, .agg (mcells x.a (.slice S x.a.stamp.length d)).toArray] W2 (KeepD D x.m x.a W2) from fun S d W2 k hs => by
          rw [HCM.out]
          exact dkeep_any A c D x.m x.a x.A S x.c d W2 (HRF.out.no k) H8.out (lens_of HST.out) (HOK.out.1.1.no (HK.out.trans k)) (by have := HOK.out.1.2.2.2.1; unfold maxLen; omega) HOK.out.1.2.2.2.2 (lows_of HST.out HLC.out) hs (by have := HOK.out.2.2.2.2.1; unfold maxLen; omega) HOK.out.2.2.2.2.2)
        go_upto_region 9 with (fail)
        go_cut [7, 8] (fun p q wx => ∃ b7 A8 D8 c8 t8, p = .pointer (some ⟨b7, 0, none⟩) ∧ q = .bool t8 ∧ wk.heap.size ≤ b7 ∧ Bk wx b7 42 [.slice A8 D8.length c8] ∧ RefR wx (.slice A8 D8.length c8) D8 ∧ D8.length = 8 ∧ D8.map toCl = (keepS (D.map toCl) x.m x.a).1 ∧ (keepP ps x.m x.a).2 = t8 ∧ Kp No wk wx)
        case first =>
          have hF : (fun W2 => W2.cell? ⟨bm, 0, none⟩ = some (.slice A D.length c) ∧ W2.rangeAt bx 1 CM ∧ W2.rangeAt bx 17 CA) wk.drew := ⟨(HBM.out.no (Kp.refl No wk).drew).cell 0, range_kp HRM.out (Kp.refl No wk).drew (fun m => m), range_kp HRA.out (Kp.refl No wk).drew (fun m => m)⟩
          refine rg_begin (fun W2 => W2.cell? ⟨bm, 0, none⟩ = some (.slice A D.length c) ∧ W2.rangeAt bx 1 CM ∧ W2.rangeAt bx 17 CA) 13 (by kernel_rfl) ?_
          refine rg_take (i := 0) (v := ?vn0) (by simp only [List.getElem?_toArray, List.getElem?_cons_zero]; rfl) (by kernel_rfl) (by exact fun _ _ _ h => h) (by rfl) ?rn0 hF ?sn0
          case rn0 => (intro W9 hW; have z0 := hW.1; go_simp; try with_reducible rfl)
          try simp only [Act.put, List.setIfInBounds_toArray, List.set_cons_zero, List.set_cons_succ]
          refine rg_take (i := 1) (v := ?vn1) (by simp only [List.getElem?_toArray, List.getElem?_cons_succ, List.getElem?_cons_zero]; rfl) (by kernel_rfl) (by exact fun _ _ _ h => h) (by rfl) ?rn1 hF ?sn1
          case rn1 => (intro W hW; clear hW; go_simp; try with_reducible rfl)
          try simp only [Act.put, List.setIfInBounds_toArray, List.set_cons_zero, List.set_cons_succ]
          refine rg_take (i := 2) (v := ?vn2) (by simp only [List.getElem?_toArray, List.getElem?_cons_succ, List.getElem?_cons_zero]; rfl) (by kernel_rfl) (by exact fun _ _ _ h => h) (by rfl) ?rn2 hF ?sn2
          case rn2 => (intro W9 hW; refine exec_load_mid W9 32 (.tmp 30) ?_ bx 1 ?_ CM _ hW.2.1 Tryz.underlying32 ?_ HiM.out; exact rfl; exact rfl; exact rfl)
          try simp only [Act.put, List.setIfInBounds_toArray, List.set_cons_zero, List.set_cons_succ]
          refine rg_take (i := 3) (v := ?vn3) (by simp only [List.getElem?_toArray, List.getElem?_cons_succ, List.getElem?_cons_zero]; rfl) (by kernel_rfl) (by exact fun _ _ _ h => h) (by rfl) ?rn3 hF ?sn3
          case rn3 => (intro W hW; clear hW; go_simp; try with_reducible rfl)
          try simp only [Act.put, List.setIfInBounds_toArray, List.set_cons_zero, List.set_cons_succ]
          refine rg_take (i := 4) (v := ?vn4) (by simp only [List.getElem?_toArray, List.getElem?_cons_succ, List.getElem?_cons_zero]; rfl) (by kernel_rfl) (by exact fun _ _ _ h => h) (by rfl) ?rn4 hF ?sn4
          case rn4 => (intro W9 hW; refine exec_load_mid W9 32 (.tmp 32) ?_ bx 17 ?_ CA _ hW.2.2 Tryz.underlying32 ?_ HiA.out; exact rfl; exact rfl; exact rfl)
          try simp only [Act.put, List.setIfInBounds_toArray, List.set_cons_zero, List.set_cons_succ]
          refine rg_two (i := 5) (j := 10) (oi := ?on5) (oj := ?on10) ?an5 ?an10 ?bn5 ?cn5 ?cn10 ?dn5 ?dn10
          case an5 => (simp only [List.getElem?_toArray, List.getElem?_cons_succ, List.getElem?_cons_zero]; rfl)
          case an10 => (simp only [List.getElem?_toArray, List.getElem?_cons_succ, List.getElem?_cons_zero]; rfl)
          case bn5 => kernel_rfl
          case cn5 => rfl
          case cn10 => rfl
          case dn5 =>
            intro K hK
            (go_simp; refine (PA.out _ (HK.out.trans (Kp.refl No wk).drew)).mono ?_; rintro e w7 ⟨sv7, rfl, ho7, k7⟩; obtain ⟨S7, d7, rfl, hd7⟩ := own_len ho7)
            refine rg_use hK (⟨(HBM.out.no ((Kp.refl No wk).drew.trans k7)).cell 0, range_kp HRM.out ((Kp.refl No wk).drew.trans k7) (fun m => m), range_kp HRA.out ((Kp.refl No wk).drew.trans k7) (fun m => m)⟩) (fun hF => ?_)
            clear hK K
            try simp only [Act.put, List.setIfInBounds_toArray, List.set_cons_zero, List.set_cons_succ]
            refine rg_two (i := 6) (j := 10) (oi := ?onx5x6) (oj := ?onx5x10) ?anx5x6 ?anx5x10 ?bnx5x6 ?cnx5x6 ?cnx5x10 ?dnx5x6 ?dnx5x10
            case anx5x6 => (simp only [List.getElem?_toArray, List.getElem?_cons_succ, List.getElem?_cons_zero]; rfl)
            case anx5x10 => (simp only [List.getElem?_toArray, List.getElem?_cons_succ, List.getElem?_cons_zero]; rfl)
            case bnx5x6 => kernel_rfl
            case cnx5x6 => rfl
            case cnx5x10 => rfl
            case dnx5x6 =>
              intro K hK
              (go_simp; refine (PK.out S7 d7 _ ((Kp.refl No wk).drew.trans k7) (own_slI ho7)).mono ?_; rintro e w8 ⟨k8, v8, D8, t8, rfl, hr8, h88, hc8, ht8⟩; obtain ⟨⟨A8, c8, rfl, _⟩, _⟩ := id hr8; have HD8 := Lib.hid h88; have HT8 := Lib.hid ht8; have HC8 := Lib.hid hc8; clear h88 ht8 hc8)
              refine rg_use hK (⟨(HBM.out.no (((Kp.refl No wk).drew.trans k7).trans k8)).cell 0, range_kp HRM.out (((Kp.refl No wk).drew.trans k7).trans k8) (fun m => m), range_kp HRA.out (((Kp.refl No wk).drew.trans k7).trans k8) (fun m => m)⟩) (fun hF => ?_)
              clear hK K
              try simp only [Act.put, List.setIfInBounds_toArray, List.set_cons_zero, List.set_cons_succ]
              refine rg_take (i := 7) (v := ?vnx5xx6x7) (by simp only [List.getElem?_toArray, List.getElem?_cons_succ, List.getElem?_cons_zero]; rfl) (by kernel_rfl) (by exact fun _ _ _ h => h) (by rfl) ?rnx5xx6x7 hF ?snx5xx6x7
              case rnx5xx6x7 => (intro W hW; clear hW; go_simp; try with_reducible rfl)
              try simp only [Act.put, List.setIfInBounds_toArray, List.set_cons_zero, List.set_cons_succ]
              refine rg_take (i := 8) (v := ?vnx5xx6x8) (by simp only [List.getElem?_toArray, List.getElem?_cons_succ, List.getElem?_cons_zero]; rfl) (by kernel_rfl) (by exact fun _ _ _ h => h) (by rfl) ?rnx5xx6x8 hF ?snx5xx6x8
              case rnx5xx6x8 => (intro W hW; clear hW; go_simp; try with_reducible rfl)
              try simp only [Act.put, List.setIfInBounds_toArray, List.set_cons_zero, List.set_cons_succ]
              refine rg_take (i := 9) (v := ?vnx5xx6x9) (by simp only [List.getElem?_toArray, List.getElem?_cons_succ, List.getElem?_cons_zero]; rfl) (by kernel_rfl) (by exact fun _ _ _ h => h) (by rfl) ?rnx5xx6x9 hF ?snx5xx6x9
              case rnx5xx6x9 => (intro W hW; clear hW; go_simp; try with_reducible rfl)
              try simp only [Act.put, List.setIfInBounds_toArray, List.set_cons_zero, List.set_cons_succ]
              refine rg_one (i := 10) (oi := ?onx5xx6x10) ?anx5xx6x10 ?bnx5xx6x10 ?cnx5xx6x10 ?dnx5xx6x10
              case anx5xx6x10 => (simp only [List.getElem?_toArray, List.getElem?_cons_succ, List.getElem?_cons_zero]; rfl)
              case bnx5xx6x10 => kernel_rfl
              case cnx5xx6x10 => rfl
              intro K hK
              go_simp
              refine rg_use hK (⟨(HBM.out.no ((((Kp.refl No wk).drew.trans k7).trans k8).alloc (.cells #[.slice none 0 0] 42))).cell 0, range_kp HRM.out ((((Kp.refl No wk).drew.trans k7).trans k8).alloc (.cells #[.slice none 0 0] 42)) (fun m => m), range_kp HRA.out ((((Kp.refl No wk).drew.trans k7).trans k8).alloc (.cells #[.slice none 0 0] 42)) (fun m => m)⟩) (fun hF => ?_)
              clear hK K
              try simp only [Act.put, List.setIfInBounds_toArray, List.set_cons_zero, List.set_cons_succ]
              refine rg_one (i := 11) (oi := ?onx5xx6x11) ?anx5xx6x11 ?bnx5xx6x11 ?cnx5xx6x11 ?dnx5xx6x11
              case anx5xx6x11 => (simp only [List.getElem?_toArray, List.getElem?_cons_succ, List.getElem?_cons_zero]; rfl)
              case bnx5xx6x11 => kernel_rfl
              case cnx5xx6x11 => rfl
              intro K hK
              go_simp
              refine rg_use hK (⟨(HBM.out.no ((((Kp.refl No wk).drew.trans k7).trans k8).alloc (.cells #[(.slice A8 D8.length c8)] 42))).cell 0, range_kp HRM.out ((((Kp.refl No wk).drew.trans k7).trans k8).alloc (.cells #[(.slice A8 D8.length c8)] 42)) (fun m => m), range_kp HRA.out ((((Kp.refl No wk).drew.trans k7).trans k8).alloc (.cells #[(.slice A8 D8.length c8)] 42)) (fun m => m)⟩) (fun hF => ?_)
              clear hK K
              try simp only [Act.put, List.setIfInBounds_toArray, List.set_cons_zero, List.set_cons_succ]
              refine rg_take (i := 12) (v := ?vnx5xx6x12) (by simp only [List.getElem?_toArray, List.getElem?_cons_succ, List.getElem?_cons_zero]; rfl) (by kernel_rfl) (by exact fun _ _ _ h => h) (by rfl) ?rnx5xx6x12 hF ?snx5xx6x12
              case rnx5xx6x12 => (intro W hW; clear hW; go_simp; try with_reducible rfl)
              try simp only [Act.put, List.setIfInBounds_toArray, List.set_cons_zero, List.set_cons_succ]
              refine rg_done (by kernel_rfl) ?_
              have HB9 := Lib.hid (show Bk (w8.alloc (.cells #[(.slice A8 D8.length c8)] 42)) w8.heap.size 42 [(.slice A8 D8.length c8)] from Bk.new' rfl rfl)
              have HR9 := Lib.hid (hr8.no ((Kp.refl No w8).alloc (.cells #[(.slice A8 D8.length c8)] 42)))
              have K9 := Lib.hid ((((Kp.refl No wk).drew.trans k7).trans k8).alloc (.cells #[(.slice A8 D8.length c8)] 42))
              have HTT := Lib.hid (show (keepP ps x.m x.a).2 = t8 from (HST.out.keep x.m x.a).2.trans HT8.out.symm)
              clear hF
              go_wp2
              go_meet
              exact ⟨_, A8, D8, c8, t8, rfl, rfl, (show wk.heap.size ≤ w8.heap.size from (((Kp.refl No wk).drew.trans k7).trans k8).size), HB9.out, HR9.out, HD8.out, HC8.out, HTT.out, K9.out⟩
            case dnx5x10 =>
              intro K hK
              go_simp
              refine rg_use hK (⟨(HBM.out.no (((Kp.refl No wk).drew.trans k7).alloc (.cells #[.slice none 0 0] 42))).cell 0, range_kp HRM.out (((Kp.refl No wk).drew.trans k7).alloc (.cells #[.slice none 0 0] 42)) (fun m => m), range_kp HRA.out (((Kp.refl No wk).drew.trans k7).alloc (.cells #[.slice none 0 0] 42)) (fun m => m)⟩) (fun hF => ?_)
              clear hK K
              try simp only [Act.put, List.setIfInBounds_toArray, List.set_cons_zero, List.set_cons_succ]
              refine rg_one (i := 6) (oi := ?onx5xx10x6) ?anx5xx10x6 ?bnx5xx10x6 ?cnx5xx10x6 ?dnx5xx10x6
              case anx5xx10x6 => (simp only [List.getElem?_toArray, List.getElem?_cons_succ, List.getElem?_cons_zero]; rfl)
              case bnx5xx10x6 => kernel_rfl
              case cnx5xx10x6 => rfl
              intro K hK
              (go_simp; refine (PK.out S7 d7 _ (((Kp.refl No wk).drew.trans k7).alloc (.cells #[.slice none 0 0] 42)) (own_slI (own_kp ho7 ((Kp.refl No w7).alloc (.cells #[.slice none 0 0] 42)) fun _ _ m => m))).mono ?_; rintro e w8 ⟨k8, v8, D8, t8, rfl, hr8, h88, hc8, ht8⟩; obtain ⟨⟨A8, c8, rfl, _⟩, _⟩ := id hr8; have HD8 := Lib.hid h88; have HT8 := Lib.hid ht8; have HC8 := Lib.hid hc8; clear h88 ht8 hc8)
              refine rg_use hK (⟨(HBM.out.no ((((Kp.refl No wk).drew.trans k7).alloc (.cells #[.slice none 0 0] 42)).trans k8)).cell 0, range_kp HRM.out ((((Kp.refl No wk).drew.trans k7).alloc (.cells #[.slice none 0 0] 42)).trans k8) (fun m => m), range_kp HRA.out ((((Kp.refl No wk).drew.trans k7).alloc (.cells #[.slice none 0 0] 42)).trans k8) (fun m => m)⟩) (fun hF => ?_)
              clear hK K
              try simp only [Act.put, List.setIfInBounds_toArray, List.set_cons_zero, List.set_cons_succ]
              refine rg_take (i := 7) (v := ?vnx5xx10x7) (by simp only [List.getElem?_toArray, List.getElem?_cons_succ, List.getElem?_cons_zero]; rfl) (by kernel_rfl) (by exact fun _ _ _ h => h) (by rfl) ?rnx5xx10x7 hF ?snx5xx10x7
              case rnx5xx10x7 => (intro W hW; clear hW; go_simp; try with_reducible rfl)
              try simp only [Act.put, List.setIfInBounds_toArray, List.set_cons_zero, List.set_cons_succ]
              refine rg_take (i := 8) (v := ?vnx5xx10x8) (by simp only [List.getElem?_toArray, List.getElem?_cons_succ, List.getElem?_cons_zero]; rfl) (by kernel_rfl) (by exact fun _ _ _ h => h) (by rfl) ?rnx5xx10x8 hF ?snx5xx10x8
              case rnx5xx10x8 => (intro W hW; clear hW; go_simp; try with_reducible rfl)
              try simp only [Act.put, List.setIfInBounds_toArray, List.set_cons_zero, List.set_cons_succ]
              refine rg_take (i := 9) (v := ?vnx5xx10x9) (by simp only [List.getElem?_toArray, List.getElem?_cons_succ, List.getElem?_cons_zero]; rfl) (by kernel_rfl) (by exact fun _ _ _ h => h) (by rfl) ?rnx5xx10x9 hF ?snx5xx10x9
              case rnx5xx10x9 => (intro W hW; clear hW; go_simp; try with_reducible rfl)
              try simp only [Act.put, List.setIfInBounds_toArray, List.set_cons_zero, List.set_cons_succ]
              refine rg_one (i := 11) (oi := ?onx5xx10x11) ?anx5xx10x11 ?bnx5xx10x11 ?cnx5xx10x11 ?dnx5xx10x11
              case anx5xx10x11 => (simp only [List.getElem?_toArray, List.getElem?_cons_succ, List.getElem?_cons_zero]; rfl)
              case bnx5xx10x11 => kernel_rfl
              case cnx5xx10x11 => rfl
              intro K hK
              (have hb := ((show Bk (w7.alloc (.cells #[.slice none 0 0] 42)) w7.heap.size 42 [.slice none 0 0] from Bk.new' (by simp) rfl).no k8); have r0 := hb.cell 0; have rf0 := hb.frozen 0; simp only [List.getElem?_cons_zero] at r0; clear hb; go_simp)
              refine rg_use hK (⟨(HBM.out.no (((((Kp.refl No wk).drew.trans k7).alloc (.cells #[.slice none 0 0] 42)).trans k8).set (.inr (show wk.heap.size ≤ w7.heap.size from ((Kp.refl No wk).drew.trans k7).size)) 0 (.slice A8 D8.length c8))).cell 0, range_kp HRM.out (((((Kp.refl No wk).drew.trans k7).alloc (.cells #[.slice none 0 0] 42)).trans k8).set (.inr (show wk.heap.size ≤ w7.heap.size from ((Kp.refl No wk).drew.trans k7).size)) 0 (.slice A8 D8.length c8)) (fun m => m), range_kp HRA.out (((((Kp.refl No wk).drew.trans k7).alloc (.cells #[.slice none 0 0] 42)).trans k8).set (.inr (show wk.heap.size ≤ w7.heap.size from ((Kp.refl No wk).drew.trans k7).size)) 0 (.slice A8 D8.length c8)) (fun m => m)⟩) (fun hF => ?_)
              clear hK K
              try simp only [Act.put, List.setIfInBounds_toArray, List.set_cons_zero, List.set_cons_succ]
              refine rg_take (i := 12) (v := ?vnx5xx10x12) (by simp only [List.getElem?_toArray, List.getElem?_cons_succ, List.getElem?_cons_zero]; rfl) (by kernel_rfl) (by exact fun _ _ _ h => h) (by rfl) ?rnx5xx10x12 hF ?snx5xx10x12
              case rnx5xx10x12 => (intro W hW; clear hW; go_simp; try with_reducible rfl)
              try simp only [Act.put, List.setIfInBounds_toArray, List.set_cons_zero, List.set_cons_succ]
              refine rg_done (by kernel_rfl) ?_
              have HB9 := Lib.hid (((show Bk (w7.alloc (.cells #[.slice none 0 0] 42)) w7.heap.size 42 [.slice none 0 0] from Bk.new' (by simp) rfl).no k8).set_ 0 (.slice A8 D8.length c8))
              have HR9 := Lib.hid (hr8.kp ((Kp.refl (One w7.heap.size) w8).set (.inl rfl) 0 (.slice A8 D8.length c8)) fun g t cs hb ht e => by
                have e : g = w7.heap.size := e
                subst e
                exact hb.ne_ ((show Bk (w7.alloc (.cells #[.slice none 0 0] 42)) w7.heap.size 42 [.slice none 0 0] from Bk.new' (by simp) rfl).no k8) (by rcases ht with rfl | rfl | rfl <;> decide) rfl)
              have K9 := Lib.hid (((((Kp.refl No wk).drew.trans k7).alloc (.cells #[.slice none 0 0] 42)).trans k8).set (.inr (show wk.heap.size ≤ w7.heap.size from ((Kp.refl No wk).drew.trans k7).size)) 0 (.slice A8 D8.length c8))
              have HTT := Lib.hid (show (keepP ps x.m x.a).2 = t8 from (HST.out.keep x.m x.a).2.trans HT8.out.symm)
              clear hF
              go_wp2
              go_meet
              exact ⟨_, A8, D8, c8, t8, rfl, rfl, (show wk.heap.size ≤ w7.heap.size from ((Kp.refl No wk).drew.trans k7).size), HB9.out, HR9.out, HD8.out, HC8.out, HTT.out, K9.out⟩
          case dn10 =>
            intro K hK
            go_simp
            refine rg_use hK (⟨(HBM.out.no ((Kp.refl No wk).drew.alloc (.cells #[.slice none 0 0] 42))).cell 0, range_kp HRM.out ((Kp.refl No wk).drew.alloc (.cells #[.slice none 0 0] 42)) (fun m => m), range_kp HRA.out ((Kp.refl No wk).drew.alloc (.cells #[.slice none 0 0] 42)) (fun m => m)⟩) (fun hF => ?_)
            clear hK K
            try simp only [Act.put, List.setIfInBounds_toArray, List.set_cons_zero, List.set_cons_succ]
            refine rg_one (i := 5) (oi := ?onx10x5) ?anx10x5 ?bnx10x5 ?cnx10x5 ?dnx10x5
            case anx10x5 => (simp only [List.getElem?_toArray, List.getElem?_cons_succ, List.getElem?_cons_zero]; rfl)
            case bnx10x5 => kernel_rfl
            case cnx10x5 => rfl
            intro K hK
            (go_simp; refine (PA.out _ (HK.out.trans ((Kp.refl No wk).drew.alloc (.cells #[.slice none 0 0] 42)))).mono ?_; rintro e w7 ⟨sv7, rfl, ho7, k7⟩; obtain ⟨S7, d7, rfl, hd7⟩ := own_len ho7)
            refine rg_use hK (⟨(HBM.out.no (((Kp.refl No wk).drew.alloc (.cells #[.slice none 0 0] 42)).trans k7)).cell 0, range_kp HRM.out (((Kp.refl No wk).drew.alloc (.cells #[.slice none 0 0] 42)).trans k7) (fun m => m), range_kp HRA.out (((Kp.refl No wk).drew.alloc (.cells #[.slice none 0 0] 42)).trans k7) (fun m => m)⟩) (fun hF => ?_)
            clear hK K
            try simp only [Act.put, List.setIfInBounds_toArray, List.set_cons_zero, List.set_cons_succ]
            refine rg_one (i := 6) (oi := ?onx10x6) ?anx10x6 ?bnx10x6 ?cnx10x6 ?dnx10x6
            case anx10x6 => (simp only [List.getElem?_toArray, List.getElem?_cons_succ, List.getElem?_cons_zero]; rfl)
            case bnx10x6 => kernel_rfl
            case cnx10x6 => rfl
            intro K hK
            (go_simp; refine (PK.out S7 d7 _ (((Kp.refl No wk).drew.alloc (.cells #[.slice none 0 0] 42)).trans k7) (own_slI ho7)).mono ?_; rintro e w8 ⟨k8, v8, D8, t8, rfl, hr8, h88, hc8, ht8⟩; obtain ⟨⟨A8, c8, rfl, _⟩, _⟩ := id hr8; have HD8 := Lib.hid h88; have HT8 := Lib.hid ht8; have HC8 := Lib.hid hc8; clear h88 ht8 hc8)
            refine rg_use hK (⟨(HBM.out.no ((((Kp.refl No wk).drew.alloc (.cells #[.slice none 0 0] 42)).trans k7).trans k8)).cell 0, range_kp HRM.out ((((Kp.refl No wk).drew.alloc (.cells #[.slice none 0 0] 42)).trans k7).trans k8) (fun m => m), range_kp HRA.out ((((Kp.refl No wk).drew.alloc (.cells #[.slice none 0 0] 42)).trans k7).trans k8) (fun m => m)⟩) (fun hF => ?_)
            clear hK K
            try simp only [Act.put, List.setIfInBounds_toArray, List.set_cons_zero, List.set_cons_succ]
            refine rg_take (i := 7) (v := ?vnx10x7) (by simp only [List.getElem?_toArray, List.getElem?_cons_succ, List.getElem?_cons_zero]; rfl) (by kernel_rfl) (by exact fun _ _ _ h => h) (by rfl) ?rnx10x7 hF ?snx10x7
            case rnx10x7 => (intro W hW; clear hW; go_simp; try with_reducible rfl)
            try simp only [Act.put, List.setIfInBounds_toArray, List.set_cons_zero, List.set_cons_succ]
            refine rg_take (i := 8) (v := ?vnx10x8) (by simp only [List.getElem?_toArray, List.getElem?_cons_succ, List.getElem?_cons_zero]; rfl) (by kernel_rfl) (by exact fun _ _ _ h => h) (by rfl) ?rnx10x8 hF ?snx10x8
            case rnx10x8 => (intro W hW; clear hW; go_simp; try with_reducible rfl)
            try simp only [Act.put, List.setIfInBounds_toArray, List.set_cons_zero, List.set_cons_succ]
            refine rg_take (i := 9) (v := ?vnx10x9) (by simp only [List.getElem?_toArray, List.getElem?_cons_succ, List.getElem?_cons_zero]; rfl) (by kernel_rfl) (by exact fun _ _ _ h => h) (by rfl) ?rnx10x9 hF ?snx10x9
            case rnx10x9 => (intro W hW; clear hW; go_simp; try with_reducible rfl)
            try simp only [Act.put, List.setIfInBounds_toArray, List.set_cons_zero, List.set_cons_succ]
            refine rg_one (i := 11) (oi := ?onx10x11) ?anx10x11 ?bnx10x11 ?cnx10x11 ?dnx10x11
            case anx10x11 => (simp only [List.getElem?_toArray, List.getElem?_cons_succ, List.getElem?_cons_zero]; rfl)
            case bnx10x11 => kernel_rfl
            case cnx10x11 => rfl
            intro K hK
            (have hb := (((show Bk (wk.drew.alloc (.cells #[.slice none 0 0] 42)) wk.heap.size 42 [.slice none 0 0] from Bk.new' (by simp) rfl).no k7).no k8); have r0 := hb.cell 0; have rf0 := hb.frozen 0; simp only [List.getElem?_cons_zero] at r0; clear hb; go_simp)
            refine rg_use hK (⟨(HBM.out.no (((((Kp.refl No wk).drew.alloc (.cells #[.slice none 0 0] 42)).trans k7).trans k8).set (.inr (show wk.heap.size ≤ wk.heap.size from Nat.le_refl _)) 0 (.slice A8 D8.length c8))).cell 0, range_kp HRM.out (((((Kp.refl No wk).drew.alloc (.cells #[.slice none 0 0] 42)).trans k7).trans k8).set (.inr (show wk.heap.size ≤ wk.heap.size from Nat.le_refl _)) 0 (.slice A8 D8.length c8)) (fun m => m), range_kp HRA.out (((((Kp.refl No wk).drew.alloc (.cells #[.slice none 0 0] 42)).trans k7).trans k8).set (.inr (show wk.heap.size ≤ wk.heap.size from Nat.le_refl _)) 0 (.slice A8 D8.length c8)) (fun m => m)⟩) (fun hF => ?_)
            clear hK K
            try simp only [Act.put, List.setIfInBounds_toArray, List.set_cons_zero, List.set_cons_succ]
            refine rg_take (i := 12) (v := ?vnx10x12) (by simp only [List.getElem?_toArray, List.getElem?_cons_succ, List.getElem?_cons_zero]; rfl) (by kernel_rfl) (by exact fun _ _ _ h => h) (by rfl) ?rnx10x12 hF ?snx10x12
            case rnx10x12 => (intro W hW; clear hW; go_simp; try with_reducible rfl)
            try simp only [Act.put, List.setIfInBounds_toArray, List.set_cons_zero, List.set_cons_succ]
            refine rg_done (by kernel_rfl) ?_
            have HB9 := Lib.hid ((((show Bk (wk.drew.alloc (.cells #[.slice none 0 0] 42)) wk.heap.size 42 [.slice none 0 0] from Bk.new' (by simp) rfl).no k7).no k8).set_ 0 (.slice A8 D8.length c8))
            have HR9 := Lib.hid (hr8.kp ((Kp.refl (One wk.heap.size) w8).set (.inl rfl) 0 (.slice A8 D8.length c8)) fun g t cs hb ht e => by
              have e : g = wk.heap.size := e
              subst e
              exact hb.ne_ (((show Bk (wk.drew.alloc (.cells #[.slice none 0 0] 42)) wk.heap.size 42 [.slice none 0 0] from Bk.new' (by simp) rfl).no k7).no k8) (by rcases ht with rfl | rfl | rfl <;> decide) rfl)
            have K9 := Lib.hid (((((Kp.refl No wk).drew.alloc (.cells #[.slice none 0 0] 42)).trans k7).trans k8).set (.inr (show wk.heap.size ≤ wk.heap.size from Nat.le_refl _)) 0 (.slice A8 D8.length c8))
            have HTT := Lib.hid (show (keepP ps x.m x.a).2 = t8 from (HST.out.keep x.m x.a).2.trans HT8.out.symm)
            clear hF
            go_wp2
            go_meet
            exact ⟨_, A8, D8, c8, t8, rfl, rfl, (show wk.heap.size ≤ wk.heap.size from Nat.le_refl _), HB9.out, HR9.out, HD8.out, HC8.out, HTT.out, K9.out⟩
        case rest =>
          obtain ⟨b7, A8, D8, c8, t8, rfl, rfl, hb7, hbk, hrf, h88, hc8, htt, k9⟩ := hcut
          have HTT := Lib.hid htt; have H88 := Lib.hid h88; have HC8 := Lib.hid hc8
          have HR1 := Lib.hid (HR.out.no k9); have HBM1 := Lib.hid (HBM.out.no k9); have HBX1 := Lib.hid (HBO.out.no k9); have HK1 := Lib.hid (HK.out.trans k9)
          have z7 : wc.cell? ⟨b7, 0, none⟩ = some (.slice A8 D8.length c8) := hbk.cell 0
          have zb : wc.cell? ⟨bm, 0, none⟩ = some (.slice A D.length c) := HBM1.out.cell 0
          have zf := HBM1.out.frozen 0
          have hkb : Kp (One bm) wc (wc.setCell ⟨bm, 0, none⟩ (.slice A8 D8.length c8)) := (Kp.refl (One bm) wc).set (.inl rfl) 0 _
          have hnm : ∀ q t cs, Bk wc q t cs → t ≠ 42 → ¬ One bm q := fun q t cs hb ht e => by
            have e : q = bm := e
            subst e
            exact hb.ne_ HBM1.out ht rfl
          have HBM2 := Lib.hid (show Bk (wc.setCell ⟨bm, 0, none⟩ (.slice A8 D8.length c8)) bm 42 [.slice A8 D8.length c8] from HBM1.out.set_ 0 _)
          have HRF2 := Lib.hid (hrf.kp hkb fun g t cs hb ht => hnm g t cs hb (by rcases ht with rfl | rfl | rfl <;> decide))
          have HBX2 := Lib.hid (HBX1.out.kp hkb (hnm _ _ _ HBX1.out (by decide)))
          have HK2 := Lib.hid (HK1.out.set (.inr HBMW.out) 0 (.slice A8 D8.length c8))
          have HR2 := Lib.hid (HR1.out.kp hkb (fun e => by obtain ⟨cs2, h2⟩ := HR1.out.at_; exact hnm _ _ _ h2 (by decide) e) fun q cs hb _ => hnm q _ cs hb (by decide))
          clear hkb hnm hbk hrf h88 hc8 htt k9 HBM HBO HK HR HRF HR1 HBM1 HBX1 HK1 PK HRM HRA
          go_upto_region 11 with (fail)
          generalize wc.setCell ⟨bm, 0, none⟩ (.slice A8 D8.length c8) = wy at *
          clear z7 zb zf
          have HR := HR2; have HK := HK2; have HBO := HBX2
          have HRM := Lib.hid (show wy.rangeAt bx 1 CM from by rw [HCM.out]; exact (op_range (by rw [← HCX.out]; exact HBO.out)).1)
          have HRA := Lib.hid (show wy.rangeAt bx 17 CA from by rw [HCA.out]; exact (op_range (by rw [← HCX.out]; exact HBO.out)).2)
          have hF : (fun W2 => W2.rangeAt bx 1 CM ∧ W2.rangeAt bx 17 CA) wy.drew := ⟨range_kp HRM.out (Kp.refl No wy).drew (fun m => m), range_kp HRA.out (Kp.refl No wy).drew (fun m => m)⟩
          refine rg_begin (fun W2 => W2.rangeAt bx 1 CM ∧ W2.rangeAt bx 17 CA) 10 (by kernel_rfl) ?_
          refine rg_take (i := 0) (v := ?vq0) (by simp only [List.getElem?_toArray, List.getElem?_cons_zero]; rfl) (by kernel_rfl) (by exact fun _ _ _ h => h) (by rfl) ?rq0 hF ?sq0
          case rq0 => (intro W hW; clear hW; go_simp; try with_reducible rfl)
          try simp only [Act.put, List.setIfInBounds_toArray, List.set_cons_zero, List.set_cons_succ]
          refine rg_take (i := 1) (v := ?vq1) (by simp only [List.getElem?_toArray, List.getElem?_cons_succ, List.getElem?_cons_zero]; rfl) (by kernel_rfl) (by exact fun _ _ _ h => h) (by rfl) ?rq1 hF ?sq1
          case rq1 => (intro W hW; clear hW; go_simp; try with_reducible rfl)
          try simp only [Act.put, List.setIfInBounds_toArray, List.set_cons_zero, List.set_cons_succ]
          refine rg_take (i := 2) (v := ?vq2) (by simp only [List.getElem?_toArray, List.getElem?_cons_succ, List.getElem?_cons_zero]; rfl) (by kernel_rfl) (by exact fun _ _ _ h => h) (by rfl) ?rq2 hF ?sq2
          case rq2 => (intro W9 hW; refine exec_load_mid W9 32 (.tmp 40) ?_ bx 1 ?_ CM _ hW.1 Tryz.underlying32 ?_ HiM.out; exact rfl; exact rfl; exact rfl)
          try simp only [Act.put, List.setIfInBounds_toArray, List.set_cons_zero, List.set_cons_succ]
          refine rg_take (i := 4) (v := ?vq4) (by simp only [List.getElem?_toArray, List.getElem?_cons_succ, List.getElem?_cons_zero]; rfl) (by kernel_rfl) (by exact fun _ _ _ h => h) (by rfl) ?rq4 hF ?sq4
          case rq4 => (intro W hW; clear hW; go_simp; try with_reducible rfl)
          try simp only [Act.put, List.setIfInBounds_toArray, List.set_cons_zero, List.set_cons_succ]
          refine rg_take (i := 5) (v := ?vq5) (by simp only [List.getElem?_toArray, List.getElem?_cons_succ, List.getElem?_cons_zero]; rfl) (by kernel_rfl) (by exact fun _ _ _ h => h) (by rfl) ?rq5 hF ?sq5
          case rq5 => (intro W9 hW; refine exec_load_mid W9 32 (.tmp 43) ?_ bx 17 ?_ CA _ hW.2 Tryz.underlying32 ?_ HiA.out; exact rfl; exact rfl; exact rfl)
          try simp only [Act.put, List.setIfInBounds_toArray, List.set_cons_zero, List.set_cons_succ]
          refine rg_take (i := 8) (v := ?vq8) (by simp only [List.getElem?_toArray, List.getElem?_cons_succ, List.getElem?_cons_zero]; rfl) (by kernel_rfl) (by exact fun _ _ _ h => h) (by rfl) ?rq8 hF ?sq8
          case rq8 => (intro W hW; clear hW; go_simp; try with_reducible rfl)
          try simp only [Act.put, List.setIfInBounds_toArray, List.set_cons_zero, List.set_cons_succ]
          refine rg_one (i := 3) (oi := ?oq3) ?aq3 ?bq3 ?cq3 ?dq3
          case aq3 => (simp only [List.getElem?_toArray, List.getElem?_cons_succ, List.getElem?_cons_zero]; rfl)
          case bq3 => kernel_rfl
          case cq3 => rfl
          intro K hK
          (go_simp; refine (PM.out _ (HK.out.trans (Kp.refl No wy).drew)).mono ?_; rintro e w7 ⟨sv7, rfl, ho7, k7⟩; obtain ⟨S7, d7, rfl, hd7⟩ := own_len ho7)
          refine rg_use hK (⟨range_kp hF.1 k7 (fun m => m), range_kp hF.2 k7 (fun m => m)⟩) (fun hF => ?_)
          clear hK K
          try simp only [Act.put, List.setIfInBounds_toArray, List.set_cons_zero, List.set_cons_succ]
          refine rg_one (i := 6) (oi := ?oq6) ?aq6 ?bq6 ?cq6 ?dq6
          case aq6 => (simp only [List.getElem?_toArray, List.getElem?_cons_succ, List.getElem?_cons_zero]; rfl)
          case bq6 => kernel_rfl
          case cq6 => rfl
          intro K hK
          (go_simp; refine (PA.out _ ((HK.out.trans (Kp.refl No wy).drew).trans k7)).mono ?_; rintro e w8 ⟨sv8, rfl, ho8, k8⟩; obtain ⟨S8, d8, rfl, hd8⟩ := own_len ho8)
          refine rg_use hK (⟨range_kp hF.1 k8 (fun m => m), range_kp hF.2 k8 (fun m => m)⟩) (fun hF => ?_)
          clear hK K
          try simp only [Act.put, List.setIfInBounds_toArray, List.set_cons_zero, List.set_cons_succ]
          refine rg_one (i := 7) (oi := ?oq7) ?aq7 ?bq7 ?cq7 ?dq7
          case aq7 => (simp only [List.getElem?_toArray, List.getElem?_cons_succ, List.getElem?_cons_zero]; rfl)
          case bq7 => kernel_rfl
          case cq7 => rfl
          intro K hK
          (go_simp; refine (rkeep_any b (fun _ => True) ps x.m x.a (.slice S7 x.m.stamp.length d7) (.slice S8 x.a.stamp.length d8) _ (HR.out.no (((Kp.refl No wy).drew.trans k7).trans k8)) ((own_slI ho7).no k8) HOK.out.1.2.1 HOK.out.1.2.2.1 (own_slI ho8) HOK.out.2.2.1 HOK.out.2.2.2.1).mono ?_; rintro e w9 ⟨hr9, k9, he9⟩; rw [HTT.out] at he9; subst he9)
          refine rg_use hK (⟨range_kp hF.1 k9 HBX.out, range_kp hF.2 k9 HBX.out⟩) (fun hF => ?_)
          clear hK K
          try simp only [Act.put, List.setIfInBounds_toArray, List.set_cons_zero, List.set_cons_succ]
          refine rg_take (i := 9) (v := ?vq9) (by simp only [List.getElem?_toArray, List.getElem?_cons_succ, List.getElem?_cons_zero]; rfl) (by kernel_rfl) (by exact fun _ _ _ h => h) (by rfl) ?rq9 hF ?sq9
          case rq9 => (intro W hW; clear hW; go_simp; try with_reducible rfl)
          try simp only [Act.put, List.setIfInBounds_toArray, List.set_cons_zero, List.set_cons_succ]
          refine rg_done (by kernel_rfl) ?_
          have hnb : ∀ q t cs, Bk w8 q t cs → t ≠ 69 → ¬ One b q := fun q t cs hb ht e => by
            have e : q = b := e
            subst e
            obtain ⟨cs2, h2⟩ := (HR.out.no (((Kp.refl No wy).drew.trans k7).trans k8)).at_
            exact hb.ne_ h2 ht rfl
          have hk8 : Kp No wy w8 := ((Kp.refl No wy).drew.trans k7).trans k8
          have h1 := (HBM2.out.no hk8).kp k9 (hnb _ _ _ (HBM2.out.no hk8) (by decide))
          have h2 := (HRF2.out.no hk8).kp k9 fun g t cs hb ht => hnb g t cs hb (by rcases ht with rfl | rfl | rfl <;> decide)
          have h3 := HST.out.keep x.m x.a
          rw [← HC8.out] at h3
          have HFIN := Lib.hid (show PlAt W b bm w9 from ⟨_, D8, A8, c8, hr9.mono (Q := fun _ => True) fun _ _ => trivial, h3.1, by rw [HC8.out]; exact HLC.out.keep HST.out.lc x.m x.a, by rw [HC8.out]; exact HSH.out.keep HST.out.lc x.m x.a (by have := HOK.out.2.2.2.2.1; omega), H88.out, h1, h2, (HK.out.trans hk8).then_ k9 fun i hi e => by have e : i = b := e; have := HBW.out; omega⟩)
          clear h1 h2 h3 hnb hk8 hF hr9 k9 k8 k7 ho7 ho8
          go_wp2
          go_meet
          exact HFIN.out
      · have d1 : (x.kind == 1) = false := by rw [beq_eq_false_iff_ne]; exact h1
        clear h1
        have PS := Lib.hid (show Calls Tryz.prog 18 #[.agg #[.slice A D.length c], .agg CM.toArray] wk (SeenD D x.m wk) from by
          rw [HCM.out]
          exact dseen_any A c D x.m x.A x.c wk HRF.out H8.out (lens_of HST.out) (HOK.out.1.1.no HK.out) (by have := HOK.out.1.2.2.2.1; unfold maxLen; omega) HOK.out.1.2.2.2.2 (lows_of HST.out HLC.out))
        go_upto_region 13 with (fail)
        go_cut [9, 10, 11] (fun p q r wx => ∃ b9 b11 A5 D5 c5 vd a5 A6 c6, p = .pointer (some ⟨b9, 0, none⟩) ∧ q = .int .i64 vd ∧ r = .pointer (some ⟨b11, 0, none⟩) ∧ wk.heap.size ≤ b9 ∧ Bk wx b9 42 [.slice A5 D5.length c5] ∧ Bk wx b11 32 (mcells a5 (.slice A6 a5.stamp.length c6)) ∧ RefR wx (.slice A5 D5.length c5) D5 ∧ D5.length = 8 ∧ D5.map toCl = (seenS (D.map toCl) x.m).1 ∧ (vd, a5) = (seenS (D.map toCl) x.m).2 ∧ SlI wx (.slice A6 a5.stamp.length c6) a5.stamp ∧ Kp No wk wx)
        case first =>
          have zb : wk.cell? ⟨bm, 0, none⟩ = some (.slice A D.length c) := HBM.out.cell 0
          go_wp2_with (with_reducible refine wpList_load_mid rfl _ _ rfl bx 1 rfl CM _ HRM.out HUH.out rfl HiM.out ?_)
          refine PS.out.mono ?_
          rintro e w5 ⟨k5, v5, D5, a5, sv5, vd, rfl, hr5, h85, hl5, hc5, hv5, hsl5⟩
          have hr0 := hr5
          obtain ⟨⟨A5, c5, rfl, _, _⟩, _⟩ := hr0
          have hs0 := hsl5
          obtain ⟨A6, c6, rfl, _, _⟩ := hs0
          have HK5 := Lib.hid k5; have HR5 := Lib.hid hr5; have H85 := Lib.hid h85; have HC5 := Lib.hid hc5; have HV5 := Lib.hid hv5; have HS5 := Lib.hid hsl5
          have HB1 := Lib.hid (show Bk ((w5.alloc (.cells #[.slice A5 D5.length c5] 42)).alloc (.cells #[.int .i64 0, .int .i64 0, .int .i64 0, .int .i64 0, .int .i64 0, .int .i64 0, .int .i64 0, .string ⟨#[]⟩, .int .i64 0, .int .i64 0, .int .i64 0, .bool false, .int .i64 0, .slice none 0 0, .int .i64 0, .int .i64 0] 32)) (w5.heap.size + 1) 32 (mcells ({} : Msg) (.slice none 0 0)) from Bk.new' (by simp) rfl)
          have HTH := Lib.hid (show World.there ((w5.alloc (.cells #[.slice A5 D5.length c5] 42)).alloc (.cells #[.int .i64 0, .int .i64 0, .int .i64 0, .int .i64 0, .int .i64 0, .int .i64 0, .int .i64 0, .string ⟨#[]⟩, .int .i64 0, .int .i64 0, .int .i64 0, .bool false, .int .i64 0, .slice none 0 0, .int .i64 0, .int .i64 0] 32)) (w5.heap.size + 1) 0 (mcells a5 (.slice A6 a5.stamp.length c6)).toArray.size from HB1.out.there 0 _ (by simp [mcells]))
          clear hr5 h85 hl5 hc5 hv5 hsl5 k5 zb
          go_wp2_with (with_reducible refine wpList_store_mid rfl _ _ _ rfl (w5.heap.size + 1) 0 (mcells a5 (.slice A6 a5.stamp.length c6)).toArray rfl rfl HTH.out (msg_info _ _) (msg_one _ _ _ _) ?_)
          generalize hw6 : World.setCells ((w5.alloc (.cells #[.slice A5 D5.length c5] 42)).alloc (.cells #[.int .i64 0, .int .i64 0, .int .i64 0, .int .i64 0, .int .i64 0, .int .i64 0, .int .i64 0, .string ⟨#[]⟩, .int .i64 0, .int .i64 0, .int .i64 0, .bool false, .int .i64 0, .slice none 0 0, .int .i64 0, .int .i64 0] 32)) (w5.heap.size + 1) 0 (mcells a5 (.slice A6 a5.stamp.length c6)) = w6
          have k6 : Kp No w5 w6 := by rw [← hw6]; exact Kp.sets _ 0 (((Kp.refl No w5).alloc _).alloc _) (.inr (by omega))
          have hb6 : Bk w6 w5.heap.size 42 [.slice A5 D5.length c5] := by
            rw [← hw6]
            exact ((show Bk (w5.alloc (.cells #[.slice A5 D5.length c5] 42)) w5.heap.size 42 [.slice A5 D5.length c5] from Bk.new' rfl rfl).alloc _).kp (Kp.sets _ 0 (Kp.refl (One (w5.heap.size + 1)) _) (.inl rfl)) (fun e => by have e : w5.heap.size = w5.heap.size + 1 := e; omega)
          have hb7 : Bk w6 (w5.heap.size + 1) 32 (mcells a5 (.slice A6 a5.stamp.length c6)) := by
            rw [← hw6]
            have h := Bk.sets (mcells a5 (.slice A6 a5.stamp.length c6)) 0 HB1.out (by simp [mcells])
            rw [List.take_zero, List.nil_append, List.drop_of_length_le (by simp [mcells]), List.append_nil] at h
            exact h
          have HX1 := Lib.hid hb6; have HX2 := Lib.hid hb7; have HX3 := Lib.hid k6
          clear hw6 HB1 HTH hb6 hb7 k6
          go_meet
          exact ⟨_, _, A5, D5, c5, vd, a5, A6, c6, rfl, rfl, rfl, HK5.out.size, HX1.out, HX2.out, HR5.out.no HX3.out, H85.out, HC5.out, HV5.out, HS5.out.no HX3.out, HK5.out.trans HX3.out⟩
        case rest =>
          obtain ⟨b9, b11, A5, D5, c5, vd, a5, A6, c6, rfl, rfl, rfl, hb9, hbk, hbk2, hrf, h85, hc5, hv5, hsl, k9⟩ := hcut
          have H88 := Lib.hid h85; have HC8 := Lib.hid hc5; have HV5 := Lib.hid hv5
          have HR1 := Lib.hid (HR.out.no k9); have HBM1 := Lib.hid (HBM.out.no k9); have HBX1 := Lib.hid (HBO.out.no k9); have HK1 := Lib.hid (HK.out.trans k9)
          have z7 : wc.cell? ⟨b9, 0, none⟩ = some (.slice A5 D5.length c5) := hbk.cell 0
          have zb : wc.cell? ⟨bm, 0, none⟩ = some (.slice A D.length c) := HBM1.out.cell 0
          have zf := HBM1.out.frozen 0
          have hkb : Kp (One bm) wc (wc.setCell ⟨bm, 0, none⟩ (.slice A5 D5.length c5)) := (Kp.refl (One bm) wc).set (.inl rfl) 0 _
          have hnm : ∀ q t cs, Bk wc q t cs → t ≠ 42 → ¬ One bm q := fun q t cs hb ht e => by
            have e : q = bm := e
            subst e
            exact hb.ne_ HBM1.out ht rfl
          have HBM2 := Lib.hid (show Bk (wc.setCell ⟨bm, 0, none⟩ (.slice A5 D5.length c5)) bm 42 [.slice A5 D5.length c5] from HBM1.out.set_ 0 _)
          have HRF2 := Lib.hid (hrf.kp hkb fun g t cs hb ht => hnm g t cs hb (by rcases ht with rfl | rfl | rfl <;> decide))
          have HBX2 := Lib.hid (HBX1.out.kp hkb (hnm _ _ _ HBX1.out (by decide)))
          have HWA := Lib.hid (hbk2.kp hkb (hnm _ _ _ hbk2 (by decide))); have HWS := Lib.hid (hsl.kp hkb fun g cs hb => hnm g _ cs hb (by decide))
          have HK2 := Lib.hid (HK1.out.set (.inr HBMW.out) 0 (.slice A5 D5.length c5))
          have HR2 := Lib.hid (HR1.out.kp hkb (fun e => by obtain ⟨cs2, h2⟩ := HR1.out.at_; exact hnm _ _ _ h2 (by decide) e) fun q cs hb _ => hnm q _ cs hb (by decide))
          clear hkb hnm hbk hbk2 hrf h85 hc5 hv5 hsl k9 HBM HBO HK HR HRF HR1 HBM1 HBX1 HK1 PS HRM HRA
          go_upto_region 15 with (fail)
          generalize wc.setCell ⟨bm, 0, none⟩ (.slice A5 D5.length c5) = wy at *
          clear z7 zb zf
          have HR := HR2; have HK := HK2; have HBO := HBX2
          have HRM := Lib.hid (show wy.rangeAt bx 1 CM from by rw [HCM.out]; exact (op_range (by rw [← HCX.out]; exact HBO.out)).1)
          go_cut [12, 13] (fun p q wx => ∃ b13 sv, p = .int .i64 (seenP ps x.m).2.1 ∧ q = .pointer (some ⟨b13, 0, none⟩) ∧ wy.heap.size ≤ b13 ∧ Bk wx b13 32 (mcells (seenP ps x.m).2.2 sv) ∧ SlI wx sv (seenP ps x.m).2.2.stamp ∧ RpB wx b (fun _ => True) (seenP ps x.m).1 ∧ Kp (One b) wy wx)
          case first =>
            go_wp2_with (with_reducible refine wpList_load_mid rfl _ _ rfl bx 1 rfl CM _ HRM.out HUH.out rfl HiM.out ?_)
            refine (PM.out _ HK.out).mono ?_
            rintro e w7 ⟨sv7, rfl, ho7, k7⟩
            obtain ⟨S7, d7, rfl, hd7⟩ := own_len ho7
            have HK7 := Lib.hid k7
            have pq := rseen_any b (fun _ => True) ps x.m (.slice S7 x.m.stamp.length d7) w7 (HR.out.no k7) (own_slI ho7) HOK.out.1.2.1 HOK.out.1.2.2.1
            clear k7 ho7 hd7
            go_wp2_with fail
            refine pq.mono ?_
            rintro e w5 ⟨hr5, k5, sv5, rfl, ho5⟩
            have HR5 := Lib.hid hr5; have HK5 := Lib.hid k5; have HO5 := Lib.hid (own_slI ho5)
            obtain ⟨A7, c7, rfl, _⟩ := own_len ho5
            clear hr5 k5 ho5 pq
            generalize hsn : seenP ps x.m = sn at *
            obtain ⟨ps5, v7, a7⟩ := sn
            clear hsn
            simp only at HR5 HO5
            go_wp2_with (with_reducible refine wpList_store_mid rfl _ _ _ rfl w5.heap.size 0 (mcells a7 (.slice A7 a7.stamp.length c7)).toArray rfl rfl (msg_there _ _ _) (msg_info _ _) (msg_one _ _ _ _) ?_)
            have g6 := msg_store w5 a7 A7 a7.stamp.length c7
            generalize hw6 : World.setCells _ w5.heap.size 0 _ = w6
            rw [show (w5.alloc (.cells #[.int .i64 0, .int .i64 0, .int .i64 0, .int .i64 0, .int .i64 0, .int .i64 0, .int .i64 0, .string ⟨#[]⟩, .int .i64 0, .int .i64 0, .int .i64 0, .bool false, .int .i64 0, .slice none 0 0, .int .i64 0, .int .i64 0] 32)).setCells w5.heap.size 0 (mcells a7 (.slice A7 a7.stamp.length c7)) = w6 from hw6] at g6
            clear hw6
            obtain ⟨b6, k6⟩ := g6
            have HX1 := Lib.hid b6; have HX2 := Lib.hid k6
            clear b6 k6
            go_meet
            exact ⟨_, _, rfl, rfl, Nat.le_trans HK7.out.size HK5.out.size, HX1.out, HO5.out.no HX2.out, HR5.out.no HX2.out, ((HK7.out.of_no (M := One b)).trans HK5.out).trans HX2.out.of_no⟩
          case rest =>
            obtain ⟨b13, sv, rfl, rfl, hb13, hbk13, hsl13, hr13, k13⟩ := hcut
            have h3 := HST.out.seen x.m
            have hv5 := HV5.out
            rw [← h3.2] at hv5
            have ev : vd = (seenP ps x.m).2.1 := congrArg Prod.fst hv5
            have ea : a5 = (seenP ps x.m).2.2 := congrArg Prod.snd hv5
            have hln : (seenP ps x.m).2.2.stamp.length ≤ 17592186044416 := by rw [h3.2]; exact (HSH.out.seen HST.out.lc x.m).2
            subst ev
            subst ea
            have h31 := h3.1
            rw [← HC8.out] at h31
            have HS3 := Lib.hid h31; have HLN := Lib.hid hln
            have hnb : ∀ q t cs, Bk wy q t cs → t ≠ 69 → ¬ One b q := fun q t cs hb ht e => by
              have e : q = b := e
              subst e
              obtain ⟨cs2, h2⟩ := HR.out.at_
              exact hb.ne_ h2 ht rfl
            have HBM3 := Lib.hid (HBM2.out.kp k13 (hnb _ _ _ HBM2.out (by decide)))
            have HRF3 := Lib.hid (HRF2.out.kp k13 fun g t cs hb ht => hnb g t cs hb (by rcases ht with rfl | rfl | rfl <;> decide))
            have HWA3 := Lib.hid (HWA.out.kp k13 (hnb _ _ _ HWA.out (by decide)))
            have HWS3 := Lib.hid (HWS.out.kp k13 fun g cs hb => hnb g _ cs hb (by decide))
            have HK3 := Lib.hid (HK.out.then_ k13 fun i hi e => by have e : i = b := e; have := HBW.out; omega)
            have HR3 := Lib.hid hr13
            obtain ⟨A7, c7, rfl, _⟩ : ∃ A7 c7, sv = .slice A7 (seenP ps x.m).2.2.stamp.length c7 ∧ True := by obtain ⟨A7, c7, e, _⟩ := hsl13; exact ⟨A7, c7, e, trivial⟩
            have pz := rsame_any (seenP ps x.m).2.2 (seenP ps x.m).2.2 A7 A6 c7 c6 wc hsl13.arg HWS3.out.arg (by unfold maxLen; omega) (by unfold maxLen; omega)
            rw [decide_eq_true rfl] at pz
            obtain ⟨CP, hCP⟩ : ∃ C, C = mcells (seenP ps x.m).2.2 (.slice A7 (seenP ps x.m).2.2.stamp.length c7) := ⟨_, rfl⟩
            obtain ⟨CW, hCW⟩ : ∃ C, C = mcells (seenP ps x.m).2.2 (.slice A6 (seenP ps x.m).2.2.stamp.length c6) := ⟨_, rfl⟩
            rw [← hCP, ← hCW] at pz
            have HRP := Lib.hid (show wc.rangeAt b13 0 CP from by rw [hCP]; exact range_of hbk13)
            have HRW := Lib.hid (show wc.rangeAt b11 0 CW from by rw [hCW]; exact range_of HWA3.out)
            have hiP : Hid ((Tryz.prog.info? 32).map (·.size) = some CP.length) := Lib.hid (by rw [hCP]; kernel_rfl)
            have hiW : Hid ((Tryz.prog.info? 32).map (·.size) = some CW.length) := Lib.hid (by rw [hCW]; kernel_rfl)
            clear hbk13 hsl13 hr13 k13 h3 hv5 hln h31 hnb hCP hCW HK HR HBM2 HRF2 HWA HWS HWA3 HWS3 HK2 HR2 HBX2 HBO HRM
            generalize hsn : seenP ps x.m = sn at *
            go_wp2_with (first
              | (refine wpList_load_mid_g (by rfl) _ _ rfl b13 0 rfl CP _ HRP.out HUH.out rfl hiP.out ?_)
              | (refine wpList_load_mid_g (by rfl) _ _ rfl b11 0 rfl CW _ HRW.out HUH.out rfl hiW.out ?_))
            refine pz.mono ?_
            rintro e w9 ⟨rfl, k9⟩
            have HFIN := Lib.hid (show PlAt W b bm w9 from ⟨_, D5, A5, c5, HR3.out.no k9, HS3.out, by rw [HC8.out]; exact HLC.out.seen HST.out.lc x.m, by rw [HC8.out]; exact (HSH.out.seen HST.out.lc x.m).1, H88.out, HBM3.out.no k9, HRF3.out.no k9, HK3.out.trans k9⟩)
            clear pz k9
            go_wp2
            go_meet
            exact HFIN.out
    case rest =>
      have HPL := Lib.hid hcut
      clear hcut HR HST HLC HSH H8 HBM HRF HK HBO HBX
      go_wp2
      go_loopw [14] (fun i wr => ∃ j : Int, -1 ≤ j ∧ j ≤ 9 ∧ i = .int .i64 j ∧ PlAt W b bm wr) (fun i _ => (9 - intOf i).toNat)
      case atStart => exact ⟨-1, by omega, by omega, rfl, HPL.out⟩
      case round =>
      obtain ⟨j, hj1, hj2, rfl, hpl⟩ := hrel
      clear HPL
      have HPL := Lib.hid hpl
      by_cases hj8 : j ≤ 8
      · obtain ⟨ps, D, A, c, hr, hst, _, _, h8, hbm, hrf, hkp⟩ := hpl
        have HR := Lib.hid hr; have H8 := Lib.hid h8; have HBM := Lib.hid hbm; have HRF := Lib.hid hrf
        obtain ⟨LN, hLN⟩ : ∃ n, n = lenP ps j := ⟨_, rfl⟩
        have HLN := Lib.hid hLN.symm
        have HLM := Lib.hid (show lenS (D.map toCl) j = LN from by rw [hLN]; exact (hst.len j).symm)
        clear hr h8 hbm hrf hkp hLN hst
        go_upto_region 21 with (fail)
        have hF : (fun W2 => W2.cell? ⟨bm, 0, none⟩ = some (.slice A D.length c)) wr.drew := (HBM.out.no (Kp.refl No wr).drew).cell 0
        refine rg_begin (fun W2 => W2.cell? ⟨bm, 0, none⟩ = some (.slice A D.length c)) 7 (by kernel_rfl) ?_
        refine rg_take (i := 0) (v := ?vz0) (by simp only [List.getElem?_toArray, List.getElem?_cons_zero]; rfl) (by kernel_rfl) (by exact fun _ _ _ h => h) (by rfl) ?rz0 hF ?sz0
        case rz0 => (intro W hW; clear hW; go_simp; try with_reducible rfl)
        try simp only [Act.put, List.setIfInBounds_toArray, List.set_cons_zero, List.set_cons_succ]
        refine rg_take (i := 1) (v := ?vz1) (by simp only [List.getElem?_toArray, List.getElem?_cons_succ, List.getElem?_cons_zero]; rfl) (by kernel_rfl) (by exact fun _ _ _ h => h) (by rfl) ?rz1 hF ?sz1
        case rz1 => (intro W hW; clear hW; go_simp; try with_reducible rfl)
        try simp only [Act.put, List.setIfInBounds_toArray, List.set_cons_zero, List.set_cons_succ]
        refine rg_take (i := 3) (v := ?vz3) (by simp only [List.getElem?_toArray, List.getElem?_cons_succ, List.getElem?_cons_zero]; rfl) (by kernel_rfl) (by exact fun _ _ _ h => h) (by rfl) ?rz3 hF ?sz3
        case rz3 => (intro W9 hW; have z0 : W9.cell? ⟨bm, 0, none⟩ = some (.slice A D.length c) := hW; go_simp; try with_reducible rfl)
        try simp only [Act.put, List.setIfInBounds_toArray, List.set_cons_zero, List.set_cons_succ]
        refine rg_take (i := 4) (v := ?vz4) (by simp only [List.getElem?_toArray, List.getElem?_cons_succ, List.getElem?_cons_zero]; rfl) (by kernel_rfl) (by exact fun _ _ _ h => h) (by rfl) ?rz4 hF ?sz4
        case rz4 => (intro W hW; clear hW; go_simp; try with_reducible rfl)
        try simp only [Act.put, List.setIfInBounds_toArray, List.set_cons_zero, List.set_cons_succ]
        refine rg_one (i := 2) (oi := ?oz2) ?az2 ?bz2 ?cz2 ?dz2
        case az2 => (simp only [List.getElem?_toArray, List.getElem?_cons_succ, List.getElem?_cons_zero]; rfl)
        case bz2 => kernel_rfl
        case cz2 => rfl
        intro K hK
        (go_simp; refine (rlen_any b (fun _ => True) ps j _ (HR.out.no (Kp.refl No wr).drew)).mono ?_; rintro e w7 ⟨he7, k7⟩; rw [HLN.out] at he7; subst he7)
        refine rg_use hK (((HBM.out.no (Kp.refl No wr).drew).no k7).cell 0) (fun hF => ?_)
        clear hK K
        try simp only [Act.put, List.setIfInBounds_toArray, List.set_cons_zero, List.set_cons_succ]
        refine rg_one (i := 5) (oi := ?oz5) ?az5 ?bz5 ?cz5 ?dz5
        case az5 => (simp only [List.getElem?_toArray, List.getElem?_cons_succ, List.getElem?_cons_zero]; rfl)
        case bz5 => kernel_rfl
        case cz5 => rfl
        intro K hK
        (go_simp; refine (dlen_any (.slice A D.length c) D j _ ((HRF.out.no (Kp.refl No wr).drew).no k7) H8.out).mono ?_; rintro e w8 ⟨he8, k8⟩; rw [HLM.out] at he8; subst he8)
        refine rg_use hK ((((HBM.out.no (Kp.refl No wr).drew).no k7).no k8).cell 0) (fun hF => ?_)
        clear hK K
        try simp only [Act.put, List.setIfInBounds_toArray, List.set_cons_zero, List.set_cons_succ]
        refine rg_take (i := 6) (v := ?vz6) (by simp only [List.getElem?_toArray, List.getElem?_cons_succ, List.getElem?_cons_zero]; rfl) (by kernel_rfl) (by exact fun _ _ _ h => h) (by rfl) ?rz6 hF ?sz6
        case rz6 => (intro W hW; clear hW; go_simp; try with_reducible rfl)
        try simp only [Act.put, List.setIfInBounds_toArray, List.set_cons_zero, List.set_cons_succ]
        refine rg_done (by kernel_rfl) ?_
        have HP9 := Lib.hid (HPL.out.no (((Kp.refl No wr).drew.trans k7).trans k8))
        clear k7 k8 hF
        go_wp2
        go_roundw
        case rel => exact ⟨j + 1, by omega, by omega, rfl, HP9.out⟩
        case measure => simp [intOf]; omega
      · clear hpl
        go_wp2
        go_roundw
        case rel => exact ⟨k + 1, by omega, by go_num, HPL.out⟩
        case measure => simp [intOf]; omega
  · have hk1 : ¬ (k : Int) < (l.length : Int) := by omega
    go_wp2
    go_ret
    exact ⟨rfl, HPL.out.kp.below (Nat.le_refl _) fun _ _ m => m⟩

/-! ### The row's step -/
set_option maxRecDepth 100000 in
theorem lifted (os : Os) (started : os.Started) (H : Type) (enc : TypeId × Value → H) :
    ReturnsInHanded {} Tryz.checked os 4 .any (Rows.repliesPlaysSpec.pre6 enc Tryz.prog Tryz.f4 Rows.repliesPlaysRow.domain false) (Rows.repliesPlaysSpec.post enc Tryz.prog Tryz.f4 false true false false) := by
  refine returnsInHanded_of_change_sized (C := Tryz.checked) own started (by kernel_rfl) Tryz.func4
    (ChangeSpec.witness6 (enc := enc) (C := Tryz.checked) false ⟨#[], #[.slice none 0 0], []⟩ 8 (by kernel_rfl) (by kernel_rfl) (by kernel_rfl) (by kernel_rfl)) ?_
  intro W base args ds gs before hval0 hW hcnd hsz0 _
  have hval : ∀ (j : Nat) t v, Tryz.f4.params[j]? = some t → args[j]? = some v → Value.okWide Tryz.prog W .any base t v := hval0
  have hW' := hW
  obtain ⟨p, q, hA0, hV, rfl, hfz, hnd⟩ := hW
  have hA : DataW.TrodAll enc Tryz.prog W 0 (fun _ => true) true Tryz.f4.params.toList args.toList ds p := hA0
  rw [Tryz.params4] at hA hval
  obtain ⟨v0, vs0, d0, ds0, p0, q0, hargs, rfl, rfl, h0, r0⟩ := trodAll_cons hA
  obtain ⟨rfl, rfl, rfl⟩ := trodAll_nil r0
  obtain rfl : args = #[v0] := by cases args; simp_all
  obtain ⟨rfl, rfl⟩ := trodVars_none hV
  have hsz : ∀ (j : Nat) (t : TypeId) (d : DataW H), ([39] : List TypeId)[j]? = some t → [d0][j]? = some d → ∀ n ∈ d.weights Tryz.prog t, n ≤ reachBytes := by
    intro j t d ht hd n hn
    have hsz1 : (DataW.weightsEach Tryz.prog ([39] : List TypeId) [d0]).all (· ≤ reachBytes) = true := hsz0
    have := List.all_eq_true.1 hsz1 n (DataW.weights_mem_each ht hd n hn)
    simpa using this
  have k0 := h0
  have lt0 : ∀ x ∈ p0, x.block < W.heap.size := by obtain ⟨m, hm⟩ := k0; exact DataW.trod_lt m _ _ _ hm
  obtain ⟨l0, hl0, hs0⟩ := open_ops (hval 0 39 v0 rfl rfl) h0 (hsz 0 39 _ rfl rfl)
  refine (walk v0 l0 W hl0 hs0).mono fun e W' ⟨he, bel⟩ => ?_
  subst he
  exact ⟨_, rfl, _, _, _, [], _, [], hW', trodAll_mk1 (shut_bool Tryz.underlying4 _), (trodAll_cons_mk (Below.trod laidOut (by kernel_rfl) (of_decide_eq_true (by kernel_rfl)) k0 bel lt0) trodAll_mk0), rfl, bel.frame _, fun h => by cases h⟩

theorem over : Rows.repliesPlaysRow.holds Tryz.pinned (OpenSpec.ofChange Rows.repliesPlaysSpec) :=
  OpenClaim.holds_of_wide 4 Tryz.f4 rfl rfl rfl rfl rfl rfl rfl ⟨rfl, rfl, rfl, rfl, rfl⟩ rfl rfl rfl rfl rfl (by kernel_rfl) Tryz.func4 (by kernel_rfl)
    (of_decide_eq_true (by kernel_rfl)) (by unfold Func.isWrapper; first | (rw [if_pos (by decide +kernel)]; kernel_rfl) | (rw [if_neg (by decide +kernel)]; exact ⟨rfl, rfl⟩))
    (fun os started H enc _ => lifted os started H enc)

theorem proved : Rows.RepliesPlaysSaid := over
#print axioms proved
end Go.Proofs.YtaipbikbapjmjaaGreat.repliesPlays
