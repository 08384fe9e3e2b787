/- DiskArmed returns true for every number of sectors, every k and every list of places: a disk armed with k takes just k writes more. No condition. -/
import Derived.Test.YtaohaofjbgghgaaH
import Derived.Test.YtaohaofjbgghgaaO
import Derived.Deep.Cut
import Derived.Deep.CutRange
import Derived.Deep.DeepCutAuto
import Derived.IntWalk
import Derived.ProofKit
import Derived.OpenShut
import Derived.ShutString
import Derived.ChangeOld
import Derived.SizedLaws
import Derived.Below
namespace Go.Proofs.Ytaohaofjbgghgaa.diskArmed
open Go.ChangeShapes Go.WideShapes Go.ChangeAt Go.RowKit
open Go.ChangeMaps (open_string shut_string)

theorem own : ownKnob Try.prog.godebug = none := by kernel_rfl
theorem laidOut : laidOutB Try.prog = true := by kernel_rfl

/-- what the walk is told of the list of places -/
def IsRow (w : World) (a : Option Addr) (len : Nat) (zs : List Int) : Prop :=
  len = 0 ∨ ∃ x, a = some x ∧ len ≤ zs.length ∧ (∀ i, i < zs.length → w.cell? (x.add i) = some (.int .i64 (zs.getD i 0)))

/-- the state behind t writes -/
def AInv (n : Nat) (K : Int) (s : St) (t : Nat) : Prop := s.L.length = n ∧ s.wr = t ∧ (K < 0 → s.ar = false ∧ s.off = false) ∧
  (0 ≤ K → (s.ar = true ∧ s.off = false ∧ s.lf = K - t ∧ (t : Int) ≤ K) ∨ (s.ar = false ∧ s.off = true ∧ (t : Int) = K))

theorem at2 {w : World} {v : Value} {L : List (List UInt8)} {m : Nat} (h : ArgRows w v L) (hl : L.length = m) : ∃ A c, v = .slice A m c ∧ ∀ k, k < m → ∃ g o X, A = some ⟨g, o, none⟩ ∧ w.cell? ⟨g, o + k, none⟩ = some X ∧ ArgBytes w X (L.getD k []) := by
  subst hl
  obtain ⟨A, c, xs, rfl, hxl, hr, hx⟩ := h
  refine ⟨A, c, rfl, fun k hk => ?_⟩
  obtain ⟨X, h1, h2⟩ := hx k hk
  obtain ⟨g, o, e, hc⟩ := hr.get h1
  exact ⟨g, o, X, e, hc, by rw [List.getD_eq_getElem?_getD, List.getElem?_eq_getElem hk]; exact h2⟩

theorem armed_step {n : Nat} {K : Int} {s : St} {t : Nat} {p : Int} {l : List UInt8} (hA : AInv n K s t) (hl : l.length = 64) :
    (s.off = true ∧ s.wrRes p l = 40 ∧ s.wrNext p l = s ∧ 0 ≤ K ∧ (t : Int) = K) ∨
    (s.off = false ∧ ¬ (0 ≤ p ∧ p < n) ∧ s.wrRes p l = 2 ∧ s.wrNext p l = s) ∨
    (s.off = false ∧ (0 ≤ p ∧ p < n) ∧ 0 ≤ K ∧ (t : Int) = K ∧ s.wrRes p l = 40 ∧ (s.wrNext p l).off = true ∧ (s.wrNext p l).L = s.L ∧ AInv n K (s.wrNext p l) t) ∨
    (s.off = false ∧ (0 ≤ p ∧ p < n) ∧ (K < 0 ∨ (t : Int) < K) ∧ s.wrRes p l = 0 ∧ (s.wrNext p l).off = false ∧ (s.wrNext p l).L = s.L.set p.toNat l ∧ AInv n K (s.wrNext p l) (t + 1)) := by
  obtain ⟨L, wr, ar, lf, off⟩ := s
  obtain ⟨h1, h2, h3, h4⟩ := hA
  simp only at h1 h2 h3 h4
  cases off with
  | true =>
    left
    have hf : St.fault ⟨L, wr, ar, lf, true⟩ p = 40 := by simp [St.fault, faultN]
    have hK : 0 ≤ K := by
      rcases Int.lt_or_le K 0 with h | h
      · have := (h3 h).2; cases this
      · exact h
    refine ⟨rfl, by simp [St.wrRes, hf], by simp [St.wrNext, hf], hK, ?_⟩
    rcases h4 hK with ⟨_, h, _⟩ | ⟨_, _, h⟩
    · cases h
    · exact h
  | false =>
    right
    by_cases hp : 0 ≤ p ∧ p < n
    · right
      have hf : St.fault ⟨L, wr, ar, lf, false⟩ p = 0 := by simp [St.fault, faultN, h1, hp]
      by_cases hc : ar = true ∧ lf = 0
      · left
        obtain ⟨rfl, rfl⟩ := hc
        have hK : 0 ≤ K := by
          rcases Int.lt_or_le K 0 with h | h
          · have := (h3 h).1; cases this
          · exact h
        have ht : (t : Int) = K := by
          rcases h4 hK with ⟨_, _, h, _⟩ | ⟨h, _⟩
          · omega
          · cases h
        have e2 : St.wrNext ⟨L, wr, true, 0, false⟩ p l = ⟨L, wr, false, 0, true⟩ := by simp [St.wrNext, hf, hl]
        refine ⟨rfl, hp, hK, ht, by simp [St.wrRes, hf, hl], by rw [e2], by rw [e2], ?_⟩
        rw [e2]
        exact ⟨h1, h2, fun h => by omega, fun _ => .inr ⟨rfl, rfl, ht⟩⟩
      · right
        have e2 : St.wrNext ⟨L, wr, ar, lf, false⟩ p l = ⟨L.set p.toNat l, wr + 1, ar, if ar then lf - 1 else lf, false⟩ := by simp [St.wrNext, hf, hl, hc]
        have hlt : K < 0 ∨ (t : Int) < K := by
          rcases Int.lt_or_le K 0 with h | h
          · exact .inl h
          · right
            rcases h4 h with ⟨ha, _, hb, hd⟩ | ⟨_, hb, _⟩
            · have : lf ≠ 0 := fun e => hc ⟨ha, e⟩
              omega
            · cases hb
        refine ⟨rfl, hp, hlt, by simp [St.wrRes, hf, hl, hc], by rw [e2], by rw [e2], ?_⟩
        rw [e2]
        refine ⟨by simp [h1], by simp only; omega, fun h => ⟨(h3 h).1, rfl⟩, fun h => .inl ?_⟩
        rcases h4 h with ⟨ha, _, hb, hd⟩ | ⟨_, hb, _⟩
        · refine ⟨ha, rfl, ?_, ?_⟩
          · simp only [ha, if_true]; omega
          · omega
        · cases hb
    · left
      have hf : St.fault ⟨L, wr, ar, lf, false⟩ p = 2 := by simp only [St.fault, faultN, h1, if_neg hp]; rfl
      exact ⟨rfl, hp, by simp [St.wrRes, hf], by simp [St.wrNext, hf]⟩

set_option maxRecDepth 100000 in
theorem walk_no (n : Int) (hn : n < 1 ∨ 512 < n) (K : Int) (v : Value) (w : World) :
    Calls Try.prog 4 #[.int .i64 n, .int .i64 K, v] w fun e w' => e = .returned (.bool true) ∧ Below w.heap.size w w' := by
  go_enter Try.func4, Try.ntmps4
  go_wp2_with fail
  refine (awake_any _).mono ?_
  rintro e w0 ⟨rfl, k0⟩
  go_wp2_with fail
  refine (new_no n hn w0).mono ?_
  rintro e w1 ⟨rfl, rfl⟩
  by_cases h1 : n < 1
  · clear hn
    go_wp2
    go_ret
    exact ⟨rfl, k0.below (Nat.le_refl _) (fun _ _ m => m)⟩
  · have h2 : 512 < n := by omega
    have h3 : 1 ≤ n := by omega
    clear hn h1
    go_wp2
    go_ret
    exact ⟨rfl, k0.below (Nat.le_refl _) (fun _ _ m => m)⟩

set_option maxRecDepth 100000 in
set_option maxHeartbeats 40000000 in
theorem walk_yes (m : Nat) (h1 : 1 ≤ m) (h2 : m ≤ 512) (K : Int) (hK : K < 9223372036854775808) (a : Option Addr) (len c : Nat) (zs : List Int) (w : World) (hz : IsRow w a len zs) :
    Calls Try.prog 4 #[.int .i64 m, .int .i64 K, .slice a len c] w fun e w' => e = .returned (.bool true) ∧ Below w.heap.size w w' := by
  go_enter Try.func4, Try.ntmps4
  go_wp2_with fail
  refine (awake_any _).mono ?_
  rintro e w0 ⟨rfl, k0⟩
  go_wp2_with fail
  refine (new_all m (by omega) (by omega) w0).mono ?_
  rintro e w1 ⟨b, sb, rfl, d1, hb1, hb2, k1⟩
  simp only [Int.toNat_natCast] at d1
  by_cases hm : m ≤ 40
  · by_cases hlen : len ≤ 60
    · have hm' : (m : Int) ≤ 40 := by omega
      have hlen' : (len : Int) ≤ 60 := by omega
      go_wp2_with fail
      refine (arm_any b K _ _ _ _ _ _ d1.st).mono ?_
      rintro e w2 ⟨rfl, da, ka⟩
      have d2 : DkS w2 b sb m { St.new m with ar := decide (0 ≤ K), lf := K } := by
        obtain ⟨sp, hs⟩ := d1.se
        exact ⟨da, ⟨sp, hs.kp ka fun m => d1.st.ne_ hs (by decide) m.symm⟩, d1.le, d1.n1, d1.n2⟩
      have hI : AInv m K { St.new m with ar := decide (0 ≤ K), lf := K } 0 := by
        refine ⟨by simp [St.new], rfl, fun h => ⟨by simp; omega, rfl⟩, fun h => .inl ⟨by simpa using h, rfl, by simp, by simpa using h⟩⟩
      have ok2 : ({ St.new m with ar := decide (0 ≤ K), lf := K } : St).Ok := ⟨Int.le_refl 0, fun h => by simpa using h, hK⟩
      have kk : Kp No w w2 := (k0.trans k1).then_ ka fun i hi m => by have := k0.size; rw [m] at hi; omega
      have hlb : w.heap.size ≤ b := by have := k0.size; omega
      have hls : w.heap.size ≤ sb := by have := k0.size; omega
      clear da d1 k0 k1 ka hb1 hb2
      generalize ({ St.new m with ar := decide (0 ≤ K), lf := K } : St) = s0 at *
      go_wp2
      go_loopw [53, 9] (fun i t wr => ∃ k : Nat, k ≤ len ∧ i = .int .i64 k ∧ ∃ T : Nat, T ≤ k ∧ t = .int .i64 T ∧ Kp No w wr ∧ ∃ s, DkS wr b sb m s ∧ AInv m K s T ∧ s.Ok) (fun i _ _ => len - (intOf i).toNat)
      case atStart => exact ⟨0, Nat.zero_le _, rfl, 0, Nat.le_refl _, rfl, kk, s0, d2, hI, ok2⟩
      case round =>
        clear hI d2 ok2 kk
        obtain ⟨k, hk, rfl, T, hT, rfl, hkp, s, hD, hA, hok⟩ := hrel
        by_cases hlt : k < len
        · rcases hz with h0 | ⟨x, rfl, hzl, hzc⟩
          · omega
          have hc0 := hzc k (by omega)
          obtain ⟨g, o, rfl⟩ := addr_none (hzc 0 (by omega))
          rw [Addr.add_mid] at hc0
          have hcp : wr.cell? ⟨g, o + k, none⟩ = some (.int .i64 (zs.getD k 0)) := by
            rw [World.cell?_of_block (w := w) (hkp.block g (World.block_lt_of_cell? w _ hc0) (fun m => m))]; exact hc0
          clear hc0
          generalize zs.getD k 0 = p at *
          have hk0 : (0 : Int) ≤ (k : Int) := by omega
          have hk1 : (k : Int) < (len : Int) := by omega
          obtain ⟨fb, hf8⟩ : ∃ f : UInt8, (k : Int) + 1 = (f.toNat : Int) := ⟨UInt8.ofNat (k + 1), by simp [UInt8.toNat_ofNat']; omega⟩
          have HF8 := Lib.hid hf8; clear hf8
          have hwr : s.wr < 4611686018427387904 := by rw [hA.2.1]; omega
          go_wp2_with fail
          refine (image_any b sb m _ _ _ _ _ _ hD).mono ?_
          rintro e wa ⟨u1, rfl, hR1, ka⟩
          go_wp2_with fail
          refine (filled64 fb _ HF8.out _).mono ?_
          rintro e wb ⟨gb, rfl, hgb, hlb2, kb⟩
          go_wp2_with fail
          refine (write64 b sb m p gb _ wb s ((hD.no ka).no kb) hok hwr hgb (fillB_len _ _)).mono ?_
          rintro e wc ⟨rfl, hDc, kc⟩
          go_wp2_with fail
          refine (image_any b sb m _ _ _ _ _ _ hDc).mono ?_
          rintro e wd ⟨u2, rfl, hR2, kd⟩
          have hDd := hDc.no kd
          have hbl := hD.st.lt
          have hsl : sb < wr.heap.size := by obtain ⟨sp, hs⟩ := hD.se; exact hs.lt
          have hR1d := ((hR1.no kb).kp kc (fun g cs hB _ m => by rcases m with m | m <;> omega)).no kd
          have hlL : s.L.length = m := hA.1
          have hkz : Kp No w wd := ((((hkp.trans ka).trans kb).then_ kc fun i hi m => by rcases m with m | m <;> omega).trans kd)
          obtain ⟨A1, c1, rfl, hx1⟩ := at2 hR1d.arg hlL
          have HX1 := Lib.hid hx1
          have hokn := hok.next p (fillB fb 64)
          have hst := armed_step (p := p) hA (fillB_len fb 64)
          clear hx1 hR1 hR1d ka kb kc kd hgb hDc hD hwr hkp hok hlb2
          generalize hs' : s.wrNext p (fillB fb 64) = s' at *
          generalize hr' : s.wrRes p (fillB fb 64) = r at *
          have hlL' : s'.L.length = m := by
            rcases hst with ⟨_, _, e, _⟩ | ⟨_, _, _, e⟩ | ⟨_, _, _, _, _, _, e, _⟩ | ⟨_, _, _, _, _, e, _⟩ <;> rw [e]
            · exact hlL
            · exact hlL
            · exact hlL
            · rw [List.length_set]; exact hlL
          obtain ⟨A2, c2, rfl, hx2⟩ := at2 hR2.arg hlL'
          have hrow0 : ∀ q : Nat, q < m → ((r = 0 ∧ (q : Int) = p) → s'.L.getD q [] = fillB fb 64) ∧ (¬ (r = 0 ∧ (q : Int) = p) → s'.L.getD q [] = s.L.getD q []) := by
            intro q hq
            rcases hst with ⟨e1, e2, e3, _⟩ | ⟨e1, e2, e3, e4⟩ | ⟨e1, e2, e3, e4, e5, e6, e7, e8⟩ | ⟨e1, e2, e3, e4, e5, e6, e7⟩
            · exact ⟨fun h => by omega, fun _ => by rw [e3]⟩
            · exact ⟨fun h => by omega, fun _ => by rw [e4]⟩
            · exact ⟨fun h => by omega, fun _ => by rw [e7]⟩
            · rw [e6]
              refine ⟨fun h => ?_, fun h => ?_⟩
              · rw [show p.toNat = q by omega, List.getD_eq_getElem?_getD, List.getElem?_set_self (by omega)]; rfl
              · rw [List.getD_eq_getElem?_getD, List.getElem?_set_ne (by omega), ← List.getD_eq_getElem?_getD]
          have hinv : (r = 0 → AInv m K s' (T + 1)) ∧ (r ≠ 0 → AInv m K s' T) := by
            rcases hst with ⟨e1, e2, e3, _⟩ | ⟨e1, e2, e3, e4⟩ | ⟨e1, e2, e3, e4, e5, e6, e7, e8⟩ | ⟨e1, e2, e3, e4, e5, e6, e7⟩
            · exact ⟨fun h => by omega, fun _ => by rw [e3]; exact hA⟩
            · exact ⟨fun h => by omega, fun _ => by rw [e4]; exact hA⟩
            · exact ⟨fun h => by omega, fun _ => e8⟩
            · exact ⟨fun _ => e7, fun h => absurd e4 h⟩
          have hcnd : (s'.off = true ∧ r = 40 ∧ 0 ≤ K ∧ (T : Int) = K) ∨ (s'.off = false ∧ r = 2 ∧ ¬ (0 ≤ p ∧ p < m)) ∨ (s'.off = false ∧ r = 0 ∧ (0 ≤ p ∧ p < m) ∧ (K < 0 ∨ (T : Int) < K)) := by
            rcases hst with ⟨e1, e2, e3, e4, e5⟩ | ⟨e1, e2, e3, e4⟩ | ⟨e1, e2, e3, e4, e5, e6, e7, e8⟩ | ⟨e1, e2, e3, e4, e5, e6, e7⟩
            · exact .inl ⟨by rw [e3]; exact e1, e2, e4, e5⟩
            · exact .inr (.inl ⟨by rw [e4]; exact e1, e3, e2⟩)
            · exact .inl ⟨e6, e5, e3, e4⟩
            · exact .inr (.inr ⟨e5, e4, e2, e3⟩)
          have HX2 := Lib.hid hx2
          have HROW := Lib.hid hrow0
          have HINV := Lib.hid hinv
          have HCND := Lib.hid hcnd
          have HLL := Lib.hid hlL'
          clear hx2 hR2 hr' hrow0 hinv hcnd hst hs' hA hlL hlL'
          go_upto_region 16 with (fail)
          go_cut [15] (fun s wx => ∃ th : Bool, s = .bool th ∧ (th = true ↔ (0 ≤ p ∧ p < m)) ∧ wd = wx)
          case first =>
            rcases (by omega : (0 ≤ p ∧ p < m) ∨ p < 0 ∨ (0 ≤ p ∧ (m : Int) ≤ p)) with ⟨i1, i2⟩ | i1 | ⟨i1, i2⟩
            · go_wp2
              go_meet
              exact ⟨true, rfl, ⟨fun _ => ⟨i1, i2⟩, fun _ => rfl⟩, rfl⟩
            · go_wp2
              go_meet
              exact ⟨false, rfl, ⟨(fun h => by cases h), (fun h => by omega)⟩, rfl⟩
            · have i3 : ¬ p < (m : Int) := by omega
              go_wp2
              go_meet
              exact ⟨false, rfl, ⟨(fun h => by cases h), (fun h => by omega)⟩, rfl⟩
          case rest =>
          obtain ⟨th, rfl, hth, rfl⟩ := hcut
          have HTH := Lib.hid hth; clear hth
          go_upto_region 17 with (fail)
          go_cut [114] (fun s wx => s = .bool false ∧ wd = wx)
          case first =>
            have hst9 := hDd.st
            rcases HCND.out with ⟨e1, rfl, e3, e4⟩ | ⟨e1, rfl, e3⟩ | ⟨e1, rfl, e3, e4⟩
            · rw [e1] at hst9
              have e5 : ¬ K < 0 := by omega
              have e6 : ¬ (T : Int) < K := by omega
              clear e1 e3 e4 HTH
              cases th
              all_goals
                go_wp2_with (go_at_call 23; refine (off_any b _ _ _ _ _ _ hst9).mono ?_; rintro e wo ⟨rfl, rfl⟩)
                go_meet
                exact ⟨rfl, rfl⟩
            · rw [e1] at hst9
              have e4 : th = false := by rw [Bool.eq_false_iff]; intro h; exact e3 (HTH.out.1 h)
              subst e4
              clear e1 e3 HTH
              go_wp2_with (go_at_call 23; refine (off_any b _ _ _ _ _ _ hst9).mono ?_; rintro e wo ⟨rfl, rfl⟩)
              go_meet
              exact ⟨rfl, rfl⟩
            · rw [e1] at hst9
              have e5 : th = true := HTH.out.2 e3
              subst e5
              clear e1 e3 HTH
              by_cases e6 : K < 0
              · clear e4
                go_wp2_with (go_at_call 23; refine (off_any b _ _ _ _ _ _ hst9).mono ?_; rintro e wo ⟨rfl, rfl⟩)
                go_meet
                exact ⟨rfl, rfl⟩
              · have e7 : (T : Int) < K := by omega
                clear e4
                go_wp2_with (go_at_call 23; refine (off_any b _ _ _ _ _ _ hst9).mono ?_; rintro e wo ⟨rfl, rfl⟩)
                go_meet
                exact ⟨rfl, rfl⟩
          case rest =>
          obtain ⟨rfl, rfl⟩ := hcut
          clear HCND HTH
          go_wp2
          go_loopw [117] (fun i wr => ∃ q : Nat, q ≤ m ∧ i = .int .i64 q ∧ Kp No wd wr) (fun i _ => m - (intOf i).toNat)
          case atStart => exact ⟨0, Nat.zero_le _, rfl, Kp.refl _ _⟩
          case round =>
            obtain ⟨q, hq, rfl, kq⟩ := hrel
            by_cases hql : q < m
            · have hq0 : (0 : Int) ≤ (q : Int) := by omega
              have hq1 : (q : Int) < (m : Int) := by omega
              go_upto_region 22 with (fail)
              go_cut [17] (fun s wx => ∃ ch : Bool, s = .bool ch ∧ (ch = true ↔ (r = 0 ∧ (q : Int) = p)) ∧ wr = wx)
              case first =>
                by_cases hr0 : r = 0
                · subst hr0
                  by_cases hqp : (q : Int) = p
                  · subst hqp
                    go_wp2
                    go_meet
                    exact ⟨true, rfl, by simp, rfl⟩
                  · have hqp' : ((q : Int) == p) = false := by simp [hqp]
                    go_wp2
                    go_meet
                    exact ⟨false, rfl, by simp [hqp], rfl⟩
                · have hr0' : (r == 0) = false := by simp [hr0]
                  go_wp2
                  go_meet
                  exact ⟨false, rfl, by simp [hr0], rfl⟩
              case rest =>
              obtain ⟨ch, rfl, hch, rfl⟩ := hcut
              have HCH := Lib.hid hch; clear hch
              go_upto_region 23 with (fail)
              go_cut [157] (fun s wx => s = .bool false ∧ Kp No wd wx)
              case first =>
                cases ch with
                | true =>
                  have hrow : s'.L.getD q [] = fillB fb 64 := (HROW.out q hql).1 (HCH.out.1 rfl)
                  obtain ⟨gx, ox, X, rfl, hcx, hbx⟩ := HX2.out q hql
                  generalize hlx : fillB fb 64 = lx at *
                  rw [hrow] at hbx
                  have HFF := Lib.hid (fun (W : World) (kW : Kp No wr W) => (show (fun W => W.cell? ⟨gx, ox + q, none⟩ = some X ∧ (convert 33 9 X).run Try.prog W = .ok (.string ⟨lx.toArray⟩) W) W from ⟨by rw [World.cell?_of_block (w := wd) ((kq.trans kW).block gx (World.block_lt_of_cell? wd _ hcx) (fun m => m))]; exact hcx, (hbx.no (kq.trans kW)).str (P := Try.prog) 33 5 9 Try.underlying33 Try.underlying5 Try.underlying9⟩))
                  clear hcx hbx
                  have hF := HFF.out _ (Kp.refl No wr).drew
                  have HCV := Lib.hid (show IntKind.u8.wrap (IntKind.i64.wrap ((k : Int) + 1)) = (fb.toNat : Int) by rw [IntWalk.i64_in _ (by omega), IntWalk.u8_in _ (by omega)]; exact HF8.out)
                  refine rg_begin (fun W => W.cell? ⟨gx, ox + q, none⟩ = some X ∧ (convert 33 9 X).run Try.prog W = .ok (.string ⟨lx.toArray⟩) W) 31 (by kernel_rfl) ?_
                  refine rg_take (i := 0) (v := ?vy0) (by simp only [List.getElem?_toArray, List.getElem?_cons_succ, List.getElem?_cons_zero]; rfl) (by kernel_rfl) (by exact fun _ _ _ h => h) (by rfl) ?ry0 hF ?sy0
                  case ry0 => (intro W hW; clear hW; go_simp; try with_reducible rfl)
                  try simp only [Act.put, List.setIfInBounds_toArray, List.set_cons_zero, List.set_cons_succ]
                  refine rg_take (i := 1) (v := ?vy1) (by simp only [List.getElem?_toArray, List.getElem?_cons_succ, List.getElem?_cons_zero]; rfl) (by kernel_rfl) (by exact fun _ _ _ h => h) (by rfl) ?ry1 hF ?sy1
                  case ry1 => (intro W hW; clear hW; go_simp; try with_reducible rfl)
                  try simp only [Act.put, List.setIfInBounds_toArray, List.set_cons_zero, List.set_cons_succ]
                  refine rg_take (i := 2) (v := ?vy2) (by simp only [List.getElem?_toArray, List.getElem?_cons_succ, List.getElem?_cons_zero]; rfl) (by kernel_rfl) (by exact fun _ _ _ h => h) (by rfl) ?ry2 hF ?sy2
                  case ry2 => (intro W hW; clear hW; go_simp; try with_reducible rfl)
                  try simp only [Act.put, List.setIfInBounds_toArray, List.set_cons_zero, List.set_cons_succ]
                  refine rg_take (i := 3) (v := ?vy3) (by simp only [List.getElem?_toArray, List.getElem?_cons_succ, List.getElem?_cons_zero]; rfl) (by kernel_rfl) (by exact fun _ _ _ h => h) (by rfl) ?ry3 hF ?sy3
                  case ry3 => (intro W hW; clear hW; go_simp; try with_reducible rfl)
                  try simp only [Act.put, List.setIfInBounds_toArray, List.set_cons_zero, List.set_cons_succ]
                  refine rg_take (i := 4) (v := ?vy4) (by simp only [List.getElem?_toArray, List.getElem?_cons_succ, List.getElem?_cons_zero]; rfl) (by kernel_rfl) (by exact fun _ _ _ h => h) (by rfl) ?ry4 hF ?sy4
                  case ry4 => (intro W hW; clear hW; go_simp; try with_reducible rfl)
                  try simp only [Act.put, List.setIfInBounds_toArray, List.set_cons_zero, List.set_cons_succ]
                  refine rg_take (i := 5) (v := ?vy5) (by simp only [List.getElem?_toArray, List.getElem?_cons_succ, List.getElem?_cons_zero]; rfl) (by kernel_rfl) (by exact fun _ _ _ h => h) (by rfl) ?ry5 hF ?sy5
                  case ry5 => (intro W hW; obtain ⟨f1, f2⟩ := hW; go_simp; try with_reducible rfl)
                  try simp only [Act.put, List.setIfInBounds_toArray, List.set_cons_zero, List.set_cons_succ]
                  refine rg_take (i := 6) (v := ?vy6) (by simp only [List.getElem?_toArray, List.getElem?_cons_succ, List.getElem?_cons_zero]; rfl) (by kernel_rfl) (by exact fun _ _ _ h => h) (by rfl) ?ry6 hF ?sy6
                  case ry6 => (intro W hW; obtain ⟨f1, f2⟩ := hW; go_simp; try with_reducible rfl)
                  try simp only [Act.put, List.setIfInBounds_toArray, List.set_cons_zero, List.set_cons_succ]
                  refine rg_take (i := 7) (v := ?vy7) (by simp only [List.getElem?_toArray, List.getElem?_cons_succ, List.getElem?_cons_zero]; rfl) (by kernel_rfl) (by exact fun _ _ _ h => h) (by rfl) ?ry7 hF ?sy7
                  case ry7 => (intro W hW; clear hW; go_simp; try with_reducible rfl)
                  try simp only [Act.put, List.setIfInBounds_toArray, List.set_cons_zero, List.set_cons_succ]
                  refine rg_take (i := 8) (v := ?vy8) (by simp only [List.getElem?_toArray, List.getElem?_cons_succ, List.getElem?_cons_zero]; rfl) (by kernel_rfl) (by exact fun _ _ _ h => h) (by rfl) ?ry8 hF ?sy8
                  case ry8 => (intro W hW; clear hW; go_simp; try with_reducible rfl)
                  try simp only [Act.put, List.setIfInBounds_toArray, List.set_cons_zero, List.set_cons_succ]
                  refine rg_take (i := 9) (v := ?vy9) (by simp only [List.getElem?_toArray, List.getElem?_cons_succ, List.getElem?_cons_zero]; rfl) (by kernel_rfl) (by exact fun _ _ _ h => h) (by rfl) ?ry9 hF ?sy9
                  case ry9 => (intro W hW; obtain ⟨f1, f2⟩ := hW; go_simp; try with_reducible rfl)
                  try simp only [Act.put, List.setIfInBounds_toArray, List.set_cons_zero, List.set_cons_succ]
                  refine rg_one (i := 10) (oi := ?oy10) ?ay10 ?by10 ?cy10 ?dy10
                  case ay10 => (simp only [List.getElem?_toArray, List.getElem?_cons_succ, List.getElem?_cons_zero]; rfl)
                  case by10 => kernel_rfl
                  case cy10 => rfl
                  intro K hK
                  (go_simp; refine (filled64 fb _ HCV.out _).mono ?_; rintro e wf ⟨gf, rfl, hgf, hlf, kf⟩)
                  have sf := (hgf.arg64 (fillB_len _ _)).str (P := Try.prog) 33 5 9 Try.underlying33 Try.underlying5 Try.underlying9
                  have kq2 := (Kp.refl No wr).drew.trans kf
                  rw [hlx] at sf
                  refine rg_use hK (HFF.out _ kq2) (fun hF => ?_)
                  clear hK K
                  try simp only [Act.put, List.setIfInBounds_toArray, List.set_cons_zero, List.set_cons_succ]
                  refine rg_one (i := 11) (oi := ?oy11) ?ay11 ?by11 ?cy11 ?dy11
                  case ay11 => (simp only [List.getElem?_toArray, List.getElem?_cons_succ, List.getElem?_cons_zero]; rfl)
                  case by11 => kernel_rfl
                  case cy11 => rfl
                  intro K hK
                  go_simp
                  refine rg_use hK hF (fun hF => ?_)
                  clear hK K
                  try simp only [Act.put, List.setIfInBounds_toArray, List.set_cons_zero, List.set_cons_succ]
                  refine rg_take (i := 12) (v := ?vy12) (by simp only [List.getElem?_toArray, List.getElem?_cons_succ, List.getElem?_cons_zero]; rfl) (by kernel_rfl) (by exact fun _ _ _ h => h) (by rfl) ?ry12 hF ?sy12
                  case ry12 => (intro W hW; clear hW; go_simp; try with_reducible rfl)
                  try simp only [Act.put, List.setIfInBounds_toArray, List.set_cons_zero, List.set_cons_succ]
                  refine rg_take (i := 13) (v := ?vy13) (by simp only [List.getElem?_toArray, List.getElem?_cons_succ, List.getElem?_cons_zero]; rfl) (by kernel_rfl) (by exact fun _ _ _ h => h) (by rfl) ?ry13 hF ?sy13
                  case ry13 => (intro W hW; clear hW; go_simp; try with_reducible rfl)
                  try simp only [Act.put, List.setIfInBounds_toArray, List.set_cons_zero, List.set_cons_succ]
                  refine rg_take (i := 14) (v := ?vy14) (by simp only [List.getElem?_toArray, List.getElem?_cons_succ, List.getElem?_cons_zero]; rfl) (by kernel_rfl) (by exact fun _ _ _ h => h) (by rfl) ?ry14 hF ?sy14
                  case ry14 => (intro W hW; clear hW; go_simp; try with_reducible rfl)
                  try simp only [Act.put, List.setIfInBounds_toArray, List.set_cons_zero, List.set_cons_succ]
                  refine rg_take (i := 15) (v := ?vy15) (by simp only [List.getElem?_toArray, List.getElem?_cons_succ, List.getElem?_cons_zero]; rfl) (by kernel_rfl) (by exact fun _ _ _ h => h) (by rfl) ?ry15 hF ?sy15
                  case ry15 => (intro W hW; clear hW; go_simp; try with_reducible rfl)
                  try simp only [Act.put, List.setIfInBounds_toArray, List.set_cons_zero, List.set_cons_succ]
                  refine rg_take (i := 16) (v := ?vy16) (by simp only [List.getElem?_toArray, List.getElem?_cons_succ, List.getElem?_cons_zero]; rfl) (by kernel_rfl) (by exact fun _ _ _ h => h) (by rfl) ?ry16 hF ?sy16
                  case ry16 => (intro W hW; clear hW; go_simp; try with_reducible rfl)
                  try simp only [Act.put, List.setIfInBounds_toArray, List.set_cons_zero, List.set_cons_succ]
                  refine rg_take (i := 17) (v := ?vy17) (by simp only [List.getElem?_toArray, List.getElem?_cons_succ, List.getElem?_cons_zero]; rfl) (by kernel_rfl) (by exact fun _ _ _ h => h) (by rfl) ?ry17 hF ?sy17
                  case ry17 => (intro W hW; clear hW; go_simp; try with_reducible rfl)
                  try simp only [Act.put, List.setIfInBounds_toArray, List.set_cons_zero, List.set_cons_succ]
                  refine rg_pass (i := 18) (by simp only [List.getElem?_toArray, List.getElem?_cons_succ, List.getElem?_cons_zero]; rfl) (by kernel_rfl) (by exact fun _ _ _ h => h) (by rfl) hF ?_
                  try simp only [Act.put, List.setIfInBounds_toArray, List.set_cons_zero, List.set_cons_succ]
                  refine rg_pass (i := 19) (by simp only [List.getElem?_toArray, List.getElem?_cons_succ, List.getElem?_cons_zero]; rfl) (by kernel_rfl) (by exact fun _ _ _ h => h) (by rfl) hF ?_
                  try simp only [Act.put, List.setIfInBounds_toArray, List.set_cons_zero, List.set_cons_succ]
                  refine rg_pass (i := 20) (by simp only [List.getElem?_toArray, List.getElem?_cons_succ, List.getElem?_cons_zero]; rfl) (by kernel_rfl) (by exact fun _ _ _ h => h) (by rfl) hF ?_
                  try simp only [Act.put, List.setIfInBounds_toArray, List.set_cons_zero, List.set_cons_succ]
                  refine rg_pass (i := 21) (by simp only [List.getElem?_toArray, List.getElem?_cons_succ, List.getElem?_cons_zero]; rfl) (by kernel_rfl) (by exact fun _ _ _ h => h) (by rfl) hF ?_
                  try simp only [Act.put, List.setIfInBounds_toArray, List.set_cons_zero, List.set_cons_succ]
                  refine rg_pass (i := 22) (by simp only [List.getElem?_toArray, List.getElem?_cons_succ, List.getElem?_cons_zero]; rfl) (by kernel_rfl) (by exact fun _ _ _ h => h) (by rfl) hF ?_
                  try simp only [Act.put, List.setIfInBounds_toArray, List.set_cons_zero, List.set_cons_succ]
                  refine rg_pass (i := 23) (by simp only [List.getElem?_toArray, List.getElem?_cons_succ, List.getElem?_cons_zero]; rfl) (by kernel_rfl) (by exact fun _ _ _ h => h) (by rfl) hF ?_
                  try simp only [Act.put, List.setIfInBounds_toArray, List.set_cons_zero, List.set_cons_succ]
                  refine rg_pass (i := 24) (by simp only [List.getElem?_toArray, List.getElem?_cons_succ, List.getElem?_cons_zero]; rfl) (by kernel_rfl) (by exact fun _ _ _ h => h) (by rfl) hF ?_
                  try simp only [Act.put, List.setIfInBounds_toArray, List.set_cons_zero, List.set_cons_succ]
                  refine rg_pass (i := 25) (by simp only [List.getElem?_toArray, List.getElem?_cons_succ, List.getElem?_cons_zero]; rfl) (by kernel_rfl) (by exact fun _ _ _ h => h) (by rfl) hF ?_
                  try simp only [Act.put, List.setIfInBounds_toArray, List.set_cons_zero, List.set_cons_succ]
                  refine rg_pass (i := 26) (by simp only [List.getElem?_toArray, List.getElem?_cons_succ, List.getElem?_cons_zero]; rfl) (by kernel_rfl) (by exact fun _ _ _ h => h) (by rfl) hF ?_
                  try simp only [Act.put, List.setIfInBounds_toArray, List.set_cons_zero, List.set_cons_succ]
                  refine rg_pass (i := 27) (by simp only [List.getElem?_toArray, List.getElem?_cons_succ, List.getElem?_cons_zero]; rfl) (by kernel_rfl) (by exact fun _ _ _ h => h) (by rfl) hF ?_
                  try simp only [Act.put, List.setIfInBounds_toArray, List.set_cons_zero, List.set_cons_succ]
                  refine rg_pass (i := 28) (by simp only [List.getElem?_toArray, List.getElem?_cons_succ, List.getElem?_cons_zero]; rfl) (by kernel_rfl) (by exact fun _ _ _ h => h) (by rfl) hF ?_
                  try simp only [Act.put, List.setIfInBounds_toArray, List.set_cons_zero, List.set_cons_succ]
                  refine rg_take (i := 29) (v := ?vy29) (by simp only [List.getElem?_toArray, List.getElem?_cons_succ, List.getElem?_cons_zero]; rfl) (by kernel_rfl) (by exact fun _ _ _ h => h) (by rfl) ?ry29 hF ?sy29
                  case ry29 => (intro W hW; clear hW; go_simp; try with_reducible rfl)
                  try simp only [Act.put, List.setIfInBounds_toArray, List.set_cons_zero, List.set_cons_succ]
                  refine rg_take (i := 30) (v := ?vy30) (by simp only [List.getElem?_toArray, List.getElem?_cons_succ, List.getElem?_cons_zero]; rfl) (by kernel_rfl) (by exact fun _ _ _ h => h) (by rfl) ?ry30 hF ?sy30
                  case ry30 => (intro W hW; clear hW; go_simp; try with_reducible rfl)
                  try simp only [Act.put, List.setIfInBounds_toArray, List.set_cons_zero, List.set_cons_succ]
                  refine rg_done (by kernel_rfl) ?_
                  go_wp2
                  go_meet
                  exact ⟨rfl, kq.trans kq2⟩
                  | false =>
                    have hrow : s'.L.getD q [] = s.L.getD q [] := (HROW.out q hql).2 (fun h => by have := HCH.out.2 h; cases this)
                    obtain ⟨gx, ox, X, rfl, hcx, hbx⟩ := HX2.out q hql
                    obtain ⟨gy, oy, Y, rfl, hcy, hby⟩ := HX1.out q hql
                    rw [hrow] at hbx
                    generalize s.L.getD q [] = lx at *
                    have HFF := Lib.hid (fun (W : World) (kW : Kp No wr W) => (show (fun W => W.cell? ⟨gx, ox + q, none⟩ = some X ∧ W.cell? ⟨gy, oy + q, none⟩ = some Y ∧ (convert 33 9 X).run Try.prog W = .ok (.string ⟨lx.toArray⟩) W ∧ (convert 33 9 Y).run Try.prog W = .ok (.string ⟨lx.toArray⟩) W) W from ⟨by rw [World.cell?_of_block (w := wd) ((kq.trans kW).block gx (World.block_lt_of_cell? wd _ hcx) (fun m => m))]; exact hcx, by rw [World.cell?_of_block (w := wd) ((kq.trans kW).block gy (World.block_lt_of_cell? wd _ hcy) (fun m => m))]; exact hcy, (hbx.no (kq.trans kW)).str (P := Try.prog) 33 5 9 Try.underlying33 Try.underlying5 Try.underlying9, (hby.no (kq.trans kW)).str (P := Try.prog) 33 5 9 Try.underlying33 Try.underlying5 Try.underlying9⟩))
                    clear hcx hbx hcy hby hrow
                    have hF := HFF.out _ (Kp.refl No wr).drew
                    refine rg_begin (fun W => W.cell? ⟨gx, ox + q, none⟩ = some X ∧ W.cell? ⟨gy, oy + q, none⟩ = some Y ∧ (convert 33 9 X).run Try.prog W = .ok (.string ⟨lx.toArray⟩) W ∧ (convert 33 9 Y).run Try.prog W = .ok (.string ⟨lx.toArray⟩) W) 31 (by kernel_rfl) ?_
                    refine rg_take (i := 0) (v := ?vn0) (by simp only [List.getElem?_toArray, List.getElem?_cons_succ, List.getElem?_cons_zero]; rfl) (by kernel_rfl) (by exact fun _ _ _ h => h) (by rfl) ?rn0 hF ?sn0
                    case rn0 => (intro W hW; clear hW; go_simp; try with_reducible rfl)
                    try simp only [Act.put, List.setIfInBounds_toArray, List.set_cons_zero, List.set_cons_succ]
                    refine rg_take (i := 1) (v := ?vn1) (by simp only [List.getElem?_toArray, List.getElem?_cons_succ, List.getElem?_cons_zero]; rfl) (by kernel_rfl) (by exact fun _ _ _ h => h) (by rfl) ?rn1 hF ?sn1
                    case rn1 => (intro W hW; clear hW; go_simp; try with_reducible rfl)
                    try simp only [Act.put, List.setIfInBounds_toArray, List.set_cons_zero, List.set_cons_succ]
                    refine rg_pass (i := 2) (by simp only [List.getElem?_toArray, List.getElem?_cons_succ, List.getElem?_cons_zero]; rfl) (by kernel_rfl) (by exact fun _ _ _ h => h) (by rfl) hF ?_
                    try simp only [Act.put, List.setIfInBounds_toArray, List.set_cons_zero, List.set_cons_succ]
                    refine rg_pass (i := 3) (by simp only [List.getElem?_toArray, List.getElem?_cons_succ, List.getElem?_cons_zero]; rfl) (by kernel_rfl) (by exact fun _ _ _ h => h) (by rfl) hF ?_
                    try simp only [Act.put, List.setIfInBounds_toArray, List.set_cons_zero, List.set_cons_succ]
                    refine rg_pass (i := 4) (by simp only [List.getElem?_toArray, List.getElem?_cons_succ, List.getElem?_cons_zero]; rfl) (by kernel_rfl) (by exact fun _ _ _ h => h) (by rfl) hF ?_
                    try simp only [Act.put, List.setIfInBounds_toArray, List.set_cons_zero, List.set_cons_succ]
                    refine rg_pass (i := 5) (by simp only [List.getElem?_toArray, List.getElem?_cons_succ, List.getElem?_cons_zero]; rfl) (by kernel_rfl) (by exact fun _ _ _ h => h) (by rfl) hF ?_
                    try simp only [Act.put, List.setIfInBounds_toArray, List.set_cons_zero, List.set_cons_succ]
                    refine rg_pass (i := 6) (by simp only [List.getElem?_toArray, List.getElem?_cons_succ, List.getElem?_cons_zero]; rfl) (by kernel_rfl) (by exact fun _ _ _ h => h) (by rfl) hF ?_
                    try simp only [Act.put, List.setIfInBounds_toArray, List.set_cons_zero, List.set_cons_succ]
                    refine rg_pass (i := 7) (by simp only [List.getElem?_toArray, List.getElem?_cons_succ, List.getElem?_cons_zero]; rfl) (by kernel_rfl) (by exact fun _ _ _ h => h) (by rfl) hF ?_
                    try simp only [Act.put, List.setIfInBounds_toArray, List.set_cons_zero, List.set_cons_succ]
                    refine rg_pass (i := 8) (by simp only [List.getElem?_toArray, List.getElem?_cons_succ, List.getElem?_cons_zero]; rfl) (by kernel_rfl) (by exact fun _ _ _ h => h) (by rfl) hF ?_
                    try simp only [Act.put, List.setIfInBounds_toArray, List.set_cons_zero, List.set_cons_succ]
                    refine rg_pass (i := 9) (by simp only [List.getElem?_toArray, List.getElem?_cons_succ, List.getElem?_cons_zero]; rfl) (by kernel_rfl) (by exact fun _ _ _ h => h) (by rfl) hF ?_
                    try simp only [Act.put, List.setIfInBounds_toArray, List.set_cons_zero, List.set_cons_succ]
                    refine rg_pass (i := 10) (by simp only [List.getElem?_toArray, List.getElem?_cons_succ, List.getElem?_cons_zero]; rfl) (by kernel_rfl) (by exact fun _ _ _ h => h) (by rfl) hF ?_
                    try simp only [Act.put, List.setIfInBounds_toArray, List.set_cons_zero, List.set_cons_succ]
                    refine rg_pass (i := 11) (by simp only [List.getElem?_toArray, List.getElem?_cons_succ, List.getElem?_cons_zero]; rfl) (by kernel_rfl) (by exact fun _ _ _ h => h) (by rfl) hF ?_
                    try simp only [Act.put, List.setIfInBounds_toArray, List.set_cons_zero, List.set_cons_succ]
                    refine rg_pass (i := 12) (by simp only [List.getElem?_toArray, List.getElem?_cons_succ, List.getElem?_cons_zero]; rfl) (by kernel_rfl) (by exact fun _ _ _ h => h) (by rfl) hF ?_
                    try simp only [Act.put, List.setIfInBounds_toArray, List.set_cons_zero, List.set_cons_succ]
                    refine rg_take (i := 13) (v := ?vn13) (by simp only [List.getElem?_toArray, List.getElem?_cons_succ, List.getElem?_cons_zero]; rfl) (by kernel_rfl) (by exact fun _ _ _ h => h) (by rfl) ?rn13 hF ?sn13
                    case rn13 => (intro W hW; clear hW; go_simp; try with_reducible rfl)
                    try simp only [Act.put, List.setIfInBounds_toArray, List.set_cons_zero, List.set_cons_succ]
                    refine rg_take (i := 14) (v := ?vn14) (by simp only [List.getElem?_toArray, List.getElem?_cons_succ, List.getElem?_cons_zero]; rfl) (by kernel_rfl) (by exact fun _ _ _ h => h) (by rfl) ?rn14 hF ?sn14
                    case rn14 => (intro W hW; clear hW; go_simp; try with_reducible rfl)
                    try simp only [Act.put, List.setIfInBounds_toArray, List.set_cons_zero, List.set_cons_succ]
                    refine rg_take (i := 15) (v := ?vn15) (by simp only [List.getElem?_toArray, List.getElem?_cons_succ, List.getElem?_cons_zero]; rfl) (by kernel_rfl) (by exact fun _ _ _ h => h) (by rfl) ?rn15 hF ?sn15
                    case rn15 => (intro W hW; clear hW; go_simp; try with_reducible rfl)
                    try simp only [Act.put, List.setIfInBounds_toArray, List.set_cons_zero, List.set_cons_succ]
                    refine rg_take (i := 16) (v := ?vn16) (by simp only [List.getElem?_toArray, List.getElem?_cons_succ, List.getElem?_cons_zero]; rfl) (by kernel_rfl) (by exact fun _ _ _ h => h) (by rfl) ?rn16 hF ?sn16
                    case rn16 => (intro W hW; clear hW; go_simp; try with_reducible rfl)
                    try simp only [Act.put, List.setIfInBounds_toArray, List.set_cons_zero, List.set_cons_succ]
                    refine rg_take (i := 17) (v := ?vn17) (by simp only [List.getElem?_toArray, List.getElem?_cons_succ, List.getElem?_cons_zero]; rfl) (by kernel_rfl) (by exact fun _ _ _ h => h) (by rfl) ?rn17 hF ?sn17
                    case rn17 => (intro W hW; clear hW; go_simp; try with_reducible rfl)
                    try simp only [Act.put, List.setIfInBounds_toArray, List.set_cons_zero, List.set_cons_succ]
                    refine rg_take (i := 18) (v := ?vn18) (by simp only [List.getElem?_toArray, List.getElem?_cons_succ, List.getElem?_cons_zero]; rfl) (by kernel_rfl) (by exact fun _ _ _ h => h) (by rfl) ?rn18 hF ?sn18
                    case rn18 => (intro W hW; clear hW; go_simp; try with_reducible rfl)
                    try simp only [Act.put, List.setIfInBounds_toArray, List.set_cons_zero, List.set_cons_succ]
                    refine rg_take (i := 19) (v := ?vn19) (by simp only [List.getElem?_toArray, List.getElem?_cons_succ, List.getElem?_cons_zero]; rfl) (by kernel_rfl) (by exact fun _ _ _ h => h) (by rfl) ?rn19 hF ?sn19
                    case rn19 => (intro W hW; clear hW; go_simp; try with_reducible rfl)
                    try simp only [Act.put, List.setIfInBounds_toArray, List.set_cons_zero, List.set_cons_succ]
                    refine rg_take (i := 20) (v := ?vn20) (by simp only [List.getElem?_toArray, List.getElem?_cons_succ, List.getElem?_cons_zero]; rfl) (by kernel_rfl) (by exact fun _ _ _ h => h) (by rfl) ?rn20 hF ?sn20
                    case rn20 => (intro W hW; clear hW; go_simp; try with_reducible rfl)
                    try simp only [Act.put, List.setIfInBounds_toArray, List.set_cons_zero, List.set_cons_succ]
                    refine rg_take (i := 21) (v := ?vn21) (by simp only [List.getElem?_toArray, List.getElem?_cons_succ, List.getElem?_cons_zero]; rfl) (by kernel_rfl) (by exact fun _ _ _ h => h) (by rfl) ?rn21 hF ?sn21
                    case rn21 => (intro W hW; obtain ⟨f1, f2, f3, f4⟩ := hW; go_simp; try with_reducible rfl)
                    try simp only [Act.put, List.setIfInBounds_toArray, List.set_cons_zero, List.set_cons_succ]
                    refine rg_take (i := 22) (v := ?vn22) (by simp only [List.getElem?_toArray, List.getElem?_cons_succ, List.getElem?_cons_zero]; rfl) (by kernel_rfl) (by exact fun _ _ _ h => h) (by rfl) ?rn22 hF ?sn22
                    case rn22 => (intro W hW; obtain ⟨f1, f2, f3, f4⟩ := hW; go_simp; try with_reducible rfl)
                    try simp only [Act.put, List.setIfInBounds_toArray, List.set_cons_zero, List.set_cons_succ]
                    refine rg_take (i := 23) (v := ?vn23) (by simp only [List.getElem?_toArray, List.getElem?_cons_succ, List.getElem?_cons_zero]; rfl) (by kernel_rfl) (by exact fun _ _ _ h => h) (by rfl) ?rn23 hF ?sn23
                    case rn23 => (intro W hW; clear hW; go_simp; try with_reducible rfl)
                    try simp only [Act.put, List.setIfInBounds_toArray, List.set_cons_zero, List.set_cons_succ]
                    refine rg_take (i := 24) (v := ?vn24) (by simp only [List.getElem?_toArray, List.getElem?_cons_succ, List.getElem?_cons_zero]; rfl) (by kernel_rfl) (by exact fun _ _ _ h => h) (by rfl) ?rn24 hF ?sn24
                    case rn24 => (intro W hW; clear hW; go_simp; try with_reducible rfl)
                    try simp only [Act.put, List.setIfInBounds_toArray, List.set_cons_zero, List.set_cons_succ]
                    refine rg_take (i := 25) (v := ?vn25) (by simp only [List.getElem?_toArray, List.getElem?_cons_succ, List.getElem?_cons_zero]; rfl) (by kernel_rfl) (by exact fun _ _ _ h => h) (by rfl) ?rn25 hF ?sn25
                    case rn25 => (intro W hW; clear hW; go_simp; try with_reducible rfl)
                    try simp only [Act.put, List.setIfInBounds_toArray, List.set_cons_zero, List.set_cons_succ]
                    refine rg_take (i := 26) (v := ?vn26) (by simp only [List.getElem?_toArray, List.getElem?_cons_succ, List.getElem?_cons_zero]; rfl) (by kernel_rfl) (by exact fun _ _ _ h => h) (by rfl) ?rn26 hF ?sn26
                    case rn26 => (intro W hW; obtain ⟨f1, f2, f3, f4⟩ := hW; go_simp; try with_reducible rfl)
                    try simp only [Act.put, List.setIfInBounds_toArray, List.set_cons_zero, List.set_cons_succ]
                    refine rg_take (i := 27) (v := ?vn27) (by simp only [List.getElem?_toArray, List.getElem?_cons_succ, List.getElem?_cons_zero]; rfl) (by kernel_rfl) (by exact fun _ _ _ h => h) (by rfl) ?rn27 hF ?sn27
                    case rn27 => (intro W hW; obtain ⟨f1, f2, f3, f4⟩ := hW; go_simp; try with_reducible rfl)
                    try simp only [Act.put, List.setIfInBounds_toArray, List.set_cons_zero, List.set_cons_succ]
                    refine rg_take (i := 28) (v := ?vn28) (by simp only [List.getElem?_toArray, List.getElem?_cons_succ, List.getElem?_cons_zero]; rfl) (by kernel_rfl) (by exact fun _ _ _ h => h) (by rfl) ?rn28 hF ?sn28
                    case rn28 => (intro W hW; clear hW; go_simp; try with_reducible rfl)
                    try simp only [Act.put, List.setIfInBounds_toArray, List.set_cons_zero, List.set_cons_succ]
                    refine rg_take (i := 29) (v := ?vn29) (by simp only [List.getElem?_toArray, List.getElem?_cons_succ, List.getElem?_cons_zero]; rfl) (by kernel_rfl) (by exact fun _ _ _ h => h) (by rfl) ?rn29 hF ?sn29
                    case rn29 => (intro W hW; clear hW; go_simp; try with_reducible rfl)
                    try simp only [Act.put, List.setIfInBounds_toArray, List.set_cons_zero, List.set_cons_succ]
                    refine rg_take (i := 30) (v := ?vn30) (by simp only [List.getElem?_toArray, List.getElem?_cons_succ, List.getElem?_cons_zero]; rfl) (by kernel_rfl) (by exact fun _ _ _ h => h) (by rfl) ?rn30 hF ?sn30
                    case rn30 => (intro W hW; clear hW; go_simp; try with_reducible rfl)
                    try simp only [Act.put, List.setIfInBounds_toArray, List.set_cons_zero, List.set_cons_succ]
                    refine rg_done (by kernel_rfl) ?_
                    go_wp2
                    go_meet
                    exact ⟨rfl, kq.drew⟩
              case rest =>
              obtain ⟨rfl, kq2⟩ := hcut
              clear kq
              go_wp2
              go_roundw
              case rel => first | exact ⟨q + 1, by omega, by go_num, kq2⟩ | ((repeat apply Exists.intro); exact ⟨⟨q + 1, by omega, by go_num, kq2⟩, rfl⟩)
              case measure => simp [intOf]; omega
            · have hqe : ¬ (q : Int) < (m : Int) := by omega
              by_cases hr0 : r = 0
              · subst hr0
                have hAz := HINV.out.1 rfl
                have HA2 := Lib.hid hAz; clear hAz
                go_wp2
                go_roundw
                case rel => first | exact ⟨k + 1, by omega, by go_num, T + 1, by omega, by go_num, hkz.trans kq, s', hDd.no kq, HA2.out, hokn⟩ | ((repeat apply Exists.intro); exact ⟨⟨k + 1, by omega, by go_num, T + 1, by omega, by go_num, hkz.trans kq, s', hDd.no kq, HA2.out, hokn⟩, rfl⟩)
                case measure => simp [intOf]; omega
              · have hr0' : (r == 0) = false := by simp [hr0]
                have hAz := HINV.out.2 hr0
                have HA2 := Lib.hid hAz; clear hAz
                go_wp2
                go_roundw
                case rel => first | exact ⟨k + 1, by omega, by go_num, T, by omega, rfl, hkz.trans kq, s', hDd.no kq, HA2.out, hokn⟩ | ((repeat apply Exists.intro); exact ⟨⟨k + 1, by omega, by go_num, T, by omega, rfl, hkz.trans kq, s', hDd.no kq, HA2.out, hokn⟩, rfl⟩)
                case measure => simp [intOf]; omega
        · have hk' : k = len := by omega
          subst hk'
          have hwrT : s.wr = T := hA.2.1
          have hend : K < 0 ∨ (0 ≤ K ∧ (T : Int) ≤ K) := by
            rcases Int.lt_or_le K 0 with h | h
            · exact .inl h
            · refine .inr ⟨h, ?_⟩
              rcases hA.2.2.2 h with ⟨_, _, _, h'⟩ | ⟨_, _, h'⟩ <;> omega
          have hst9 := hD.st
          rw [hwrT] at hst9
          rcases hend with e1 | ⟨e1, e2⟩
          · go_wp2_with fail
            refine (writes_any b _ _ _ _ _ _ hst9).mono ?_
            rintro e w' ⟨rfl, rfl⟩
            go_wp2
            go_ret
            exact ⟨rfl, hkp.below (Nat.le_refl _) (fun _ _ m => m)⟩
          · go_wp2_with fail
            refine (writes_any b _ _ _ _ _ _ hst9).mono ?_
            rintro e w' ⟨rfl, rfl⟩
            go_wp2
            go_ret
            exact ⟨rfl, hkp.below (Nat.le_refl _) (fun _ _ m => m)⟩
    · have hlen' : (60 : Int) < len := by omega
      have hm' : (m : Int) ≤ 40 := by omega
      go_wp2
      go_ret
      exact ⟨rfl, (k0.trans k1).below (Nat.le_refl _) (fun _ _ m => m)⟩
  · have hm' : (40 : Int) < m := by omega
    go_wp2
    go_ret
    exact ⟨rfl, (k0.trans k1).below (Nat.le_refl _) (fun _ _ m => m)⟩

theorem walk (n : Int) (K : Int) (a : Option Addr) (len c : Nat) (zs : List Int) (w : World) (hK : K < 9223372036854775808) (hz : IsRow w a len zs) :
    Calls Try.prog 4 #[.int .i64 n, .int .i64 K, .slice a len c] w fun e w' => e = .returned (.bool true) ∧ Below w.heap.size w w' := by
  by_cases hn : n < 1 ∨ 512 < n
  · exact walk_no n hn K _ w
  · obtain ⟨m, rfl⟩ := Int.eq_ofNat_of_zero_le (by omega : 0 ≤ n)
    exact walk_yes m (by omega) (by omega) K hK a len c zs w hz

/-! ### The row's step -/
set_option maxRecDepth 100000 in
theorem lifted (os : Os) (started : os.Started) (H : Type) (enc : TypeId × Value → H) :
    ReturnsInHanded {} Try.checked os 4 .any (Rows.diskArmedSpec.pre6 enc Try.prog Try.f4 Rows.diskArmedRow.domain false) (Rows.diskArmedSpec.post enc Try.prog Try.f4 false true false false) := by
  refine returnsInHanded_of_change_sized (C := Try.checked) own started (by kernel_rfl) Try.func4
    (ChangeSpec.witness6 (enc := enc) (C := Try.checked) false ⟨#[], #[.int .i64 0, .int .i64 0, .slice none 0 0], []⟩ 8 (by kernel_rfl) (by kernel_rfl) (by kernel_rfl) (by kernel_rfl)) ?_
  intro W base args ds gs before hval0 hW hcnd hsz0 _
  have hval : ∀ (j : Nat) t v, Try.f4.params[j]? = some t → args[j]? = some v → Value.okWide Try.prog W .any base t v := hval0
  have hW' := hW
  obtain ⟨p, q, hA0, hV, rfl, hfz, hnd⟩ := hW
  have hA : DataW.TrodAll enc Try.prog W 0 (fun _ => true) true Try.f4.params.toList args.toList ds p := hA0
  rw [Try.params4] at hA hval
  obtain ⟨v0, vs0, d0, ds0, p0, q0, hargs, rfl, rfl, h0, r0⟩ := trodAll_cons hA
  obtain ⟨v1, vs1, d1, ds1, p1, q1, rfl, rfl, rfl, h1, r1⟩ := trodAll_cons r0
  obtain ⟨v2, vs2, d2, ds2, p2, q2, rfl, rfl, rfl, h2, r2⟩ := trodAll_cons r1
  obtain ⟨rfl, rfl, rfl⟩ := trodAll_nil r2
  obtain rfl : args = #[v0, v1, v2] := by cases args; simp_all
  obtain ⟨rfl, rfl⟩ := trodVars_none hV
  have hsz : ∀ (j : Nat) (t : TypeId) (d : DataW H), ([3, 3, 49] : List TypeId)[j]? = some t → [d0, d1, d2][j]? = some d → ∀ n ∈ d.weights Try.prog t, n ≤ reachBytes := by
    intro j t d ht hd n hn
    have hsz1 : (DataW.weightsEach Try.prog ([3, 3, 49] : List TypeId) [d0, d1, d2]).all (· ≤ reachBytes) = true := hsz0
    have := List.all_eq_true.1 hsz1 n (DataW.weights_mem_each ht hd n hn)
    simpa using this
  have k0 := h0
  have lt0 : ∀ x ∈ p0, x.block < W.heap.size := by obtain ⟨m, hm⟩ := k0; exact DataW.trod_lt m _ _ _ hm
  obtain ⟨a0, rfl, rfl, rfl, w0⟩ := open_int Try.underlying3 (hval 0 3 v0 rfl rfl) h0
  have k1 := h1
  have lt1 : ∀ x ∈ p1, x.block < W.heap.size := by obtain ⟨m, hm⟩ := k1; exact DataW.trod_lt m _ _ _ hm
  obtain ⟨a1, rfl, rfl, rfl, w1⟩ := open_int Try.underlying3 (hval 1 3 v1 rfl rfl) h1
  have k2 := h2
  have lt2 : ∀ x ∈ p2, x.block < W.heap.size := by obtain ⟨m, hm⟩ := k2; exact DataW.trod_lt m _ _ _ hm
  obtain ⟨a2, len2, cap2, rfl⟩ := okWide_slice Try.underlying49 (hval 2 49 v2 rfl rfl)
  obtain ⟨z2, w2⟩ : ∃ zs, IsRow W a2 len2 zs := by
    obtain ⟨fuel, hf⟩ := h2
    rcases open_ints Try.underlying49 Try.underlying3 (by kernel_rfl) hf with ⟨hcs, _⟩ | ⟨x, l, c, zs, hcs, _, hl, hm, hz, _, hcell, hwz⟩
    · simp [Value.cells] at hcs
      obtain ⟨rfl, rfl, rfl⟩ := hcs
      exact ⟨[], .inl rfl⟩
    · simp [Value.cells] at hcs
      obtain ⟨rfl, rfl, rfl⟩ := hcs
      exact ⟨zs, .inr ⟨_, rfl, (by split at hz <;> omega), hcell⟩⟩
  refine (walk a0 a1 a2 len2 cap2 z2 W  (by have := bounds_i64 w1; omega) w2).mono fun e W' ⟨he, bel⟩ => ?_
  subst he
  exact ⟨_, rfl, _, _, _, [], _, [], hW', trodAll_mk1 (shut_bool Try.underlying4 _), (trodAll_cons_mk (Below.trod laidOut (by kernel_rfl) (of_decide_eq_true (by kernel_rfl)) k0 bel lt0) (trodAll_cons_mk (Below.trod laidOut (by kernel_rfl) (of_decide_eq_true (by kernel_rfl)) k1 bel lt1) (trodAll_cons_mk (Below.trod laidOut (by kernel_rfl) (of_decide_eq_true (by kernel_rfl)) k2 bel lt2) trodAll_mk0))), rfl, bel.frame _, fun h => by cases h⟩

theorem over : Rows.diskArmedRow.holds Try.pinned (OpenSpec.ofChange Rows.diskArmedSpec) :=
  OpenClaim.holds_of_wide 4 Try.f4 rfl rfl rfl rfl rfl rfl rfl ⟨rfl, rfl, rfl, rfl, rfl⟩ rfl rfl rfl rfl rfl (by kernel_rfl) Try.func4 (by kernel_rfl)
    (of_decide_eq_true (by kernel_rfl)) (by unfold Func.isWrapper; first | (rw [if_pos (by decide +kernel)]; kernel_rfl) | (rw [if_neg (by decide +kernel)]; exact ⟨rfl, rfl⟩))
    (fun os started H enc _ => lifted os started H enc)

theorem proved : Rows.DiskArmedSaid := over
#print axioms proved
end Go.Proofs.Ytaohaofjbgghgaa.diskArmed
