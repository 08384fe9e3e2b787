/- DiskPlays returns true for every number of sectors and every script: every call on a disk answers what the document says, over power cuts. No condition. -/
import Derived.Test.YtaohaofjbgghgaaH
import Derived.Test.YtaohaofjbgghgaaO
import Derived.ProofKit
import Derived.OpenShut
import Derived.ShutString
import Derived.ChangeOld
import Derived.SizedLaws
import Derived.Below
namespace Go.Proofs.Ytaohaofjbgghgaa.diskPlays
open Go.ChangeShapes Go.WideShapes Go.ChangeAt Go.RowKit
open Go.ChangeMaps (open_string shut_string)

theorem own : ownKnob Try.prog.godebug = none := by kernel_rfl
theorem laidOut : laidOutB Try.prog = true := by kernel_rfl

theorem RD.farP {w w' : World} {B b sb rb : Nat} {v : Value} {L : List (List UInt8)} {wr ar : Int} {off : Bool} {cap : Nat} {s : St} (h : RD w B rb v L wr ar off) (hp : DkS w b sb cap s) (hk : Kp (Two b sb) w w') : RD w' B rb v L wr ar off :=
  h.kp hk fun g cs _ hg m => by
    obtain ⟨sp, hs⟩ := hp.se
    rcases m with rfl | rfl
    · rcases hg with hg | hg | hg
      · exact hg.ne_ hp.st (by decide) rfl
      · exact hg.ne_ hp.st (by decide) rfl
      · exact hg.ne_ hp.st (by decide) rfl
    · rcases hg with hg | hg | hg
      · exact hg.ne_ hs (by decide) rfl
      · exact hg.ne_ hs (by decide) rfl
      · exact hg.ne_ hs (by decide) rfl
theorem DkS.farR {w w' : World} {B b sb rb : Nat} {v : Value} {L : List (List UInt8)} {wr ar : Int} {off : Bool} {cap : Nat} {s : St} (hp : DkS w b sb cap s) (h : RD w B rb v L wr ar off) (hk : Kp (fun q => q = rb ∨ v.ownBlock = some q) w w') : DkS w' b sb cap s :=
  hp.kp hk fun g cs hg m => by
    rcases m with rfl | m
    · rcases hg with hg | hg
      · exact hg.ne_ h.st (by decide) rfl
      · exact hg.ne_ h.st (by decide) rfl
    · obtain ⟨xs, hown, _⟩ := h.ro
      obtain ⟨_, cs', hcs⟩ := own_bk hown m
      rcases hg with hg | hg
      · exact hg.ne_ hcs (by decide) rfl
      · exact hg.ne_ hcs (by decide) rfl

theorem rn_forms {w : World} {B : Nat} {v : Value} {L : List (List UInt8)} {t : TypeId} (h : RowsOf w B v L t) : ∃ A c, v = .slice A L.length c := by
  obtain ⟨A, c, xs, e, _⟩ := h.arg; exact ⟨A, c, e⟩

theorem wrRes_off {L : List (List UInt8)} {wr lf : Int} {ar : Bool} (i : Int) (l : List UInt8) : St.wrRes ⟨L, wr, ar, lf, true⟩ i l = 40 ∧ St.wrNext ⟨L, wr, ar, lf, true⟩ i l = ⟨L, wr, ar, lf, true⟩ := by
  have hf : St.fault ⟨L, wr, ar, lf, true⟩ i = 40 := by simp [St.fault, faultN]
  simp [St.wrRes, St.wrNext, hf]
theorem wrRes_bad {L : List (List UInt8)} {wr lf : Int} {ar : Bool} (i : Int) (l : List UInt8) (h : ¬ (0 ≤ i ∧ i < L.length) ∨ l.length ≠ 64) : St.wrRes ⟨L, wr, ar, lf, false⟩ i l = 2 ∧ St.wrNext ⟨L, wr, ar, lf, false⟩ i l = ⟨L, wr, ar, lf, false⟩ := by
  by_cases hi : 0 ≤ i ∧ i < L.length
  · have hf : St.fault ⟨L, wr, ar, lf, false⟩ i = 0 := by simp [St.fault, faultN, hi]
    have hl : l.length ≠ 64 := by rcases h with h | h; exact absurd hi h; exact h
    simp [St.wrRes, St.wrNext, hf, hl]
  · have hf : St.fault ⟨L, wr, ar, lf, false⟩ i = 2 := by simp only [St.fault, faultN, if_neg hi]; rfl
    simp [St.wrRes, St.wrNext, hf]
theorem wrRes_good {L : List (List UInt8)} {wr lf : Int} {ar : Bool} (i : Int) (l : List UInt8) (h : 0 ≤ i ∧ i < L.length) (hl : l.length = 64) :
    St.wrRes ⟨L, wr, ar, lf, false⟩ i l = (if ar = true ∧ lf = 0 then 40 else 0) ∧
    St.wrNext ⟨L, wr, ar, lf, false⟩ i l = (if ar = true ∧ lf = 0 then ⟨L, wr, false, lf, true⟩ else ⟨L.set i.toNat l, wr + 1, ar, if ar then lf - 1 else lf, false⟩) := by
  have hf : St.fault ⟨L, wr, ar, lf, false⟩ i = 0 := by simp [St.fault, faultN, h]
  simp [St.wrRes, St.wrNext, hf, hl]

def Tie (s : St) (arm : Int) : Prop := (s.ar = true ∧ arm = s.lf ∧ 0 ≤ s.lf) ∨ (s.ar = false ∧ arm = -1)

/-- the reference's Write, in the words of the program's state -/
theorem rwrite_all (B rb : Nat) (i : Int) (g : Nat) (v : Value) (l : List UInt8) (n : Nat) (w : World) (s : St) (arm : Int) (hr : RD w B rb v s.L s.wr arm s.off) (ha : Tie s arm) (ok : s.Ok) (hw : s.wr < 4611686018427387904) (hx : Bk w g 5 (u8s l)) (hl : l.length = n) (hB : B ≤ w.heap.size) :
    Calls Try.prog 21 #[.pointer (some ⟨rb, 0, none⟩), .int .i64 i, .slice (some ⟨g, 0, none⟩) n n] w fun e w' => e = .returned (.int .i64 (s.wrRes i l)) ∧
      (∃ arm', RD w' B rb v (s.wrNext i l).L (s.wrNext i l).wr arm' (s.wrNext i l).off ∧ Tie (s.wrNext i l) arm') ∧ Kp (fun q => q = rb ∨ v.ownBlock = some q) w w' := by
  obtain ⟨L, wr, ar, lf, off⟩ := s
  simp only at hr hw
  obtain ⟨A, c, hv⟩ := rn_forms hr.ro
  have hw0 := ok.w0
  have hl1 := ok.l1
  simp only at hw0 hl1
  cases off with
  | true =>
    obtain ⟨e1, e2⟩ := wrRes_off (L := L) (wr := wr) (lf := lf) (ar := ar) i l
    rw [e1, e2]
    refine (rwrite_off rb i _ w v wr arm hr.st).mono ?_
    rintro e w' ⟨rfl, rfl⟩
    exact ⟨rfl, ⟨arm, hr, ha⟩, Kp.refl _ _⟩
  | false =>
    by_cases hbad : ¬ (0 ≤ i ∧ i < L.length) ∨ l.length ≠ 64
    · obtain ⟨e1, e2⟩ := wrRes_bad (L := L) (wr := wr) (lf := lf) (ar := ar) i l hbad
      rw [e1, e2]
      have hst := hr.st
      rw [hv] at hst
      refine (rwrite_bad rb i _ n n w A L.length c wr arm hst (by rw [← hl]; exact hbad)).mono ?_
      rintro e w' ⟨rfl, rfl⟩
      exact ⟨rfl, ⟨arm, hr, ha⟩, Kp.refl _ _⟩
    · have hi : 0 ≤ i ∧ i < L.length := by
        by_cases h : 0 ≤ i ∧ i < L.length
        · exact h
        · exact absurd (.inl h) hbad
      have h64 : l.length = 64 := by
        by_cases h : l.length = 64
        · exact h
        · exact absurd (.inr h) hbad
      obtain ⟨e1, e2⟩ := wrRes_good (L := L) (wr := wr) (lf := lf) (ar := ar) i l hi h64
      rw [e1, e2]
      have hn : n = 64 := by omega
      subst hn
      obtain ⟨m, rfl⟩ := Int.eq_ofNat_of_zero_le hi.1
      have hm : m < L.length := by omega
      have hra : w.rangeAt g 0 (u8s l) := by have := hx.range 0 l.length; rw [List.drop_zero, List.take_of_length_le (by simp)] at this; exact this
      by_cases hc : ar = true ∧ lf = 0
      · obtain ⟨rfl, rfl⟩ := hc
        have harm : arm = 0 := by rcases ha with ⟨_, h, _⟩ | ⟨h, _⟩; exact h; cases h
        subst harm
        have hst := hr.st
        rw [hv] at hst
        refine (rwrite_cut rb m _ 64 w A L.length c wr hst hm).mono ?_
        rintro e w' ⟨rfl, hb, hk⟩
        simp only [and_self, if_true]
        refine ⟨trivial, ⟨-1, ⟨by rw [hv]; exact hb, hr.ro.kp hk fun g cs _ hg m => ?_, hr.lo⟩, .inr ⟨rfl, rfl⟩⟩, hk.mono fun _ _ m => .inl m⟩
        rcases hg with hg | hg
        · exact hg.ne_ hr.st (by decide) m
        · exact hg.ne_ hr.st (by decide) m
      · simp only [if_neg hc, Int.toNat_natCast]
        rcases ha with ⟨h1, h2, h3⟩ | ⟨h1, h2⟩
        · simp only at h1 h2 h3
          subst h1 h2
          have hpos : 0 < arm := by have : arm ≠ 0 := fun e => hc ⟨rfl, e⟩; omega
          refine (rwrite_armed B rb m g 0 64 l w v L wr arm hr hm h64 hra hpos hl1 (fun e => by subst e; exact hx.ne_ hr.st (by decide) rfl) hw0 hw hB).mono ?_
          rintro e w' ⟨rfl, hd, hk⟩
          exact ⟨rfl, ⟨arm - 1, hd, .inl ⟨rfl, rfl, by simp; omega⟩⟩, hk⟩
        · simp only at h1 h2
          subst h1 h2
          refine (rwrite_free B rb m g 0 64 l w v L wr (-1) hr hm h64 hra (by omega) hw0 hw hB).mono ?_
          rintro e w' ⟨rfl, hd, hk⟩
          exact ⟨rfl, ⟨-1, hd, .inr ⟨rfl, rfl⟩⟩, hk⟩

theorem new_tie (n : Nat) : Tie (St.new n) (-1) := .inr ⟨rfl, rfl⟩

/-- what a Read answers -/
def rdB (s : St) (i : Int) : List UInt8 := if s.fault i = 0 then s.L.getD i.toNat [] else []
theorem nil_bytes (w : World) : ArgBytes w (.slice Option.none 0 0) [] := ⟨Option.none, 0, rfl, fun h => absurd rfl h⟩
theorem fault_zero {s : St} {i : Int} (h : s.fault i = 0) : s.off = false ∧ 0 ≤ i ∧ i < s.L.length := by
  unfold St.fault faultN at h
  cases ho : s.off with
  | true => rw [ho] at h; simp at h
  | false =>
    rw [ho] at h
    simp only [Bool.false_eq_true, if_false] at h
    by_cases hc : 0 ≤ i ∧ i < s.L.length
    · exact ⟨rfl, hc⟩
    · rw [if_neg hc] at h; omega
theorem read_bytes (b sb cap : Nat) (i : Int) (w : World) (s : St) (h : DkS w b sb cap s) :
    Calls Try.prog 11 #[.pointer (some ⟨b, 0, none⟩), .int .i64 i] w fun e w' => ∃ x, e = .returned (.tuple #[x, .int .i64 (s.fault i)]) ∧ Kp No w w' ∧ ArgBytes w' x (rdB s i) := by
  refine (read_all b sb cap i w s h).mono ?_
  rintro e w' ⟨x, rfl, k, h1, h2⟩
  refine ⟨x, rfl, k, ?_⟩
  by_cases hf : s.fault i = 0
  · obtain ⟨hi, h0, g, rfl, _, hb⟩ := h2 hf
    unfold rdB
    rw [if_pos hf, List.getD_eq_getElem?_getD, List.getElem?_eq_getElem hi]
    exact hb.arg64 (h.le _ (List.getElem_mem hi))
  · rw [h1 hf]; unfold rdB; rw [if_neg hf]; exact nil_bytes _
theorem rread_bytes (B rb : Nat) (i : Int) (w : World) (v : Value) (s : St) (arm : Int) (h : RD w B rb v s.L s.wr arm s.off) (hle : ∀ l ∈ s.L, l.length = 64) :
    Calls Try.prog 12 #[.pointer (some ⟨rb, 0, none⟩), .int .i64 i] w fun e w' => ∃ x, e = .returned (.tuple #[x, .int .i64 (s.fault i)]) ∧ Kp No w w' ∧ ArgBytes w' x (rdB s i) := by
  obtain ⟨A, c, hv⟩ := rn_forms h.ro
  obtain ⟨L, wr, ar, lf, off⟩ := s
  simp only at h hle hv
  cases off with
  | true =>
    have hf : St.fault ⟨L, wr, ar, lf, true⟩ i = 40 := by simp [St.fault, faultN]
    refine (rread_off rb i w v wr arm h.st).mono ?_
    rintro e w' ⟨rfl, rfl⟩
    refine ⟨_, by rw [hf], Kp.refl _ _, ?_⟩
    unfold rdB; rw [hf, if_neg (by decide)]; exact nil_bytes _
  | false =>
    by_cases hi : 0 ≤ i ∧ i < L.length
    · have hf : St.fault ⟨L, wr, ar, lf, false⟩ i = 0 := by simp [St.fault, faultN, hi]
      obtain ⟨m, rfl⟩ := Int.eq_ofNat_of_zero_le hi.1
      have hm : m < L.length := by omega
      refine (rread_any B rb m w v L wr arm h hm (hle _ (List.getElem_mem hm))).mono ?_
      rintro e w' ⟨g, rfl, hb, hg, hk⟩
      refine ⟨_, by rw [hf], hk, ?_⟩
      unfold rdB
      rw [if_pos hf, Int.toNat_natCast, List.getD_eq_getElem?_getD, List.getElem?_eq_getElem hm]
      exact hb.arg64 (hle _ (List.getElem_mem hm))
    · have hf : St.fault ⟨L, wr, ar, lf, false⟩ i = 2 := by simp only [St.fault, faultN, if_neg hi]; rfl
      have hst := h.st
      rw [hv] at hst
      refine (rread_out rb i w A L.length c wr arm hst hi).mono ?_
      rintro e w' ⟨rfl, rfl⟩
      refine ⟨_, by rw [hf], Kp.refl _ _, ?_⟩
      unfold rdB; rw [hf, if_neg (by decide)]; exact nil_bytes _

theorem writeF (b sb cap : Nat) (i : Int) (g : Nat) (f : UInt8) (m : Nat) (w : World) (s : St) (h : DkS w b sb cap s) (ok : s.Ok) (hw : s.wr < 4611686018427387904) (hx : Bk w g 5 (u8s (fillB f m))) :
    Calls Try.prog 19 #[.pointer (some ⟨b, 0, none⟩), .int .i64 i, .slice (some ⟨g, 0, none⟩) m m] w fun e w' => e = .returned (.int .i64 (s.wrRes i (fillB f m))) ∧ DkS w' b sb cap (s.wrNext i (fillB f m)) ∧ Kp (Two b sb) w w' := by
  have hb : ArgBytes w (.slice (some ⟨g, 0, none⟩) m m) (fillB f m) := by have := hx.argBytes m; rwa [fillB_len] at this
  refine write_all b sb cap i _ _ w s h ok hw hb (fun g' o c e => ?_)
  simp only [Value.slice.injEq, Option.some.injEq, Addr.mk.injEq] at e
  obtain ⟨⟨rfl, _⟩, _⟩ := e
  obtain ⟨sp, hs⟩ := h.se
  exact ⟨hx.ne_ hs (by decide), hx.ne_ h.st (by decide)⟩
theorem two_ne {w : World} {b sb cap g : Nat} {s : St} {t : TypeId} {cs : List Value} (hg : Bk w g t cs) (h : DkS w b sb cap s) (h1 : t ≠ 58) (h2 : t ≠ 61) : ¬ Two b sb g := fun m => by
  obtain ⟨sp, hs⟩ := h.se
  rcases m with rfl | rfl
  · exact hg.ne_ h.st h1 rfl
  · exact hg.ne_ hs h2 rfl
theorem rfar_ne {w : World} {B rb g : Nat} {v : Value} {L : List (List UInt8)} {wr ar : Int} {off : Bool} {t : TypeId} {cs : List Value} (hg : Bk w g t cs) (h : RD w B rb v L wr ar off) (h1 : t ≠ 43) (h2 : t ≠ 33) : ¬ (g = rb ∨ v.ownBlock = some g) := fun m => by
  rcases m with rfl | m
  · exact hg.ne_ h.st h1 rfl
  · obtain ⟨xs, hown, _⟩ := h.ro
    obtain ⟨_, cs', hcs⟩ := own_bk hown m
    exact hg.ne_ hcs h2 rfl
theorem wrNext_wr (s : St) (i : Int) (l : List UInt8) : (s.wrNext i l).wr ≤ s.wr + 1 := by
  unfold St.wrNext
  split
  · omega
  split
  · omega
  split
  · simp only; omega
  · simp only; omega

theorem rows_base {w : World} {B B' : Nat} {v : Value} {L : List (List UInt8)} {t : TypeId} (h : RowsOf w B v L t) (hB : B' ≤ B) : RowsOf w B' v L t := by
  obtain ⟨xs, ⟨h1, h2⟩, hr⟩ := h
  refine ⟨xs, ⟨h1, ?_⟩, fun i hi => ?_⟩
  · rcases h2 with h2 | ⟨g, cap, cur, e, hb, r⟩
    · exact .inl h2
    · exact .inr ⟨g, cap, cur, e, by omega, r⟩
  · obtain ⟨x, hx, g, c, sp, e, hc, hb, r⟩ := hr i hi
    exact ⟨x, hx, g, c, sp, e, hc, by omega, r⟩
theorem new_ok (m : Nat) : (St.new m).Ok := ⟨Int.le_refl 0, (by intro h; cases h), (by show (0 : Int) < _; omega)⟩

/-- both disks in memory, with one content -/
structure Duo (w : World) (B b sb cap rb : Nat) (v : Value) (s : St) (arm : Int) : Prop where
  p : DkS w b sb cap s
  r : RD w B rb v s.L s.wr arm s.off
  t : Tie s arm
  ok : s.Ok
  lb : B ≤ b
  ls : B ≤ sb
theorem Duo.no {w w' : World} {B b sb cap rb : Nat} {v : Value} {s : St} {arm : Int} (h : Duo w B b sb cap rb v s arm) (hk : Kp No w w') : Duo w' B b sb cap rb v s arm :=
  ⟨h.p.no hk, h.r.no hk, h.t, h.ok, h.lb, h.ls⟩
/-- what the rounds keep -/
def Inv (w : World) (b sb cap rb : Nat) (v : Value) (k : Nat) (wr : World) : Prop := Kp No w wr ∧ ∃ s arm, Duo wr w.heap.size b sb cap rb v s arm ∧ s.wr ≤ k

set_option maxRecDepth 100000 in
set_option maxHeartbeats 8000000 in
theorem walk (n : Int) (v : Value) (l : List OpD) (w : World) (hv : ArgOps w v l) (hs : l.length * 32 ≤ reachBytes) :
    Calls Try.prog 3 #[.int .i64 n, v] w fun e w' => e = .returned (.bool true) ∧ Below w.heap.size w w' := by
  have hl : l.length ≤ 4398046511103 := by unfold reachBytes at hs; omega
  clear hs
  obtain ⟨A, c, rfl, hops⟩ := hv
  have HO := Lib.hid hops; clear hops
  go_enter Try.func3, Try.ntmps3
  go_wp2_with fail
  refine (awake_any _).mono ?_
  rintro e w0 ⟨rfl, k0⟩
  go_wp2_with fail
  by_cases hn : 1 ≤ n ∧ n ≤ 512
  · refine (new_all n hn.1 hn.2 w0).mono ?_
    rintro e w1 ⟨b, sb, rfl, d1, hb1, hb2, k1⟩
    go_wp2_with fail
    obtain ⟨m, rfl⟩ := Int.eq_ofNat_of_zero_le (by omega : 0 ≤ n)
    simp only [Int.toNat_natCast] at d1
    refine (rnew_yes m (by omega) (by omega) w1).mono ?_
    rintro e w2 ⟨rb, u, rfl, r1, r2, r3, k2⟩
    have hsz1 := k0.size
    have hsz2 := k1.size
    have hI : Inv w b sb m rb u 0 w2 := ⟨(k0.trans k1).trans k2, St.new m, -1, ⟨d1.no k2, ⟨r1, rows_base r2 (by omega), by omega⟩, new_tie m, new_ok m, by omega, by omega⟩, Int.le_refl 0⟩
    clear d1 r1 r2 r3 k0 k1 k2 hsz1 hsz2 hb1 hb2 hn
    go_wp2
    go_loopw [41] (fun i wr => ∃ k : Nat, k ≤ l.length ∧ i = .int .i64 k ∧ Inv w b sb m rb u k wr) (fun i _ => l.length - (intOf i).toNat)
    case atStart => exact ⟨0, Nat.zero_le _, rfl, hI⟩
    case round =>
      clear hI
      obtain ⟨k, hk, rfl, hkp, s, arm, hD, hsk⟩ := hrel
      by_cases hlt : k < l.length
      · obtain ⟨g, o, rfl, hgw, hra⟩ := HO.out (by intro e; rw [e] at hlt; simp at hlt)
        have hrk := range_no (hra k hlt).2 hkp
        have hoi := (hra k hlt).1
        generalize hok : l[k] = op at *
        clear hok hra
        have hc0 : wr.cell? ⟨g, o + k * 4, none⟩ = some (.int .i64 op.kind) := hrk 0 _ rfl
        have hc1 : wr.cell? ⟨g, o + k * 4 + 1, none⟩ = some (.int .i64 op.i) := hrk 1 _ rfl
        have hc2 : wr.cell? ⟨g, o + k * 4 + 2, none⟩ = some (.int .u8 (op.fill.toNat : Int)) := hrk 2 _ rfl
        have hc3 : wr.cell? ⟨g, o + k * 4 + 3, none⟩ = some (.int .i64 op.len) := hrk 3 _ rfl
        have hk0 : (0 : Int) ≤ (k : Int) := by omega
        have hk1 : (k : Int) < (l.length : Int) := by omega
        have bo : Bk (wr.alloc (.cells #[.int .i64 op.kind, .int .i64 op.i, .int .u8 (op.fill.toNat : Int), .int .i64 op.len] 32)) wr.heap.size 32 (opCells op) := Bk.new' rfl rfl
        have hD0 := hD.no ((Kp.refl No wr).alloc (.cells #[.int .i64 op.kind, .int .i64 op.i, .int .u8 (op.fill.toNat : Int), .int .i64 op.len] 32))
        have hkp0 := hkp.alloc (.cells #[.int .i64 op.kind, .int .i64 op.i, .int .u8 (op.fill.toNat : Int), .int .i64 op.len] 32)
        have hwr : s.wr < 4611686018427387904 := by omega
        have hbase : w.heap.size ≤ wr.heap.size := hkp.size
        by_cases e1 : op.kind = 1
        · have e1' : (op.kind == 1) = true := by simp [e1]
          clear e1
          go_wp2_with fail
          refine (read_bytes b sb m op.i _ s hD0.p).mono ?_
          rintro e wa ⟨x, rfl, ka, hx⟩
          have hDa := hD0.no ka
          have boa := bo.no ka
          have q1 : wa.cell? ⟨wr.heap.size, 1, none⟩ = some (.int .i64 op.i) := boa.cell 1
          go_wp2_with fail
          refine (rread_bytes w.heap.size rb op.i _ u s arm hDa.r hDa.p.le).mono ?_
          rintro e wz ⟨y, rfl, kz, hy⟩
          have hDz := hDa.no kz
          have hkz := (hkp0.trans ka).trans kz
          have sx := (hx.no kz).str (P := Try.prog) 33 5 9 Try.underlying33 Try.underlying5 Try.underlying9
          have sy := hy.str (P := Try.prog) 33 5 9 Try.underlying33 Try.underlying5 Try.underlying9
          clear hx hy ka kz hDa boa q1 bo hD0 hkp0 hD hkp hc0 hc1 hc2 hc3 hrk
          obtain ⟨sz, rfl⟩ : ∃ t, t = s := ⟨_, rfl⟩
          obtain ⟨az, rfl⟩ : ∃ t, t = arm := ⟨_, rfl⟩
          obtain ⟨A', c', hu⟩ := rn_forms hDz.r.ro
          subst hu
          go_wp2
          have hP := (hDz.no (Kp.refl No _).drew).p.st
          have hF : (fun W : World => W.cell? ⟨rb, 0, none⟩ = some (.slice A' sz.L.length c') ∧ W.cell? ⟨rb, 1, none⟩ = some (.int .i64 sz.wr) ∧ W.cell? ⟨rb, 3, none⟩ = some (.bool sz.off)) wz.drew := ⟨hDz.r.st.cell 0, hDz.r.st.cell 1, hDz.r.st.cell 3⟩
          refine rg_begin (fun W => W.cell? ⟨rb, 0, none⟩ = some (.slice A' sz.L.length c') ∧ W.cell? ⟨rb, 1, none⟩ = some (.int .i64 sz.wr) ∧ W.cell? ⟨rb, 3, none⟩ = some (.bool sz.off)) 26 (by kernel_rfl) ?_
          refine rg_take (i := 0) (v := ?vka0) (by simp only [List.getElem?_toArray, List.getElem?_cons_succ, List.getElem?_cons_zero]; rfl) (by kernel_rfl) (by exact fun _ _ _ h => h) (by rfl) ?rka0 hF ?ska0
          case rka0 => (intro W hW; clear hW; go_simp; try with_reducible rfl)
          try simp only [Act.put, List.setIfInBounds_toArray, List.set_cons_zero, List.set_cons_succ]
          refine rg_take (i := 2) (v := ?vka2) (by simp only [List.getElem?_toArray, List.getElem?_cons_succ, List.getElem?_cons_zero]; rfl) (by kernel_rfl) (by exact fun _ _ _ h => h) (by rfl) ?rka2 hF ?ska2
          case rka2 => (intro W hW; clear hW; go_simp; try with_reducible rfl)
          try simp only [Act.put, List.setIfInBounds_toArray, List.set_cons_zero, List.set_cons_succ]
          refine rg_take (i := 3) (v := ?vka3) (by simp only [List.getElem?_toArray, List.getElem?_cons_succ, List.getElem?_cons_zero]; rfl) (by kernel_rfl) (by exact fun _ _ _ h => h) (by rfl) ?rka3 hF ?ska3
          case rka3 => (intro W hW; clear hW; go_simp; try with_reducible rfl)
          try simp only [Act.put, List.setIfInBounds_toArray, List.set_cons_zero, List.set_cons_succ]
          refine rg_take (i := 4) (v := ?vka4) (by simp only [List.getElem?_toArray, List.getElem?_cons_succ, List.getElem?_cons_zero]; rfl) (by kernel_rfl) (by exact fun _ _ _ h => h) (by rfl) ?rka4 hF ?ska4
          case rka4 => (intro W hW; clear hW; go_simp; try with_reducible rfl)
          try simp only [Act.put, List.setIfInBounds_toArray, List.set_cons_zero, List.set_cons_succ]
          refine rg_take (i := 5) (v := ?vka5) (by simp only [List.getElem?_toArray, List.getElem?_cons_succ, List.getElem?_cons_zero]; rfl) (by kernel_rfl) (by exact fun _ _ _ h => h) (by rfl) ?rka5 hF ?ska5
          case rka5 => (intro W hW; obtain ⟨f1, f2, f3⟩ := hW; go_simp; try with_reducible rfl)
          try simp only [Act.put, List.setIfInBounds_toArray, List.set_cons_zero, List.set_cons_succ]
          refine rg_one (i := 1) (by simp only [List.getElem?_toArray, List.getElem?_cons_succ, List.getElem?_cons_zero]; rfl) (by kernel_rfl) (by rfl) (fun K hK => ?_)
          (go_simp; refine (writes_any b _ _ _ _ _ _ hP).mono ?_; rintro e w' ⟨rfl, rfl⟩)
          refine rg_use hK (hF) (fun hF => ?_)
          clear hK K
          try simp only [Act.put, List.setIfInBounds_toArray, List.set_cons_zero, List.set_cons_succ]
          refine rg_take (i := 6) (v := ?vka6) (by simp only [List.getElem?_toArray, List.getElem?_cons_succ, List.getElem?_cons_zero]; rfl) (by kernel_rfl) (by exact fun _ _ _ h => h) (by rfl) ?rka6 hF ?ska6
          case rka6 => (intro W hW; clear hW; go_simp; try with_reducible rfl)
          try simp only [Act.put, List.setIfInBounds_toArray, List.set_cons_zero, List.set_cons_succ]
          refine rg_take (i := 7) (v := ?vka7) (by simp only [List.getElem?_toArray, List.getElem?_cons_succ, List.getElem?_cons_zero]; rfl) (by kernel_rfl) (by exact fun _ _ _ h => h) (by rfl) ?rka7 hF ?ska7
          case rka7 => (intro W hW; clear hW; go_simp; try with_reducible rfl)
          try simp only [Act.put, List.setIfInBounds_toArray, List.set_cons_zero, List.set_cons_succ]
          refine rg_take (i := 8) (v := ?vka8) (by simp only [List.getElem?_toArray, List.getElem?_cons_succ, List.getElem?_cons_zero]; rfl) (by kernel_rfl) (by exact fun _ _ _ h => h) (by rfl) ?rka8 hF ?ska8
          case rka8 => (intro W hW; clear hW; go_simp; try with_reducible rfl)
          try simp only [Act.put, List.setIfInBounds_toArray, List.set_cons_zero, List.set_cons_succ]
          refine rg_take (i := 10) (v := ?vka10) (by simp only [List.getElem?_toArray, List.getElem?_cons_succ, List.getElem?_cons_zero]; rfl) (by kernel_rfl) (by exact fun _ _ _ h => h) (by rfl) ?rka10 hF ?ska10
          case rka10 => (intro W hW; clear hW; go_simp; try with_reducible rfl)
          try simp only [Act.put, List.setIfInBounds_toArray, List.set_cons_zero, List.set_cons_succ]
          refine rg_take (i := 11) (v := ?vka11) (by simp only [List.getElem?_toArray, List.getElem?_cons_succ, List.getElem?_cons_zero]; rfl) (by kernel_rfl) (by exact fun _ _ _ h => h) (by rfl) ?rka11 hF ?ska11
          case rka11 => (intro W hW; clear hW; go_simp; try with_reducible rfl)
          try simp only [Act.put, List.setIfInBounds_toArray, List.set_cons_zero, List.set_cons_succ]
          refine rg_take (i := 12) (v := ?vka12) (by simp only [List.getElem?_toArray, List.getElem?_cons_succ, List.getElem?_cons_zero]; rfl) (by kernel_rfl) (by exact fun _ _ _ h => h) (by rfl) ?rka12 hF ?ska12
          case rka12 => (intro W hW; clear hW; go_simp; try with_reducible rfl)
          try simp only [Act.put, List.setIfInBounds_toArray, List.set_cons_zero, List.set_cons_succ]
          refine rg_take (i := 13) (v := ?vka13) (by simp only [List.getElem?_toArray, List.getElem?_cons_succ, List.getElem?_cons_zero]; rfl) (by kernel_rfl) (by exact fun _ _ _ h => h) (by rfl) ?rka13 hF ?ska13
          case rka13 => (intro W hW; obtain ⟨f1, f2, f3⟩ := hW; go_simp; try with_reducible rfl)
          try simp only [Act.put, List.setIfInBounds_toArray, List.set_cons_zero, List.set_cons_succ]
          refine rg_one (i := 9) (by simp only [List.getElem?_toArray, List.getElem?_cons_succ, List.getElem?_cons_zero]; rfl) (by kernel_rfl) (by rfl) (fun K hK => ?_)
          (go_simp; refine (off_any b _ _ _ _ _ _ hP).mono ?_; rintro e w' ⟨rfl, rfl⟩)
          refine rg_use hK (hF) (fun hF => ?_)
          clear hK K
          try simp only [Act.put, List.setIfInBounds_toArray, List.set_cons_zero, List.set_cons_succ]
          refine rg_take (i := 14) (v := ?vka14) (by simp only [List.getElem?_toArray, List.getElem?_cons_succ, List.getElem?_cons_zero]; rfl) (by kernel_rfl) (by exact fun _ _ _ h => h) (by rfl) ?rka14 hF ?ska14
          case rka14 => (intro W hW; clear hW; go_simp; try with_reducible rfl)
          try simp only [Act.put, List.setIfInBounds_toArray, List.set_cons_zero, List.set_cons_succ]
          refine rg_take (i := 15) (v := ?vka15) (by simp only [List.getElem?_toArray, List.getElem?_cons_succ, List.getElem?_cons_zero]; rfl) (by kernel_rfl) (by exact fun _ _ _ h => h) (by rfl) ?rka15 hF ?ska15
          case rka15 => (intro W hW; clear hW; go_simp; try with_reducible rfl)
          try simp only [Act.put, List.setIfInBounds_toArray, List.set_cons_zero, List.set_cons_succ]
          refine rg_take (i := 16) (v := ?vka16) (by simp only [List.getElem?_toArray, List.getElem?_cons_succ, List.getElem?_cons_zero]; rfl) (by kernel_rfl) (by exact fun _ _ _ h => h) (by rfl) ?rka16 hF ?ska16
          case rka16 => (intro W hW; clear hW; go_simp; try with_reducible rfl)
          try simp only [Act.put, List.setIfInBounds_toArray, List.set_cons_zero, List.set_cons_succ]
          refine rg_take (i := 17) (v := ?vka17) (by simp only [List.getElem?_toArray, List.getElem?_cons_succ, List.getElem?_cons_zero]; rfl) (by kernel_rfl) (by exact fun _ _ _ h => h) (by rfl) ?rka17 hF ?ska17
          case rka17 => (intro W hW; clear hW; go_simp; try with_reducible rfl)
          try simp only [Act.put, List.setIfInBounds_toArray, List.set_cons_zero, List.set_cons_succ]
          refine rg_take (i := 19) (v := ?vka19) (by simp only [List.getElem?_toArray, List.getElem?_cons_succ, List.getElem?_cons_zero]; rfl) (by kernel_rfl) (by exact fun _ _ _ h => h) (by rfl) ?rka19 hF ?ska19
          case rka19 => (intro W hW; clear hW; go_simp; try with_reducible rfl)
          try simp only [Act.put, List.setIfInBounds_toArray, List.set_cons_zero, List.set_cons_succ]
          refine rg_take (i := 20) (v := ?vka20) (by simp only [List.getElem?_toArray, List.getElem?_cons_succ, List.getElem?_cons_zero]; rfl) (by kernel_rfl) (by exact fun _ _ _ h => h) (by rfl) ?rka20 hF ?ska20
          case rka20 => (intro W hW; clear hW; go_simp; try with_reducible rfl)
          try simp only [Act.put, List.setIfInBounds_toArray, List.set_cons_zero, List.set_cons_succ]
          refine rg_take (i := 21) (v := ?vka21) (by simp only [List.getElem?_toArray, List.getElem?_cons_succ, List.getElem?_cons_zero]; rfl) (by kernel_rfl) (by exact fun _ _ _ h => h) (by rfl) ?rka21 hF ?ska21
          case rka21 => (intro W hW; clear hW; go_simp; try with_reducible rfl)
          try simp only [Act.put, List.setIfInBounds_toArray, List.set_cons_zero, List.set_cons_succ]
          refine rg_take (i := 22) (v := ?vka22) (by simp only [List.getElem?_toArray, List.getElem?_cons_succ, List.getElem?_cons_zero]; rfl) (by kernel_rfl) (by exact fun _ _ _ h => h) (by rfl) ?rka22 hF ?ska22
          case rka22 => (intro W hW; obtain ⟨f1, f2, f3⟩ := hW; go_simp; try with_reducible rfl)
          try simp only [Act.put, List.setIfInBounds_toArray, List.set_cons_zero, List.set_cons_succ]
          refine rg_take (i := 23) (v := ?vka23) (by simp only [List.getElem?_toArray, List.getElem?_cons_succ, List.getElem?_cons_zero]; rfl) (by kernel_rfl) (by exact fun _ _ _ h => h) (by rfl) ?rka23 hF ?ska23
          case rka23 => (intro W hW; clear hW; go_simp; try with_reducible rfl)
          try simp only [Act.put, List.setIfInBounds_toArray, List.set_cons_zero, List.set_cons_succ]
          refine rg_one (i := 18) (by simp only [List.getElem?_toArray, List.getElem?_cons_succ, List.getElem?_cons_zero]; rfl) (by kernel_rfl) (by rfl) (fun K hK => ?_)
          (go_simp; refine (len_any b _ _ _ _ _ _ _ _ hP).mono ?_; rintro e w' ⟨rfl, rfl⟩)
          refine rg_use hK (hF) (fun hF => ?_)
          clear hK K
          try simp only [Act.put, List.setIfInBounds_toArray, List.set_cons_zero, List.set_cons_succ]
          refine rg_take (i := 24) (v := ?vka24) (by simp only [List.getElem?_toArray, List.getElem?_cons_succ, List.getElem?_cons_zero]; rfl) (by kernel_rfl) (by exact fun _ _ _ h => h) (by rfl) ?rka24 hF ?ska24
          case rka24 => (intro W hW; clear hW; go_simp; try with_reducible rfl)
          try simp only [Act.put, List.setIfInBounds_toArray, List.set_cons_zero, List.set_cons_succ]
          refine rg_take (i := 25) (v := ?vka25) (by simp only [List.getElem?_toArray, List.getElem?_cons_succ, List.getElem?_cons_zero]; rfl) (by kernel_rfl) (by exact fun _ _ _ h => h) (by rfl) ?rka25 hF ?ska25
          case rka25 => (intro W hW; clear hW; go_simp; try with_reducible rfl)
          try simp only [Act.put, List.setIfInBounds_toArray, List.set_cons_zero, List.set_cons_succ]
          refine rg_done (by kernel_rfl) ?_
          go_wp2
          go_roundw
          case rel => exact ⟨k + 1, by omega, by go_num, hkz.drew, sz, az, hDz.no (Kp.refl No _).drew, by omega⟩
          case measure => simp [intOf]; omega
        by_cases e2 : op.kind = 2
        · have e2' : (op.kind == 2) = true := by simp [e2]
          have e1' : (op.kind == 1) = false := by simp [e1]
          clear e1 e2
          go_wp2_with fail
          refine (arm_any b op.i _ _ _ _ _ _ hD0.p.st).mono ?_
          rintro e wa ⟨rfl, da, ka⟩
          have boa := bo.kp ka (fun m => bo.ne_ hD0.p.st (by decide) m)
          have q1 : wa.cell? ⟨wr.heap.size, 1, none⟩ = some (.int .i64 op.i) := boa.cell 1
          have ra := RD.farP hD0.r hD0.p (ka.mono (M' := Two b sb) fun _ _ m => .inl m)
          have pa : DkS wa b sb m { s with ar := decide (0 ≤ op.i), lf := op.i } := by
            obtain ⟨sp, hs⟩ := hD0.p.se
            exact ⟨da, ⟨sp, hs.kp ka fun m => hD0.p.st.ne_ hs (by decide) m.symm⟩, hD0.p.le, hD0.p.n1, hD0.p.n2⟩
          go_wp2_with fail
          refine (rarm_any rb op.i _ u _ _ _ ra.st).mono ?_
          rintro e wz ⟨rfl, dz, kz⟩
          have rz : RD wz w.heap.size rb u s.L s.wr (max op.i (-1)) s.off := ⟨dz, ra.ro.kp kz fun g cs _ hg m => by
            rcases hg with hg | hg
            · exact hg.ne_ ra.st (by decide) m
            · exact hg.ne_ ra.st (by decide) m, ra.lo⟩
          have pz := DkS.farR pa ra (kz.mono fun _ _ m => .inl m)
          have hDz : Duo wz w.heap.size b sb m rb u { s with ar := decide (0 ≤ op.i), lf := op.i } (max op.i (-1)) := by
            refine ⟨pz, rz, ?_, ⟨hD.ok.w0, ?_, hoi⟩, hD.lb, hD.ls⟩
            · by_cases h0 : 0 ≤ op.i
              · exact .inl ⟨by simp [h0], by simp only; omega, h0⟩
              · exact .inr ⟨by simp [h0], by omega⟩
            · intro h; simpa using h
          have hkz : Kp No w wz := (hkp0.then_ ka fun i hi m => by have := hD.lb; rw [m] at hi; omega).then_ kz fun i hi m => by have := hD.r.lo; rw [m] at hi; omega
          have hsz : ({ s with ar := decide (0 ≤ op.i), lf := op.i } : St).wr ≤ k := hsk
          clear ka kz boa q1 bo hD0 hkp0 hD hkp hc0 hc1 hc2 hc3 hrk ra pa rz pz da dz
          generalize ({ s with ar := decide (0 ≤ op.i), lf := op.i } : St) = sz at *
          generalize max op.i (-1) = az at *
          obtain ⟨A', c', hu⟩ := rn_forms hDz.r.ro
          subst hu
          go_wp2
          have hP := (hDz.no (Kp.refl No _).drew).p.st
          have hF : (fun W : World => W.cell? ⟨rb, 0, none⟩ = some (.slice A' sz.L.length c') ∧ W.cell? ⟨rb, 1, none⟩ = some (.int .i64 sz.wr) ∧ W.cell? ⟨rb, 3, none⟩ = some (.bool sz.off)) wz.drew := ⟨hDz.r.st.cell 0, hDz.r.st.cell 1, hDz.r.st.cell 3⟩
          refine rg_begin (fun W => W.cell? ⟨rb, 0, none⟩ = some (.slice A' sz.L.length c') ∧ W.cell? ⟨rb, 1, none⟩ = some (.int .i64 sz.wr) ∧ W.cell? ⟨rb, 3, none⟩ = some (.bool sz.off)) 26 (by kernel_rfl) ?_
          refine rg_take (i := 0) (v := ?vkb0) (by simp only [List.getElem?_toArray, List.getElem?_cons_succ, List.getElem?_cons_zero]; rfl) (by kernel_rfl) (by exact fun _ _ _ h => h) (by rfl) ?rkb0 hF ?skb0
          case rkb0 => (intro W hW; clear hW; go_simp; try with_reducible rfl)
          try simp only [Act.put, List.setIfInBounds_toArray, List.set_cons_zero, List.set_cons_succ]
          refine rg_take (i := 2) (v := ?vkb2) (by simp only [List.getElem?_toArray, List.getElem?_cons_succ, List.getElem?_cons_zero]; rfl) (by kernel_rfl) (by exact fun _ _ _ h => h) (by rfl) ?rkb2 hF ?skb2
          case rkb2 => (intro W hW; clear hW; go_simp; try with_reducible rfl)
          try simp only [Act.put, List.setIfInBounds_toArray, List.set_cons_zero, List.set_cons_succ]
          refine rg_take (i := 3) (v := ?vkb3) (by simp only [List.getElem?_toArray, List.getElem?_cons_succ, List.getElem?_cons_zero]; rfl) (by kernel_rfl) (by exact fun _ _ _ h => h) (by rfl) ?rkb3 hF ?skb3
          case rkb3 => (intro W hW; clear hW; go_simp; try with_reducible rfl)
          try simp only [Act.put, List.setIfInBounds_toArray, List.set_cons_zero, List.set_cons_succ]
          refine rg_take (i := 4) (v := ?vkb4) (by simp only [List.getElem?_toArray, List.getElem?_cons_succ, List.getElem?_cons_zero]; rfl) (by kernel_rfl) (by exact fun _ _ _ h => h) (by rfl) ?rkb4 hF ?skb4
          case rkb4 => (intro W hW; clear hW; go_simp; try with_reducible rfl)
          try simp only [Act.put, List.setIfInBounds_toArray, List.set_cons_zero, List.set_cons_succ]
          refine rg_take (i := 5) (v := ?vkb5) (by simp only [List.getElem?_toArray, List.getElem?_cons_succ, List.getElem?_cons_zero]; rfl) (by kernel_rfl) (by exact fun _ _ _ h => h) (by rfl) ?rkb5 hF ?skb5
          case rkb5 => (intro W hW; obtain ⟨f1, f2, f3⟩ := hW; go_simp; try with_reducible rfl)
          try simp only [Act.put, List.setIfInBounds_toArray, List.set_cons_zero, List.set_cons_succ]
          refine rg_one (i := 1) (by simp only [List.getElem?_toArray, List.getElem?_cons_succ, List.getElem?_cons_zero]; rfl) (by kernel_rfl) (by rfl) (fun K hK => ?_)
          (go_simp; refine (writes_any b _ _ _ _ _ _ hP).mono ?_; rintro e w' ⟨rfl, rfl⟩)
          refine rg_use hK (hF) (fun hF => ?_)
          clear hK K
          try simp only [Act.put, List.setIfInBounds_toArray, List.set_cons_zero, List.set_cons_succ]
          refine rg_take (i := 6) (v := ?vkb6) (by simp only [List.getElem?_toArray, List.getElem?_cons_succ, List.getElem?_cons_zero]; rfl) (by kernel_rfl) (by exact fun _ _ _ h => h) (by rfl) ?rkb6 hF ?skb6
          case rkb6 => (intro W hW; clear hW; go_simp; try with_reducible rfl)
          try simp only [Act.put, List.setIfInBounds_toArray, List.set_cons_zero, List.set_cons_succ]
          refine rg_take (i := 7) (v := ?vkb7) (by simp only [List.getElem?_toArray, List.getElem?_cons_succ, List.getElem?_cons_zero]; rfl) (by kernel_rfl) (by exact fun _ _ _ h => h) (by rfl) ?rkb7 hF ?skb7
          case rkb7 => (intro W hW; clear hW; go_simp; try with_reducible rfl)
          try simp only [Act.put, List.setIfInBounds_toArray, List.set_cons_zero, List.set_cons_succ]
          refine rg_take (i := 8) (v := ?vkb8) (by simp only [List.getElem?_toArray, List.getElem?_cons_succ, List.getElem?_cons_zero]; rfl) (by kernel_rfl) (by exact fun _ _ _ h => h) (by rfl) ?rkb8 hF ?skb8
          case rkb8 => (intro W hW; clear hW; go_simp; try with_reducible rfl)
          try simp only [Act.put, List.setIfInBounds_toArray, List.set_cons_zero, List.set_cons_succ]
          refine rg_take (i := 10) (v := ?vkb10) (by simp only [List.getElem?_toArray, List.getElem?_cons_succ, List.getElem?_cons_zero]; rfl) (by kernel_rfl) (by exact fun _ _ _ h => h) (by rfl) ?rkb10 hF ?skb10
          case rkb10 => (intro W hW; clear hW; go_simp; try with_reducible rfl)
          try simp only [Act.put, List.setIfInBounds_toArray, List.set_cons_zero, List.set_cons_succ]
          refine rg_take (i := 11) (v := ?vkb11) (by simp only [List.getElem?_toArray, List.getElem?_cons_succ, List.getElem?_cons_zero]; rfl) (by kernel_rfl) (by exact fun _ _ _ h => h) (by rfl) ?rkb11 hF ?skb11
          case rkb11 => (intro W hW; clear hW; go_simp; try with_reducible rfl)
          try simp only [Act.put, List.setIfInBounds_toArray, List.set_cons_zero, List.set_cons_succ]
          refine rg_take (i := 12) (v := ?vkb12) (by simp only [List.getElem?_toArray, List.getElem?_cons_succ, List.getElem?_cons_zero]; rfl) (by kernel_rfl) (by exact fun _ _ _ h => h) (by rfl) ?rkb12 hF ?skb12
          case rkb12 => (intro W hW; clear hW; go_simp; try with_reducible rfl)
          try simp only [Act.put, List.setIfInBounds_toArray, List.set_cons_zero, List.set_cons_succ]
          refine rg_take (i := 13) (v := ?vkb13) (by simp only [List.getElem?_toArray, List.getElem?_cons_succ, List.getElem?_cons_zero]; rfl) (by kernel_rfl) (by exact fun _ _ _ h => h) (by rfl) ?rkb13 hF ?skb13
          case rkb13 => (intro W hW; obtain ⟨f1, f2, f3⟩ := hW; go_simp; try with_reducible rfl)
          try simp only [Act.put, List.setIfInBounds_toArray, List.set_cons_zero, List.set_cons_succ]
          refine rg_one (i := 9) (by simp only [List.getElem?_toArray, List.getElem?_cons_succ, List.getElem?_cons_zero]; rfl) (by kernel_rfl) (by rfl) (fun K hK => ?_)
          (go_simp; refine (off_any b _ _ _ _ _ _ hP).mono ?_; rintro e w' ⟨rfl, rfl⟩)
          refine rg_use hK (hF) (fun hF => ?_)
          clear hK K
          try simp only [Act.put, List.setIfInBounds_toArray, List.set_cons_zero, List.set_cons_succ]
          refine rg_take (i := 14) (v := ?vkb14) (by simp only [List.getElem?_toArray, List.getElem?_cons_succ, List.getElem?_cons_zero]; rfl) (by kernel_rfl) (by exact fun _ _ _ h => h) (by rfl) ?rkb14 hF ?skb14
          case rkb14 => (intro W hW; clear hW; go_simp; try with_reducible rfl)
          try simp only [Act.put, List.setIfInBounds_toArray, List.set_cons_zero, List.set_cons_succ]
          refine rg_take (i := 15) (v := ?vkb15) (by simp only [List.getElem?_toArray, List.getElem?_cons_succ, List.getElem?_cons_zero]; rfl) (by kernel_rfl) (by exact fun _ _ _ h => h) (by rfl) ?rkb15 hF ?skb15
          case rkb15 => (intro W hW; clear hW; go_simp; try with_reducible rfl)
          try simp only [Act.put, List.setIfInBounds_toArray, List.set_cons_zero, List.set_cons_succ]
          refine rg_take (i := 16) (v := ?vkb16) (by simp only [List.getElem?_toArray, List.getElem?_cons_succ, List.getElem?_cons_zero]; rfl) (by kernel_rfl) (by exact fun _ _ _ h => h) (by rfl) ?rkb16 hF ?skb16
          case rkb16 => (intro W hW; clear hW; go_simp; try with_reducible rfl)
          try simp only [Act.put, List.setIfInBounds_toArray, List.set_cons_zero, List.set_cons_succ]
          refine rg_take (i := 17) (v := ?vkb17) (by simp only [List.getElem?_toArray, List.getElem?_cons_succ, List.getElem?_cons_zero]; rfl) (by kernel_rfl) (by exact fun _ _ _ h => h) (by rfl) ?rkb17 hF ?skb17
          case rkb17 => (intro W hW; clear hW; go_simp; try with_reducible rfl)
          try simp only [Act.put, List.setIfInBounds_toArray, List.set_cons_zero, List.set_cons_succ]
          refine rg_take (i := 19) (v := ?vkb19) (by simp only [List.getElem?_toArray, List.getElem?_cons_succ, List.getElem?_cons_zero]; rfl) (by kernel_rfl) (by exact fun _ _ _ h => h) (by rfl) ?rkb19 hF ?skb19
          case rkb19 => (intro W hW; clear hW; go_simp; try with_reducible rfl)
          try simp only [Act.put, List.setIfInBounds_toArray, List.set_cons_zero, List.set_cons_succ]
          refine rg_take (i := 20) (v := ?vkb20) (by simp only [List.getElem?_toArray, List.getElem?_cons_succ, List.getElem?_cons_zero]; rfl) (by kernel_rfl) (by exact fun _ _ _ h => h) (by rfl) ?rkb20 hF ?skb20
          case rkb20 => (intro W hW; clear hW; go_simp; try with_reducible rfl)
          try simp only [Act.put, List.setIfInBounds_toArray, List.set_cons_zero, List.set_cons_succ]
          refine rg_take (i := 21) (v := ?vkb21) (by simp only [List.getElem?_toArray, List.getElem?_cons_succ, List.getElem?_cons_zero]; rfl) (by kernel_rfl) (by exact fun _ _ _ h => h) (by rfl) ?rkb21 hF ?skb21
          case rkb21 => (intro W hW; clear hW; go_simp; try with_reducible rfl)
          try simp only [Act.put, List.setIfInBounds_toArray, List.set_cons_zero, List.set_cons_succ]
          refine rg_take (i := 22) (v := ?vkb22) (by simp only [List.getElem?_toArray, List.getElem?_cons_succ, List.getElem?_cons_zero]; rfl) (by kernel_rfl) (by exact fun _ _ _ h => h) (by rfl) ?rkb22 hF ?skb22
          case rkb22 => (intro W hW; obtain ⟨f1, f2, f3⟩ := hW; go_simp; try with_reducible rfl)
          try simp only [Act.put, List.setIfInBounds_toArray, List.set_cons_zero, List.set_cons_succ]
          refine rg_take (i := 23) (v := ?vkb23) (by simp only [List.getElem?_toArray, List.getElem?_cons_succ, List.getElem?_cons_zero]; rfl) (by kernel_rfl) (by exact fun _ _ _ h => h) (by rfl) ?rkb23 hF ?skb23
          case rkb23 => (intro W hW; clear hW; go_simp; try with_reducible rfl)
          try simp only [Act.put, List.setIfInBounds_toArray, List.set_cons_zero, List.set_cons_succ]
          refine rg_one (i := 18) (by simp only [List.getElem?_toArray, List.getElem?_cons_succ, List.getElem?_cons_zero]; rfl) (by kernel_rfl) (by rfl) (fun K hK => ?_)
          (go_simp; refine (len_any b _ _ _ _ _ _ _ _ hP).mono ?_; rintro e w' ⟨rfl, rfl⟩)
          refine rg_use hK (hF) (fun hF => ?_)
          clear hK K
          try simp only [Act.put, List.setIfInBounds_toArray, List.set_cons_zero, List.set_cons_succ]
          refine rg_take (i := 24) (v := ?vkb24) (by simp only [List.getElem?_toArray, List.getElem?_cons_succ, List.getElem?_cons_zero]; rfl) (by kernel_rfl) (by exact fun _ _ _ h => h) (by rfl) ?rkb24 hF ?skb24
          case rkb24 => (intro W hW; clear hW; go_simp; try with_reducible rfl)
          try simp only [Act.put, List.setIfInBounds_toArray, List.set_cons_zero, List.set_cons_succ]
          refine rg_take (i := 25) (v := ?vkb25) (by simp only [List.getElem?_toArray, List.getElem?_cons_succ, List.getElem?_cons_zero]; rfl) (by kernel_rfl) (by exact fun _ _ _ h => h) (by rfl) ?rkb25 hF ?skb25
          case rkb25 => (intro W hW; clear hW; go_simp; try with_reducible rfl)
          try simp only [Act.put, List.setIfInBounds_toArray, List.set_cons_zero, List.set_cons_succ]
          refine rg_done (by kernel_rfl) ?_
          go_wp2
          go_roundw
          case rel => exact ⟨k + 1, by omega, by go_num, hkz.drew, sz, az, hDz.no (Kp.refl No _).drew, by omega⟩
          case measure => simp [intOf]; omega
        by_cases e3 : op.kind = 3
        · have e3' : (op.kind == 3) = true := by simp [e3]
          have e1' : (op.kind == 1) = false := by simp [e1]
          have e2' : (op.kind == 2) = false := by simp [e2]
          clear e1 e2 e3
          go_wp2_with fail
          refine (on_any b _ _ _ _ _ _ hD0.p.st).mono ?_
          rintro e wa ⟨rfl, da, ka⟩
          have ra := RD.farP hD0.r hD0.p (ka.mono (M' := Two b sb) fun _ _ m => .inl m)
          have pa : DkS wa b sb m { s with off := false } := by
            obtain ⟨sp, hs⟩ := hD0.p.se
            exact ⟨da, ⟨sp, hs.kp ka fun m => hD0.p.st.ne_ hs (by decide) m.symm⟩, hD0.p.le, hD0.p.n1, hD0.p.n2⟩
          go_wp2_with fail
          refine (ron_any rb _ u _ _ _ ra.st).mono ?_
          rintro e wz ⟨rfl, dz, kz⟩
          have rz : RD wz w.heap.size rb u s.L s.wr arm false := ⟨dz, ra.ro.kp kz fun g cs _ hg m => by
            rcases hg with hg | hg
            · exact hg.ne_ ra.st (by decide) m
            · exact hg.ne_ ra.st (by decide) m, ra.lo⟩
          have pz := DkS.farR pa ra (kz.mono fun _ _ m => .inl m)
          have hDz : Duo wz w.heap.size b sb m rb u { s with off := false } arm := ⟨pz, rz, hD.t, ⟨hD.ok.w0, hD.ok.l0, hD.ok.l1⟩, hD.lb, hD.ls⟩
          have hkz : Kp No w wz := (hkp0.then_ ka fun i hi m => by have := hD.lb; rw [m] at hi; omega).then_ kz fun i hi m => by have := hD.r.lo; rw [m] at hi; omega
          have hsz : ({ s with off := false } : St).wr ≤ k := hsk
          clear ka kz bo hD0 hkp0 hD hkp hc0 hc1 hc2 hc3 hrk ra pa rz pz da dz
          generalize ({ s with off := false } : St) = sz at *
          obtain ⟨az, rfl⟩ : ∃ t, t = arm := ⟨_, rfl⟩
          obtain ⟨A', c', hu⟩ := rn_forms hDz.r.ro
          subst hu
          go_wp2
          have hP := (hDz.no (Kp.refl No _).drew).p.st
          have hF : (fun W : World => W.cell? ⟨rb, 0, none⟩ = some (.slice A' sz.L.length c') ∧ W.cell? ⟨rb, 1, none⟩ = some (.int .i64 sz.wr) ∧ W.cell? ⟨rb, 3, none⟩ = some (.bool sz.off)) wz.drew := ⟨hDz.r.st.cell 0, hDz.r.st.cell 1, hDz.r.st.cell 3⟩
          refine rg_begin (fun W => W.cell? ⟨rb, 0, none⟩ = some (.slice A' sz.L.length c') ∧ W.cell? ⟨rb, 1, none⟩ = some (.int .i64 sz.wr) ∧ W.cell? ⟨rb, 3, none⟩ = some (.bool sz.off)) 26 (by kernel_rfl) ?_
          refine rg_take (i := 0) (v := ?vkc0) (by simp only [List.getElem?_toArray, List.getElem?_cons_succ, List.getElem?_cons_zero]; rfl) (by kernel_rfl) (by exact fun _ _ _ h => h) (by rfl) ?rkc0 hF ?skc0
          case rkc0 => (intro W hW; clear hW; go_simp; try with_reducible rfl)
          try simp only [Act.put, List.setIfInBounds_toArray, List.set_cons_zero, List.set_cons_succ]
          refine rg_take (i := 2) (v := ?vkc2) (by simp only [List.getElem?_toArray, List.getElem?_cons_succ, List.getElem?_cons_zero]; rfl) (by kernel_rfl) (by exact fun _ _ _ h => h) (by rfl) ?rkc2 hF ?skc2
          case rkc2 => (intro W hW; clear hW; go_simp; try with_reducible rfl)
          try simp only [Act.put, List.setIfInBounds_toArray, List.set_cons_zero, List.set_cons_succ]
          refine rg_take (i := 3) (v := ?vkc3) (by simp only [List.getElem?_toArray, List.getElem?_cons_succ, List.getElem?_cons_zero]; rfl) (by kernel_rfl) (by exact fun _ _ _ h => h) (by rfl) ?rkc3 hF ?skc3
          case rkc3 => (intro W hW; clear hW; go_simp; try with_reducible rfl)
          try simp only [Act.put, List.setIfInBounds_toArray, List.set_cons_zero, List.set_cons_succ]
          refine rg_take (i := 4) (v := ?vkc4) (by simp only [List.getElem?_toArray, List.getElem?_cons_succ, List.getElem?_cons_zero]; rfl) (by kernel_rfl) (by exact fun _ _ _ h => h) (by rfl) ?rkc4 hF ?skc4
          case rkc4 => (intro W hW; clear hW; go_simp; try with_reducible rfl)
          try simp only [Act.put, List.setIfInBounds_toArray, List.set_cons_zero, List.set_cons_succ]
          refine rg_take (i := 5) (v := ?vkc5) (by simp only [List.getElem?_toArray, List.getElem?_cons_succ, List.getElem?_cons_zero]; rfl) (by kernel_rfl) (by exact fun _ _ _ h => h) (by rfl) ?rkc5 hF ?skc5
          case rkc5 => (intro W hW; obtain ⟨f1, f2, f3⟩ := hW; go_simp; try with_reducible rfl)
          try simp only [Act.put, List.setIfInBounds_toArray, List.set_cons_zero, List.set_cons_succ]
          refine rg_one (i := 1) (by simp only [List.getElem?_toArray, List.getElem?_cons_succ, List.getElem?_cons_zero]; rfl) (by kernel_rfl) (by rfl) (fun K hK => ?_)
          (go_simp; refine (writes_any b _ _ _ _ _ _ hP).mono ?_; rintro e w' ⟨rfl, rfl⟩)
          refine rg_use hK (hF) (fun hF => ?_)
          clear hK K
          try simp only [Act.put, List.setIfInBounds_toArray, List.set_cons_zero, List.set_cons_succ]
          refine rg_take (i := 6) (v := ?vkc6) (by simp only [List.getElem?_toArray, List.getElem?_cons_succ, List.getElem?_cons_zero]; rfl) (by kernel_rfl) (by exact fun _ _ _ h => h) (by rfl) ?rkc6 hF ?skc6
          case rkc6 => (intro W hW; clear hW; go_simp; try with_reducible rfl)
          try simp only [Act.put, List.setIfInBounds_toArray, List.set_cons_zero, List.set_cons_succ]
          refine rg_take (i := 7) (v := ?vkc7) (by simp only [List.getElem?_toArray, List.getElem?_cons_succ, List.getElem?_cons_zero]; rfl) (by kernel_rfl) (by exact fun _ _ _ h => h) (by rfl) ?rkc7 hF ?skc7
          case rkc7 => (intro W hW; clear hW; go_simp; try with_reducible rfl)
          try simp only [Act.put, List.setIfInBounds_toArray, List.set_cons_zero, List.set_cons_succ]
          refine rg_take (i := 8) (v := ?vkc8) (by simp only [List.getElem?_toArray, List.getElem?_cons_succ, List.getElem?_cons_zero]; rfl) (by kernel_rfl) (by exact fun _ _ _ h => h) (by rfl) ?rkc8 hF ?skc8
          case rkc8 => (intro W hW; clear hW; go_simp; try with_reducible rfl)
          try simp only [Act.put, List.setIfInBounds_toArray, List.set_cons_zero, List.set_cons_succ]
          refine rg_take (i := 10) (v := ?vkc10) (by simp only [List.getElem?_toArray, List.getElem?_cons_succ, List.getElem?_cons_zero]; rfl) (by kernel_rfl) (by exact fun _ _ _ h => h) (by rfl) ?rkc10 hF ?skc10
          case rkc10 => (intro W hW; clear hW; go_simp; try with_reducible rfl)
          try simp only [Act.put, List.setIfInBounds_toArray, List.set_cons_zero, List.set_cons_succ]
          refine rg_take (i := 11) (v := ?vkc11) (by simp only [List.getElem?_toArray, List.getElem?_cons_succ, List.getElem?_cons_zero]; rfl) (by kernel_rfl) (by exact fun _ _ _ h => h) (by rfl) ?rkc11 hF ?skc11
          case rkc11 => (intro W hW; clear hW; go_simp; try with_reducible rfl)
          try simp only [Act.put, List.setIfInBounds_toArray, List.set_cons_zero, List.set_cons_succ]
          refine rg_take (i := 12) (v := ?vkc12) (by simp only [List.getElem?_toArray, List.getElem?_cons_succ, List.getElem?_cons_zero]; rfl) (by kernel_rfl) (by exact fun _ _ _ h => h) (by rfl) ?rkc12 hF ?skc12
          case rkc12 => (intro W hW; clear hW; go_simp; try with_reducible rfl)
          try simp only [Act.put, List.setIfInBounds_toArray, List.set_cons_zero, List.set_cons_succ]
          refine rg_take (i := 13) (v := ?vkc13) (by simp only [List.getElem?_toArray, List.getElem?_cons_succ, List.getElem?_cons_zero]; rfl) (by kernel_rfl) (by exact fun _ _ _ h => h) (by rfl) ?rkc13 hF ?skc13
          case rkc13 => (intro W hW; obtain ⟨f1, f2, f3⟩ := hW; go_simp; try with_reducible rfl)
          try simp only [Act.put, List.setIfInBounds_toArray, List.set_cons_zero, List.set_cons_succ]
          refine rg_one (i := 9) (by simp only [List.getElem?_toArray, List.getElem?_cons_succ, List.getElem?_cons_zero]; rfl) (by kernel_rfl) (by rfl) (fun K hK => ?_)
          (go_simp; refine (off_any b _ _ _ _ _ _ hP).mono ?_; rintro e w' ⟨rfl, rfl⟩)
          refine rg_use hK (hF) (fun hF => ?_)
          clear hK K
          try simp only [Act.put, List.setIfInBounds_toArray, List.set_cons_zero, List.set_cons_succ]
          refine rg_take (i := 14) (v := ?vkc14) (by simp only [List.getElem?_toArray, List.getElem?_cons_succ, List.getElem?_cons_zero]; rfl) (by kernel_rfl) (by exact fun _ _ _ h => h) (by rfl) ?rkc14 hF ?skc14
          case rkc14 => (intro W hW; clear hW; go_simp; try with_reducible rfl)
          try simp only [Act.put, List.setIfInBounds_toArray, List.set_cons_zero, List.set_cons_succ]
          refine rg_take (i := 15) (v := ?vkc15) (by simp only [List.getElem?_toArray, List.getElem?_cons_succ, List.getElem?_cons_zero]; rfl) (by kernel_rfl) (by exact fun _ _ _ h => h) (by rfl) ?rkc15 hF ?skc15
          case rkc15 => (intro W hW; clear hW; go_simp; try with_reducible rfl)
          try simp only [Act.put, List.setIfInBounds_toArray, List.set_cons_zero, List.set_cons_succ]
          refine rg_take (i := 16) (v := ?vkc16) (by simp only [List.getElem?_toArray, List.getElem?_cons_succ, List.getElem?_cons_zero]; rfl) (by kernel_rfl) (by exact fun _ _ _ h => h) (by rfl) ?rkc16 hF ?skc16
          case rkc16 => (intro W hW; clear hW; go_simp; try with_reducible rfl)
          try simp only [Act.put, List.setIfInBounds_toArray, List.set_cons_zero, List.set_cons_succ]
          refine rg_take (i := 17) (v := ?vkc17) (by simp only [List.getElem?_toArray, List.getElem?_cons_succ, List.getElem?_cons_zero]; rfl) (by kernel_rfl) (by exact fun _ _ _ h => h) (by rfl) ?rkc17 hF ?skc17
          case rkc17 => (intro W hW; clear hW; go_simp; try with_reducible rfl)
          try simp only [Act.put, List.setIfInBounds_toArray, List.set_cons_zero, List.set_cons_succ]
          refine rg_take (i := 19) (v := ?vkc19) (by simp only [List.getElem?_toArray, List.getElem?_cons_succ, List.getElem?_cons_zero]; rfl) (by kernel_rfl) (by exact fun _ _ _ h => h) (by rfl) ?rkc19 hF ?skc19
          case rkc19 => (intro W hW; clear hW; go_simp; try with_reducible rfl)
          try simp only [Act.put, List.setIfInBounds_toArray, List.set_cons_zero, List.set_cons_succ]
          refine rg_take (i := 20) (v := ?vkc20) (by simp only [List.getElem?_toArray, List.getElem?_cons_succ, List.getElem?_cons_zero]; rfl) (by kernel_rfl) (by exact fun _ _ _ h => h) (by rfl) ?rkc20 hF ?skc20
          case rkc20 => (intro W hW; clear hW; go_simp; try with_reducible rfl)
          try simp only [Act.put, List.setIfInBounds_toArray, List.set_cons_zero, List.set_cons_succ]
          refine rg_take (i := 21) (v := ?vkc21) (by simp only [List.getElem?_toArray, List.getElem?_cons_succ, List.getElem?_cons_zero]; rfl) (by kernel_rfl) (by exact fun _ _ _ h => h) (by rfl) ?rkc21 hF ?skc21
          case rkc21 => (intro W hW; clear hW; go_simp; try with_reducible rfl)
          try simp only [Act.put, List.setIfInBounds_toArray, List.set_cons_zero, List.set_cons_succ]
          refine rg_take (i := 22) (v := ?vkc22) (by simp only [List.getElem?_toArray, List.getElem?_cons_succ, List.getElem?_cons_zero]; rfl) (by kernel_rfl) (by exact fun _ _ _ h => h) (by rfl) ?rkc22 hF ?skc22
          case rkc22 => (intro W hW; obtain ⟨f1, f2, f3⟩ := hW; go_simp; try with_reducible rfl)
          try simp only [Act.put, List.setIfInBounds_toArray, List.set_cons_zero, List.set_cons_succ]
          refine rg_take (i := 23) (v := ?vkc23) (by simp only [List.getElem?_toArray, List.getElem?_cons_succ, List.getElem?_cons_zero]; rfl) (by kernel_rfl) (by exact fun _ _ _ h => h) (by rfl) ?rkc23 hF ?skc23
          case rkc23 => (intro W hW; clear hW; go_simp; try with_reducible rfl)
          try simp only [Act.put, List.setIfInBounds_toArray, List.set_cons_zero, List.set_cons_succ]
          refine rg_one (i := 18) (by simp only [List.getElem?_toArray, List.getElem?_cons_succ, List.getElem?_cons_zero]; rfl) (by kernel_rfl) (by rfl) (fun K hK => ?_)
          (go_simp; refine (len_any b _ _ _ _ _ _ _ _ hP).mono ?_; rintro e w' ⟨rfl, rfl⟩)
          refine rg_use hK (hF) (fun hF => ?_)
          clear hK K
          try simp only [Act.put, List.setIfInBounds_toArray, List.set_cons_zero, List.set_cons_succ]
          refine rg_take (i := 24) (v := ?vkc24) (by simp only [List.getElem?_toArray, List.getElem?_cons_succ, List.getElem?_cons_zero]; rfl) (by kernel_rfl) (by exact fun _ _ _ h => h) (by rfl) ?rkc24 hF ?skc24
          case rkc24 => (intro W hW; clear hW; go_simp; try with_reducible rfl)
          try simp only [Act.put, List.setIfInBounds_toArray, List.set_cons_zero, List.set_cons_succ]
          refine rg_take (i := 25) (v := ?vkc25) (by simp only [List.getElem?_toArray, List.getElem?_cons_succ, List.getElem?_cons_zero]; rfl) (by kernel_rfl) (by exact fun _ _ _ h => h) (by rfl) ?rkc25 hF ?skc25
          case rkc25 => (intro W hW; clear hW; go_simp; try with_reducible rfl)
          try simp only [Act.put, List.setIfInBounds_toArray, List.set_cons_zero, List.set_cons_succ]
          refine rg_done (by kernel_rfl) ?_
          go_wp2
          go_roundw
          case rel => exact ⟨k + 1, by omega, by go_num, hkz.drew, sz, az, hDz.no (Kp.refl No _).drew, by omega⟩
          case measure => simp [intOf]; omega
        by_cases e4 : op.kind = 4
        · have e4' : (op.kind == 4) = true := by simp [e4]
          have e1' : (op.kind == 1) = false := by simp [e1]
          have e2' : (op.kind == 2) = false := by simp [e2]
          have e3' : (op.kind == 3) = false := by simp [e3]
          clear e1 e2 e3 e4 hD hkp bo
          go_wp2
          have hP := hD0.no (Kp.refl No _).drew
          have hF : (fun W : World => W.cell? ⟨rb, 0, none⟩ = some u) (wr.alloc (.cells #[.int .i64 op.kind, .int .i64 op.i, .int .u8 (op.fill.toNat : Int), .int .i64 op.len] 32)).drew := hP.r.st.cell 0
          refine rg_begin (fun W => W.cell? ⟨rb, 0, none⟩ = some u) 8 (by kernel_rfl) ?_
          refine rg_take (i := 0) (v := ?vkd0) (by simp only [List.getElem?_toArray, List.getElem?_cons_succ, List.getElem?_cons_zero]; rfl) (by kernel_rfl) (by exact fun _ _ _ h => h) (by rfl) ?rkd0 hF ?skd0
          case rkd0 => (intro W hW; clear hW; go_simp; try with_reducible rfl)
          try simp only [Act.put, List.setIfInBounds_toArray, List.set_cons_zero, List.set_cons_succ]
          refine rg_take (i := 2) (v := ?vkd2) (by simp only [List.getElem?_toArray, List.getElem?_cons_succ, List.getElem?_cons_zero]; rfl) (by kernel_rfl) (by exact fun _ _ _ h => h) (by rfl) ?rkd2 hF ?skd2
          case rkd2 => (intro W hW; clear hW; go_simp; try with_reducible rfl)
          try simp only [Act.put, List.setIfInBounds_toArray, List.set_cons_zero, List.set_cons_succ]
          refine rg_take (i := 3) (v := ?vkd3) (by simp only [List.getElem?_toArray, List.getElem?_cons_succ, List.getElem?_cons_zero]; rfl) (by kernel_rfl) (by exact fun _ _ _ h => h) (by rfl) ?rkd3 hF ?skd3
          case rkd3 => (intro W hW; clear hW; go_simp; try with_reducible rfl)
          try simp only [Act.put, List.setIfInBounds_toArray, List.set_cons_zero, List.set_cons_succ]
          refine rg_take (i := 4) (v := ?vkd4) (by simp only [List.getElem?_toArray, List.getElem?_cons_succ, List.getElem?_cons_zero]; rfl) (by kernel_rfl) (by exact fun _ _ _ h => h) (by rfl) ?rkd4 hF ?skd4
          case rkd4 => (intro W hW; clear hW; go_simp; try with_reducible rfl)
          try simp only [Act.put, List.setIfInBounds_toArray, List.set_cons_zero, List.set_cons_succ]
          refine rg_take (i := 5) (v := ?vkd5) (by simp only [List.getElem?_toArray, List.getElem?_cons_succ, List.getElem?_cons_zero]; rfl) (by kernel_rfl) (by exact fun _ _ _ h => h) (by rfl) ?rkd5 hF ?skd5
          case rkd5 => (intro W hW; (try dsimp only at hW); go_simp; try with_reducible rfl)
          try simp only [Act.put, List.setIfInBounds_toArray, List.set_cons_zero, List.set_cons_succ]
          refine rg_one (i := 1) (by simp only [List.getElem?_toArray, List.getElem?_cons_succ, List.getElem?_cons_zero]; rfl) (by kernel_rfl) (by rfl) (fun K hK => ?_)
          (go_simp; refine (image_any b sb _ _ _ _ _ _ _ hP.p).mono ?_; rintro e wi ⟨zi, rfl, hIm, ki⟩)
          refine rg_use hK ((hP.no ki).r.st.cell 0) (fun hF => ?_)
          clear hK K
          try simp only [Act.put, List.setIfInBounds_toArray, List.set_cons_zero, List.set_cons_succ]
          refine rg_one (i := 6) (by simp only [List.getElem?_toArray, List.getElem?_cons_succ, List.getElem?_cons_zero]; rfl) (by kernel_rfl) (by rfl) (fun K hK => ?_)
          (go_simp; refine (same_any _ _ _ _ wi hIm.arg (hP.no ki).r.ro.arg rfl (by have := hP.p.n2; omega)).mono ?_; rw [decide_eq_true rfl]; rintro e wj ⟨rfl, nj, rfl⟩)
          refine rg_use hK (((hP.no ki).no (drewN_no _ _)).r.st.cell 0) (fun hF => ?_)
          clear hK K
          try simp only [Act.put, List.setIfInBounds_toArray, List.set_cons_zero, List.set_cons_succ]
          refine rg_take (i := 7) (v := ?vkd7) (by simp only [List.getElem?_toArray, List.getElem?_cons_succ, List.getElem?_cons_zero]; rfl) (by kernel_rfl) (by exact fun _ _ _ h => h) (by rfl) ?rkd7 hF ?skd7
          case rkd7 => (intro W hW; clear hW; go_simp; try with_reducible rfl)
          try simp only [Act.put, List.setIfInBounds_toArray, List.set_cons_zero, List.set_cons_succ]
          refine rg_done (by kernel_rfl) ?_
          have hDz := (hP.no ki).no (drewN_no wi nj)
          have hkz : Kp No w (wi.drewN nj) := ((hkp0.drew).trans ki).drewN nj
          clear ki hIm hP hF hD0 hkp0 hc0 hc1 hc2 hc3 hrk
          generalize wi.drewN nj = wz at *
          obtain ⟨sz, rfl⟩ : ∃ t, t = s := ⟨_, rfl⟩
          obtain ⟨az, rfl⟩ : ∃ t, t = arm := ⟨_, rfl⟩
          obtain ⟨A', c', hu⟩ := rn_forms hDz.r.ro
          subst hu
          go_wp2
          have hP := (hDz.no (Kp.refl No _).drew).p.st
          have hF : (fun W : World => W.cell? ⟨rb, 0, none⟩ = some (.slice A' sz.L.length c') ∧ W.cell? ⟨rb, 1, none⟩ = some (.int .i64 sz.wr) ∧ W.cell? ⟨rb, 3, none⟩ = some (.bool sz.off)) wz.drew := ⟨hDz.r.st.cell 0, hDz.r.st.cell 1, hDz.r.st.cell 3⟩
          refine rg_begin (fun W => W.cell? ⟨rb, 0, none⟩ = some (.slice A' sz.L.length c') ∧ W.cell? ⟨rb, 1, none⟩ = some (.int .i64 sz.wr) ∧ W.cell? ⟨rb, 3, none⟩ = some (.bool sz.off)) 26 (by kernel_rfl) ?_
          refine rg_take (i := 0) (v := ?vke0) (by simp only [List.getElem?_toArray, List.getElem?_cons_succ, List.getElem?_cons_zero]; rfl) (by kernel_rfl) (by exact fun _ _ _ h => h) (by rfl) ?rke0 hF ?ske0
          case rke0 => (intro W hW; clear hW; go_simp; try with_reducible rfl)
          try simp only [Act.put, List.setIfInBounds_toArray, List.set_cons_zero, List.set_cons_succ]
          refine rg_take (i := 2) (v := ?vke2) (by simp only [List.getElem?_toArray, List.getElem?_cons_succ, List.getElem?_cons_zero]; rfl) (by kernel_rfl) (by exact fun _ _ _ h => h) (by rfl) ?rke2 hF ?ske2
          case rke2 => (intro W hW; clear hW; go_simp; try with_reducible rfl)
          try simp only [Act.put, List.setIfInBounds_toArray, List.set_cons_zero, List.set_cons_succ]
          refine rg_take (i := 3) (v := ?vke3) (by simp only [List.getElem?_toArray, List.getElem?_cons_succ, List.getElem?_cons_zero]; rfl) (by kernel_rfl) (by exact fun _ _ _ h => h) (by rfl) ?rke3 hF ?ske3
          case rke3 => (intro W hW; clear hW; go_simp; try with_reducible rfl)
          try simp only [Act.put, List.setIfInBounds_toArray, List.set_cons_zero, List.set_cons_succ]
          refine rg_take (i := 4) (v := ?vke4) (by simp only [List.getElem?_toArray, List.getElem?_cons_succ, List.getElem?_cons_zero]; rfl) (by kernel_rfl) (by exact fun _ _ _ h => h) (by rfl) ?rke4 hF ?ske4
          case rke4 => (intro W hW; clear hW; go_simp; try with_reducible rfl)
          try simp only [Act.put, List.setIfInBounds_toArray, List.set_cons_zero, List.set_cons_succ]
          refine rg_take (i := 5) (v := ?vke5) (by simp only [List.getElem?_toArray, List.getElem?_cons_succ, List.getElem?_cons_zero]; rfl) (by kernel_rfl) (by exact fun _ _ _ h => h) (by rfl) ?rke5 hF ?ske5
          case rke5 => (intro W hW; obtain ⟨f1, f2, f3⟩ := hW; go_simp; try with_reducible rfl)
          try simp only [Act.put, List.setIfInBounds_toArray, List.set_cons_zero, List.set_cons_succ]
          refine rg_one (i := 1) (by simp only [List.getElem?_toArray, List.getElem?_cons_succ, List.getElem?_cons_zero]; rfl) (by kernel_rfl) (by rfl) (fun K hK => ?_)
          (go_simp; refine (writes_any b _ _ _ _ _ _ hP).mono ?_; rintro e w' ⟨rfl, rfl⟩)
          refine rg_use hK (hF) (fun hF => ?_)
          clear hK K
          try simp only [Act.put, List.setIfInBounds_toArray, List.set_cons_zero, List.set_cons_succ]
          refine rg_take (i := 6) (v := ?vke6) (by simp only [List.getElem?_toArray, List.getElem?_cons_succ, List.getElem?_cons_zero]; rfl) (by kernel_rfl) (by exact fun _ _ _ h => h) (by rfl) ?rke6 hF ?ske6
          case rke6 => (intro W hW; clear hW; go_simp; try with_reducible rfl)
          try simp only [Act.put, List.setIfInBounds_toArray, List.set_cons_zero, List.set_cons_succ]
          refine rg_take (i := 7) (v := ?vke7) (by simp only [List.getElem?_toArray, List.getElem?_cons_succ, List.getElem?_cons_zero]; rfl) (by kernel_rfl) (by exact fun _ _ _ h => h) (by rfl) ?rke7 hF ?ske7
          case rke7 => (intro W hW; clear hW; go_simp; try with_reducible rfl)
          try simp only [Act.put, List.setIfInBounds_toArray, List.set_cons_zero, List.set_cons_succ]
          refine rg_take (i := 8) (v := ?vke8) (by simp only [List.getElem?_toArray, List.getElem?_cons_succ, List.getElem?_cons_zero]; rfl) (by kernel_rfl) (by exact fun _ _ _ h => h) (by rfl) ?rke8 hF ?ske8
          case rke8 => (intro W hW; clear hW; go_simp; try with_reducible rfl)
          try simp only [Act.put, List.setIfInBounds_toArray, List.set_cons_zero, List.set_cons_succ]
          refine rg_take (i := 10) (v := ?vke10) (by simp only [List.getElem?_toArray, List.getElem?_cons_succ, List.getElem?_cons_zero]; rfl) (by kernel_rfl) (by exact fun _ _ _ h => h) (by rfl) ?rke10 hF ?ske10
          case rke10 => (intro W hW; clear hW; go_simp; try with_reducible rfl)
          try simp only [Act.put, List.setIfInBounds_toArray, List.set_cons_zero, List.set_cons_succ]
          refine rg_take (i := 11) (v := ?vke11) (by simp only [List.getElem?_toArray, List.getElem?_cons_succ, List.getElem?_cons_zero]; rfl) (by kernel_rfl) (by exact fun _ _ _ h => h) (by rfl) ?rke11 hF ?ske11
          case rke11 => (intro W hW; clear hW; go_simp; try with_reducible rfl)
          try simp only [Act.put, List.setIfInBounds_toArray, List.set_cons_zero, List.set_cons_succ]
          refine rg_take (i := 12) (v := ?vke12) (by simp only [List.getElem?_toArray, List.getElem?_cons_succ, List.getElem?_cons_zero]; rfl) (by kernel_rfl) (by exact fun _ _ _ h => h) (by rfl) ?rke12 hF ?ske12
          case rke12 => (intro W hW; clear hW; go_simp; try with_reducible rfl)
          try simp only [Act.put, List.setIfInBounds_toArray, List.set_cons_zero, List.set_cons_succ]
          refine rg_take (i := 13) (v := ?vke13) (by simp only [List.getElem?_toArray, List.getElem?_cons_succ, List.getElem?_cons_zero]; rfl) (by kernel_rfl) (by exact fun _ _ _ h => h) (by rfl) ?rke13 hF ?ske13
          case rke13 => (intro W hW; obtain ⟨f1, f2, f3⟩ := hW; go_simp; try with_reducible rfl)
          try simp only [Act.put, List.setIfInBounds_toArray, List.set_cons_zero, List.set_cons_succ]
          refine rg_one (i := 9) (by simp only [List.getElem?_toArray, List.getElem?_cons_succ, List.getElem?_cons_zero]; rfl) (by kernel_rfl) (by rfl) (fun K hK => ?_)
          (go_simp; refine (off_any b _ _ _ _ _ _ hP).mono ?_; rintro e w' ⟨rfl, rfl⟩)
          refine rg_use hK (hF) (fun hF => ?_)
          clear hK K
          try simp only [Act.put, List.setIfInBounds_toArray, List.set_cons_zero, List.set_cons_succ]
          refine rg_take (i := 14) (v := ?vke14) (by simp only [List.getElem?_toArray, List.getElem?_cons_succ, List.getElem?_cons_zero]; rfl) (by kernel_rfl) (by exact fun _ _ _ h => h) (by rfl) ?rke14 hF ?ske14
          case rke14 => (intro W hW; clear hW; go_simp; try with_reducible rfl)
          try simp only [Act.put, List.setIfInBounds_toArray, List.set_cons_zero, List.set_cons_succ]
          refine rg_take (i := 15) (v := ?vke15) (by simp only [List.getElem?_toArray, List.getElem?_cons_succ, List.getElem?_cons_zero]; rfl) (by kernel_rfl) (by exact fun _ _ _ h => h) (by rfl) ?rke15 hF ?ske15
          case rke15 => (intro W hW; clear hW; go_simp; try with_reducible rfl)
          try simp only [Act.put, List.setIfInBounds_toArray, List.set_cons_zero, List.set_cons_succ]
          refine rg_take (i := 16) (v := ?vke16) (by simp only [List.getElem?_toArray, List.getElem?_cons_succ, List.getElem?_cons_zero]; rfl) (by kernel_rfl) (by exact fun _ _ _ h => h) (by rfl) ?rke16 hF ?ske16
          case rke16 => (intro W hW; clear hW; go_simp; try with_reducible rfl)
          try simp only [Act.put, List.setIfInBounds_toArray, List.set_cons_zero, List.set_cons_succ]
          refine rg_take (i := 17) (v := ?vke17) (by simp only [List.getElem?_toArray, List.getElem?_cons_succ, List.getElem?_cons_zero]; rfl) (by kernel_rfl) (by exact fun _ _ _ h => h) (by rfl) ?rke17 hF ?ske17
          case rke17 => (intro W hW; clear hW; go_simp; try with_reducible rfl)
          try simp only [Act.put, List.setIfInBounds_toArray, List.set_cons_zero, List.set_cons_succ]
          refine rg_take (i := 19) (v := ?vke19) (by simp only [List.getElem?_toArray, List.getElem?_cons_succ, List.getElem?_cons_zero]; rfl) (by kernel_rfl) (by exact fun _ _ _ h => h) (by rfl) ?rke19 hF ?ske19
          case rke19 => (intro W hW; clear hW; go_simp; try with_reducible rfl)
          try simp only [Act.put, List.setIfInBounds_toArray, List.set_cons_zero, List.set_cons_succ]
          refine rg_take (i := 20) (v := ?vke20) (by simp only [List.getElem?_toArray, List.getElem?_cons_succ, List.getElem?_cons_zero]; rfl) (by kernel_rfl) (by exact fun _ _ _ h => h) (by rfl) ?rke20 hF ?ske20
          case rke20 => (intro W hW; clear hW; go_simp; try with_reducible rfl)
          try simp only [Act.put, List.setIfInBounds_toArray, List.set_cons_zero, List.set_cons_succ]
          refine rg_take (i := 21) (v := ?vke21) (by simp only [List.getElem?_toArray, List.getElem?_cons_succ, List.getElem?_cons_zero]; rfl) (by kernel_rfl) (by exact fun _ _ _ h => h) (by rfl) ?rke21 hF ?ske21
          case rke21 => (intro W hW; clear hW; go_simp; try with_reducible rfl)
          try simp only [Act.put, List.setIfInBounds_toArray, List.set_cons_zero, List.set_cons_succ]
          refine rg_take (i := 22) (v := ?vke22) (by simp only [List.getElem?_toArray, List.getElem?_cons_succ, List.getElem?_cons_zero]; rfl) (by kernel_rfl) (by exact fun _ _ _ h => h) (by rfl) ?rke22 hF ?ske22
          case rke22 => (intro W hW; obtain ⟨f1, f2, f3⟩ := hW; go_simp; try with_reducible rfl)
          try simp only [Act.put, List.setIfInBounds_toArray, List.set_cons_zero, List.set_cons_succ]
          refine rg_take (i := 23) (v := ?vke23) (by simp only [List.getElem?_toArray, List.getElem?_cons_succ, List.getElem?_cons_zero]; rfl) (by kernel_rfl) (by exact fun _ _ _ h => h) (by rfl) ?rke23 hF ?ske23
          case rke23 => (intro W hW; clear hW; go_simp; try with_reducible rfl)
          try simp only [Act.put, List.setIfInBounds_toArray, List.set_cons_zero, List.set_cons_succ]
          refine rg_one (i := 18) (by simp only [List.getElem?_toArray, List.getElem?_cons_succ, List.getElem?_cons_zero]; rfl) (by kernel_rfl) (by rfl) (fun K hK => ?_)
          (go_simp; refine (len_any b _ _ _ _ _ _ _ _ hP).mono ?_; rintro e w' ⟨rfl, rfl⟩)
          refine rg_use hK (hF) (fun hF => ?_)
          clear hK K
          try simp only [Act.put, List.setIfInBounds_toArray, List.set_cons_zero, List.set_cons_succ]
          refine rg_take (i := 24) (v := ?vke24) (by simp only [List.getElem?_toArray, List.getElem?_cons_succ, List.getElem?_cons_zero]; rfl) (by kernel_rfl) (by exact fun _ _ _ h => h) (by rfl) ?rke24 hF ?ske24
          case rke24 => (intro W hW; clear hW; go_simp; try with_reducible rfl)
          try simp only [Act.put, List.setIfInBounds_toArray, List.set_cons_zero, List.set_cons_succ]
          refine rg_take (i := 25) (v := ?vke25) (by simp only [List.getElem?_toArray, List.getElem?_cons_succ, List.getElem?_cons_zero]; rfl) (by kernel_rfl) (by exact fun _ _ _ h => h) (by rfl) ?rke25 hF ?ske25
          case rke25 => (intro W hW; clear hW; go_simp; try with_reducible rfl)
          try simp only [Act.put, List.setIfInBounds_toArray, List.set_cons_zero, List.set_cons_succ]
          refine rg_done (by kernel_rfl) ?_
          go_wp2
          go_roundw
          case rel => exact ⟨k + 1, by omega, by go_num, hkz.drew, sz, az, hDz.no (Kp.refl No _).drew, by omega⟩
          case measure => simp [intOf]; omega
        · have e4' : (op.kind == 4) = false := by simp [e4]
          have e1' : (op.kind == 1) = false := by simp [e1]
          have e2' : (op.kind == 2) = false := by simp [e2]
          have e3' : (op.kind == 3) = false := by simp [e3]
          clear e1 e2 e3 e4
          clear hkp
          go_wp2
          have hP := hD0.no (Kp.refl No _).drew
          have bod := bo.drew
          have hF : (fun W : World => W.cell? ⟨wr.heap.size, 1, none⟩ = some (.int .i64 op.i) ∧ W.cell? ⟨wr.heap.size, 2, none⟩ = some (.int .u8 (op.fill.toNat : Int)) ∧ W.cell? ⟨wr.heap.size, 3, none⟩ = some (.int .i64 op.len)) (wr.alloc (.cells #[.int .i64 op.kind, .int .i64 op.i, .int .u8 (op.fill.toNat : Int), .int .i64 op.len] 32)).drew := ⟨bod.cell 1, bod.cell 2, bod.cell 3⟩
          clear hc0 hc1 hc2 hc3 hrk
          refine rg_begin (fun W => W.cell? ⟨wr.heap.size, 1, none⟩ = some (.int .i64 op.i) ∧ W.cell? ⟨wr.heap.size, 2, none⟩ = some (.int .u8 (op.fill.toNat : Int)) ∧ W.cell? ⟨wr.heap.size, 3, none⟩ = some (.int .i64 op.len)) 19 (by kernel_rfl) ?_
          refine rg_take (i := 0) (v := ?vkf0) (by simp only [List.getElem?_toArray, List.getElem?_cons_succ, List.getElem?_cons_zero]; rfl) (by kernel_rfl) (by exact fun _ _ _ h => h) (by rfl) ?rkf0 hF ?skf0
          case rkf0 => (intro W hW; clear hW; go_simp; try with_reducible rfl)
          try simp only [Act.put, List.setIfInBounds_toArray, List.set_cons_zero, List.set_cons_succ]
          refine rg_take (i := 1) (v := ?vkf1) (by simp only [List.getElem?_toArray, List.getElem?_cons_succ, List.getElem?_cons_zero]; rfl) (by kernel_rfl) (by exact fun _ _ _ h => h) (by rfl) ?rkf1 hF ?skf1
          case rkf1 => (intro W hW; clear hW; go_simp; try with_reducible rfl)
          try simp only [Act.put, List.setIfInBounds_toArray, List.set_cons_zero, List.set_cons_succ]
          refine rg_take (i := 2) (v := ?vkf2) (by simp only [List.getElem?_toArray, List.getElem?_cons_succ, List.getElem?_cons_zero]; rfl) (by kernel_rfl) (by exact fun _ _ _ h => h) (by rfl) ?rkf2 hF ?skf2
          case rkf2 => (intro W hW; obtain ⟨f1, f2, f3⟩ := hW; go_simp; try with_reducible rfl)
          try simp only [Act.put, List.setIfInBounds_toArray, List.set_cons_zero, List.set_cons_succ]
          refine rg_take (i := 3) (v := ?vkf3) (by simp only [List.getElem?_toArray, List.getElem?_cons_succ, List.getElem?_cons_zero]; rfl) (by kernel_rfl) (by exact fun _ _ _ h => h) (by rfl) ?rkf3 hF ?skf3
          case rkf3 => (intro W hW; clear hW; go_simp; try with_reducible rfl)
          try simp only [Act.put, List.setIfInBounds_toArray, List.set_cons_zero, List.set_cons_succ]
          refine rg_take (i := 4) (v := ?vkf4) (by simp only [List.getElem?_toArray, List.getElem?_cons_succ, List.getElem?_cons_zero]; rfl) (by kernel_rfl) (by exact fun _ _ _ h => h) (by rfl) ?rkf4 hF ?skf4
          case rkf4 => (intro W hW; obtain ⟨f1, f2, f3⟩ := hW; go_simp; try with_reducible rfl)
          try simp only [Act.put, List.setIfInBounds_toArray, List.set_cons_zero, List.set_cons_succ]
          refine rg_take (i := 5) (v := ?vkf5) (by simp only [List.getElem?_toArray, List.getElem?_cons_succ, List.getElem?_cons_zero]; rfl) (by kernel_rfl) (by exact fun _ _ _ h => h) (by rfl) ?rkf5 hF ?skf5
          case rkf5 => (intro W hW; clear hW; go_simp; try with_reducible rfl)
          try simp only [Act.put, List.setIfInBounds_toArray, List.set_cons_zero, List.set_cons_succ]
          refine rg_take (i := 6) (v := ?vkf6) (by simp only [List.getElem?_toArray, List.getElem?_cons_succ, List.getElem?_cons_zero]; rfl) (by kernel_rfl) (by exact fun _ _ _ h => h) (by rfl) ?rkf6 hF ?skf6
          case rkf6 => (intro W hW; obtain ⟨f1, f2, f3⟩ := hW; go_simp; try with_reducible rfl)
          try simp only [Act.put, List.setIfInBounds_toArray, List.set_cons_zero, List.set_cons_succ]
          refine rg_take (i := 9) (v := ?vkf9) (by simp only [List.getElem?_toArray, List.getElem?_cons_succ, List.getElem?_cons_zero]; rfl) (by kernel_rfl) (by exact fun _ _ _ h => h) (by rfl) ?rkf9 hF ?skf9
          case rkf9 => (intro W hW; clear hW; go_simp; try with_reducible rfl)
          try simp only [Act.put, List.setIfInBounds_toArray, List.set_cons_zero, List.set_cons_succ]
          refine rg_take (i := 10) (v := ?vkf10) (by simp only [List.getElem?_toArray, List.getElem?_cons_succ, List.getElem?_cons_zero]; rfl) (by kernel_rfl) (by exact fun _ _ _ h => h) (by rfl) ?rkf10 hF ?skf10
          case rkf10 => (intro W hW; clear hW; go_simp; try with_reducible rfl)
          try simp only [Act.put, List.setIfInBounds_toArray, List.set_cons_zero, List.set_cons_succ]
          refine rg_take (i := 11) (v := ?vkf11) (by simp only [List.getElem?_toArray, List.getElem?_cons_succ, List.getElem?_cons_zero]; rfl) (by kernel_rfl) (by exact fun _ _ _ h => h) (by rfl) ?rkf11 hF ?skf11
          case rkf11 => (intro W hW; obtain ⟨f1, f2, f3⟩ := hW; go_simp; try with_reducible rfl)
          try simp only [Act.put, List.setIfInBounds_toArray, List.set_cons_zero, List.set_cons_succ]
          refine rg_take (i := 12) (v := ?vkf12) (by simp only [List.getElem?_toArray, List.getElem?_cons_succ, List.getElem?_cons_zero]; rfl) (by kernel_rfl) (by exact fun _ _ _ h => h) (by rfl) ?rkf12 hF ?skf12
          case rkf12 => (intro W hW; clear hW; go_simp; try with_reducible rfl)
          try simp only [Act.put, List.setIfInBounds_toArray, List.set_cons_zero, List.set_cons_succ]
          refine rg_take (i := 13) (v := ?vkf13) (by simp only [List.getElem?_toArray, List.getElem?_cons_succ, List.getElem?_cons_zero]; rfl) (by kernel_rfl) (by exact fun _ _ _ h => h) (by rfl) ?rkf13 hF ?skf13
          case rkf13 => (intro W hW; obtain ⟨f1, f2, f3⟩ := hW; go_simp; try with_reducible rfl)
          try simp only [Act.put, List.setIfInBounds_toArray, List.set_cons_zero, List.set_cons_succ]
          refine rg_take (i := 14) (v := ?vkf14) (by simp only [List.getElem?_toArray, List.getElem?_cons_succ, List.getElem?_cons_zero]; rfl) (by kernel_rfl) (by exact fun _ _ _ h => h) (by rfl) ?rkf14 hF ?skf14
          case rkf14 => (intro W hW; clear hW; go_simp; try with_reducible rfl)
          try simp only [Act.put, List.setIfInBounds_toArray, List.set_cons_zero, List.set_cons_succ]
          refine rg_take (i := 15) (v := ?vkf15) (by simp only [List.getElem?_toArray, List.getElem?_cons_succ, List.getElem?_cons_zero]; rfl) (by kernel_rfl) (by exact fun _ _ _ h => h) (by rfl) ?rkf15 hF ?skf15
          case rkf15 => (intro W hW; obtain ⟨f1, f2, f3⟩ := hW; go_simp; try with_reducible rfl)
          try simp only [Act.put, List.setIfInBounds_toArray, List.set_cons_zero, List.set_cons_succ]
          refine rg_one (i := 7) (by simp only [List.getElem?_toArray, List.getElem?_cons_succ, List.getElem?_cons_zero]; rfl) (by kernel_rfl) (by rfl) (fun K hK => ?_)
          (go_simp; refine (filled_any op.fill op.len _).mono ?_; rintro e wa ⟨ga, rfl, hga, hla, ka⟩)
          have boa := bod.no ka
          refine rg_use hK (⟨boa.cell 1, boa.cell 2, boa.cell 3⟩) (fun hF => ?_)
          clear hK K
          try simp only [Act.put, List.setIfInBounds_toArray, List.set_cons_zero, List.set_cons_succ]
          refine rg_one (i := 8) (by simp only [List.getElem?_toArray, List.getElem?_cons_succ, List.getElem?_cons_zero]; rfl) (by kernel_rfl) (by rfl) (fun K hK => ?_)
          (go_simp; refine (writeF b sb m op.i ga op.fill _ wa s (hP.p.no ka) hD.ok hwr hga).mono ?_; rintro e wb ⟨rfl, db, kb⟩)
          have bob := boa.kp kb (two_ne boa (hP.p.no ka) (by decide) (by decide))
          have rb1 := RD.farP (hP.no ka).r (hP.no ka).p kb
          refine rg_use hK (⟨bob.cell 1, bob.cell 2, bob.cell 3⟩) (fun hF => ?_)
          clear hK K
          try simp only [Act.put, List.setIfInBounds_toArray, List.set_cons_zero, List.set_cons_succ]
          refine rg_one (i := 16) (by simp only [List.getElem?_toArray, List.getElem?_cons_succ, List.getElem?_cons_zero]; rfl) (by kernel_rfl) (by rfl) (fun K hK => ?_)
          (go_simp; refine (filled_any op.fill op.len _).mono ?_; rintro e wc ⟨gc, rfl, hgc, hlc, kc⟩)
          have boc := bob.no kc
          refine rg_use hK (⟨boc.cell 1, boc.cell 2, boc.cell 3⟩) (fun hF => ?_)
          clear hK K
          try simp only [Act.put, List.setIfInBounds_toArray, List.set_cons_zero, List.set_cons_succ]
          refine rg_one (i := 17) (by simp only [List.getElem?_toArray, List.getElem?_cons_succ, List.getElem?_cons_zero]; rfl) (by kernel_rfl) (by rfl) (fun K hK => ?_)
          (go_simp; refine (rwrite_all w.heap.size rb op.i gc u _ _ wc s arm (rb1.no kc) hD.t hD.ok hwr hgc (fillB_len _ _) (by have := kb.size; have := kc.size; have := ka.size; simp at this; omega)).mono ?_; rintro e wd ⟨rfl, ⟨az, rd, td⟩, kd⟩)
          have bod2 := boc.kp kd (rfar_ne boc (rb1.no kc) (by decide) (by decide))
          refine rg_use hK (⟨bod2.cell 1, bod2.cell 2, bod2.cell 3⟩) (fun hF => ?_)
          clear hK K
          try simp only [Act.put, List.setIfInBounds_toArray, List.set_cons_zero, List.set_cons_succ]
          refine rg_take (i := 18) (v := ?vkf18) (by simp only [List.getElem?_toArray, List.getElem?_cons_succ, List.getElem?_cons_zero]; rfl) (by kernel_rfl) (by exact fun _ _ _ h => h) (by rfl) ?rkf18 hF ?skf18
          case rkf18 => (intro W hW; clear hW; go_simp; try with_reducible rfl)
          try simp only [Act.put, List.setIfInBounds_toArray, List.set_cons_zero, List.set_cons_succ]
          refine rg_done (by kernel_rfl) ?_
          have hDz : Duo wd w.heap.size b sb m rb u (s.wrNext op.i (fillB op.fill (fillN op.len))) az := ⟨DkS.farR (db.no kc) (rb1.no kc) kd, rd, td, hD.ok.next _ _, hD.lb, hD.ls⟩
          have hkz : Kp No w wd := (((hkp0.drew.trans ka).then_ kb fun i hi m => by have h1 := hD.lb; have h2 := hD.ls; rcases m with m | m <;> omega).trans kc).then_ kd fun i hi m => by
            rcases m with m | m
            · have := hD.r.lo; omega
            · obtain ⟨xs, hown, _⟩ := hD.r.ro
              have := (hown.lt i m).1; omega
          have hsz : (s.wrNext op.i (fillB op.fill (fillN op.len))).wr ≤ k + 1 := by
            have := wrNext_wr s op.i (fillB op.fill (fillN op.len)); omega
          clear ka kb kc kd db rb1 bo bod boa bob boc bod2 hga hgc rd td hP hD0 hkp0 hD hF
          generalize s.wrNext op.i (fillB op.fill (fillN op.len)) = sz at *
          obtain ⟨wz, rfl⟩ : ∃ t, t = wd := ⟨_, rfl⟩
          obtain ⟨A', c', hu⟩ := rn_forms hDz.r.ro
          subst hu
          go_wp2
          have hP := (hDz.no (Kp.refl No _).drew).p.st
          have hF : (fun W : World => W.cell? ⟨rb, 0, none⟩ = some (.slice A' sz.L.length c') ∧ W.cell? ⟨rb, 1, none⟩ = some (.int .i64 sz.wr) ∧ W.cell? ⟨rb, 3, none⟩ = some (.bool sz.off)) wz.drew := ⟨hDz.r.st.cell 0, hDz.r.st.cell 1, hDz.r.st.cell 3⟩
          refine rg_begin (fun W => W.cell? ⟨rb, 0, none⟩ = some (.slice A' sz.L.length c') ∧ W.cell? ⟨rb, 1, none⟩ = some (.int .i64 sz.wr) ∧ W.cell? ⟨rb, 3, none⟩ = some (.bool sz.off)) 26 (by kernel_rfl) ?_
          refine rg_take (i := 0) (v := ?vkg0) (by simp only [List.getElem?_toArray, List.getElem?_cons_succ, List.getElem?_cons_zero]; rfl) (by kernel_rfl) (by exact fun _ _ _ h => h) (by rfl) ?rkg0 hF ?skg0
          case rkg0 => (intro W hW; clear hW; go_simp; try with_reducible rfl)
          try simp only [Act.put, List.setIfInBounds_toArray, List.set_cons_zero, List.set_cons_succ]
          refine rg_take (i := 2) (v := ?vkg2) (by simp only [List.getElem?_toArray, List.getElem?_cons_succ, List.getElem?_cons_zero]; rfl) (by kernel_rfl) (by exact fun _ _ _ h => h) (by rfl) ?rkg2 hF ?skg2
          case rkg2 => (intro W hW; clear hW; go_simp; try with_reducible rfl)
          try simp only [Act.put, List.setIfInBounds_toArray, List.set_cons_zero, List.set_cons_succ]
          refine rg_take (i := 3) (v := ?vkg3) (by simp only [List.getElem?_toArray, List.getElem?_cons_succ, List.getElem?_cons_zero]; rfl) (by kernel_rfl) (by exact fun _ _ _ h => h) (by rfl) ?rkg3 hF ?skg3
          case rkg3 => (intro W hW; clear hW; go_simp; try with_reducible rfl)
          try simp only [Act.put, List.setIfInBounds_toArray, List.set_cons_zero, List.set_cons_succ]
          refine rg_take (i := 4) (v := ?vkg4) (by simp only [List.getElem?_toArray, List.getElem?_cons_succ, List.getElem?_cons_zero]; rfl) (by kernel_rfl) (by exact fun _ _ _ h => h) (by rfl) ?rkg4 hF ?skg4
          case rkg4 => (intro W hW; clear hW; go_simp; try with_reducible rfl)
          try simp only [Act.put, List.setIfInBounds_toArray, List.set_cons_zero, List.set_cons_succ]
          refine rg_take (i := 5) (v := ?vkg5) (by simp only [List.getElem?_toArray, List.getElem?_cons_succ, List.getElem?_cons_zero]; rfl) (by kernel_rfl) (by exact fun _ _ _ h => h) (by rfl) ?rkg5 hF ?skg5
          case rkg5 => (intro W hW; obtain ⟨f1, f2, f3⟩ := hW; go_simp; try with_reducible rfl)
          try simp only [Act.put, List.setIfInBounds_toArray, List.set_cons_zero, List.set_cons_succ]
          refine rg_one (i := 1) (by simp only [List.getElem?_toArray, List.getElem?_cons_succ, List.getElem?_cons_zero]; rfl) (by kernel_rfl) (by rfl) (fun K hK => ?_)
          (go_simp; refine (writes_any b _ _ _ _ _ _ hP).mono ?_; rintro e w' ⟨rfl, rfl⟩)
          refine rg_use hK (hF) (fun hF => ?_)
          clear hK K
          try simp only [Act.put, List.setIfInBounds_toArray, List.set_cons_zero, List.set_cons_succ]
          refine rg_take (i := 6) (v := ?vkg6) (by simp only [List.getElem?_toArray, List.getElem?_cons_succ, List.getElem?_cons_zero]; rfl) (by kernel_rfl) (by exact fun _ _ _ h => h) (by rfl) ?rkg6 hF ?skg6
          case rkg6 => (intro W hW; clear hW; go_simp; try with_reducible rfl)
          try simp only [Act.put, List.setIfInBounds_toArray, List.set_cons_zero, List.set_cons_succ]
          refine rg_take (i := 7) (v := ?vkg7) (by simp only [List.getElem?_toArray, List.getElem?_cons_succ, List.getElem?_cons_zero]; rfl) (by kernel_rfl) (by exact fun _ _ _ h => h) (by rfl) ?rkg7 hF ?skg7
          case rkg7 => (intro W hW; clear hW; go_simp; try with_reducible rfl)
          try simp only [Act.put, List.setIfInBounds_toArray, List.set_cons_zero, List.set_cons_succ]
          refine rg_take (i := 8) (v := ?vkg8) (by simp only [List.getElem?_toArray, List.getElem?_cons_succ, List.getElem?_cons_zero]; rfl) (by kernel_rfl) (by exact fun _ _ _ h => h) (by rfl) ?rkg8 hF ?skg8
          case rkg8 => (intro W hW; clear hW; go_simp; try with_reducible rfl)
          try simp only [Act.put, List.setIfInBounds_toArray, List.set_cons_zero, List.set_cons_succ]
          refine rg_take (i := 10) (v := ?vkg10) (by simp only [List.getElem?_toArray, List.getElem?_cons_succ, List.getElem?_cons_zero]; rfl) (by kernel_rfl) (by exact fun _ _ _ h => h) (by rfl) ?rkg10 hF ?skg10
          case rkg10 => (intro W hW; clear hW; go_simp; try with_reducible rfl)
          try simp only [Act.put, List.setIfInBounds_toArray, List.set_cons_zero, List.set_cons_succ]
          refine rg_take (i := 11) (v := ?vkg11) (by simp only [List.getElem?_toArray, List.getElem?_cons_succ, List.getElem?_cons_zero]; rfl) (by kernel_rfl) (by exact fun _ _ _ h => h) (by rfl) ?rkg11 hF ?skg11
          case rkg11 => (intro W hW; clear hW; go_simp; try with_reducible rfl)
          try simp only [Act.put, List.setIfInBounds_toArray, List.set_cons_zero, List.set_cons_succ]
          refine rg_take (i := 12) (v := ?vkg12) (by simp only [List.getElem?_toArray, List.getElem?_cons_succ, List.getElem?_cons_zero]; rfl) (by kernel_rfl) (by exact fun _ _ _ h => h) (by rfl) ?rkg12 hF ?skg12
          case rkg12 => (intro W hW; clear hW; go_simp; try with_reducible rfl)
          try simp only [Act.put, List.setIfInBounds_toArray, List.set_cons_zero, List.set_cons_succ]
          refine rg_take (i := 13) (v := ?vkg13) (by simp only [List.getElem?_toArray, List.getElem?_cons_succ, List.getElem?_cons_zero]; rfl) (by kernel_rfl) (by exact fun _ _ _ h => h) (by rfl) ?rkg13 hF ?skg13
          case rkg13 => (intro W hW; obtain ⟨f1, f2, f3⟩ := hW; go_simp; try with_reducible rfl)
          try simp only [Act.put, List.setIfInBounds_toArray, List.set_cons_zero, List.set_cons_succ]
          refine rg_one (i := 9) (by simp only [List.getElem?_toArray, List.getElem?_cons_succ, List.getElem?_cons_zero]; rfl) (by kernel_rfl) (by rfl) (fun K hK => ?_)
          (go_simp; refine (off_any b _ _ _ _ _ _ hP).mono ?_; rintro e w' ⟨rfl, rfl⟩)
          refine rg_use hK (hF) (fun hF => ?_)
          clear hK K
          try simp only [Act.put, List.setIfInBounds_toArray, List.set_cons_zero, List.set_cons_succ]
          refine rg_take (i := 14) (v := ?vkg14) (by simp only [List.getElem?_toArray, List.getElem?_cons_succ, List.getElem?_cons_zero]; rfl) (by kernel_rfl) (by exact fun _ _ _ h => h) (by rfl) ?rkg14 hF ?skg14
          case rkg14 => (intro W hW; clear hW; go_simp; try with_reducible rfl)
          try simp only [Act.put, List.setIfInBounds_toArray, List.set_cons_zero, List.set_cons_succ]
          refine rg_take (i := 15) (v := ?vkg15) (by simp only [List.getElem?_toArray, List.getElem?_cons_succ, List.getElem?_cons_zero]; rfl) (by kernel_rfl) (by exact fun _ _ _ h => h) (by rfl) ?rkg15 hF ?skg15
          case rkg15 => (intro W hW; clear hW; go_simp; try with_reducible rfl)
          try simp only [Act.put, List.setIfInBounds_toArray, List.set_cons_zero, List.set_cons_succ]
          refine rg_take (i := 16) (v := ?vkg16) (by simp only [List.getElem?_toArray, List.getElem?_cons_succ, List.getElem?_cons_zero]; rfl) (by kernel_rfl) (by exact fun _ _ _ h => h) (by rfl) ?rkg16 hF ?skg16
          case rkg16 => (intro W hW; clear hW; go_simp; try with_reducible rfl)
          try simp only [Act.put, List.setIfInBounds_toArray, List.set_cons_zero, List.set_cons_succ]
          refine rg_take (i := 17) (v := ?vkg17) (by simp only [List.getElem?_toArray, List.getElem?_cons_succ, List.getElem?_cons_zero]; rfl) (by kernel_rfl) (by exact fun _ _ _ h => h) (by rfl) ?rkg17 hF ?skg17
          case rkg17 => (intro W hW; clear hW; go_simp; try with_reducible rfl)
          try simp only [Act.put, List.setIfInBounds_toArray, List.set_cons_zero, List.set_cons_succ]
          refine rg_take (i := 19) (v := ?vkg19) (by simp only [List.getElem?_toArray, List.getElem?_cons_succ, List.getElem?_cons_zero]; rfl) (by kernel_rfl) (by exact fun _ _ _ h => h) (by rfl) ?rkg19 hF ?skg19
          case rkg19 => (intro W hW; clear hW; go_simp; try with_reducible rfl)
          try simp only [Act.put, List.setIfInBounds_toArray, List.set_cons_zero, List.set_cons_succ]
          refine rg_take (i := 20) (v := ?vkg20) (by simp only [List.getElem?_toArray, List.getElem?_cons_succ, List.getElem?_cons_zero]; rfl) (by kernel_rfl) (by exact fun _ _ _ h => h) (by rfl) ?rkg20 hF ?skg20
          case rkg20 => (intro W hW; clear hW; go_simp; try with_reducible rfl)
          try simp only [Act.put, List.setIfInBounds_toArray, List.set_cons_zero, List.set_cons_succ]
          refine rg_take (i := 21) (v := ?vkg21) (by simp only [List.getElem?_toArray, List.getElem?_cons_succ, List.getElem?_cons_zero]; rfl) (by kernel_rfl) (by exact fun _ _ _ h => h) (by rfl) ?rkg21 hF ?skg21
          case rkg21 => (intro W hW; clear hW; go_simp; try with_reducible rfl)
          try simp only [Act.put, List.setIfInBounds_toArray, List.set_cons_zero, List.set_cons_succ]
          refine rg_take (i := 22) (v := ?vkg22) (by simp only [List.getElem?_toArray, List.getElem?_cons_succ, List.getElem?_cons_zero]; rfl) (by kernel_rfl) (by exact fun _ _ _ h => h) (by rfl) ?rkg22 hF ?skg22
          case rkg22 => (intro W hW; obtain ⟨f1, f2, f3⟩ := hW; go_simp; try with_reducible rfl)
          try simp only [Act.put, List.setIfInBounds_toArray, List.set_cons_zero, List.set_cons_succ]
          refine rg_take (i := 23) (v := ?vkg23) (by simp only [List.getElem?_toArray, List.getElem?_cons_succ, List.getElem?_cons_zero]; rfl) (by kernel_rfl) (by exact fun _ _ _ h => h) (by rfl) ?rkg23 hF ?skg23
          case rkg23 => (intro W hW; clear hW; go_simp; try with_reducible rfl)
          try simp only [Act.put, List.setIfInBounds_toArray, List.set_cons_zero, List.set_cons_succ]
          refine rg_one (i := 18) (by simp only [List.getElem?_toArray, List.getElem?_cons_succ, List.getElem?_cons_zero]; rfl) (by kernel_rfl) (by rfl) (fun K hK => ?_)
          (go_simp; refine (len_any b _ _ _ _ _ _ _ _ hP).mono ?_; rintro e w' ⟨rfl, rfl⟩)
          refine rg_use hK (hF) (fun hF => ?_)
          clear hK K
          try simp only [Act.put, List.setIfInBounds_toArray, List.set_cons_zero, List.set_cons_succ]
          refine rg_take (i := 24) (v := ?vkg24) (by simp only [List.getElem?_toArray, List.getElem?_cons_succ, List.getElem?_cons_zero]; rfl) (by kernel_rfl) (by exact fun _ _ _ h => h) (by rfl) ?rkg24 hF ?skg24
          case rkg24 => (intro W hW; clear hW; go_simp; try with_reducible rfl)
          try simp only [Act.put, List.setIfInBounds_toArray, List.set_cons_zero, List.set_cons_succ]
          refine rg_take (i := 25) (v := ?vkg25) (by simp only [List.getElem?_toArray, List.getElem?_cons_succ, List.getElem?_cons_zero]; rfl) (by kernel_rfl) (by exact fun _ _ _ h => h) (by rfl) ?rkg25 hF ?skg25
          case rkg25 => (intro W hW; clear hW; go_simp; try with_reducible rfl)
          try simp only [Act.put, List.setIfInBounds_toArray, List.set_cons_zero, List.set_cons_succ]
          refine rg_done (by kernel_rfl) ?_
          go_wp2
          go_roundw
          case rel => exact ⟨k + 1, by omega, by go_num, hkz.drew, sz, az, hDz.no (Kp.refl No _).drew, by omega⟩
          case measure => simp [intOf]; omega
      · have hk' : k = l.length := by omega
        subst hk'
        go_wp2
        have hP := hD.no (Kp.refl No _).drew
        have hF : (fun W : World => W.cell? ⟨rb, 0, none⟩ = some u) wr.drew := hP.r.st.cell 0
        refine rg_begin (fun W => W.cell? ⟨rb, 0, none⟩ = some u) 7 (by kernel_rfl) ?_
        refine rg_take (i := 0) (v := ?vkh0) (by simp only [List.getElem?_toArray, List.getElem?_cons_succ, List.getElem?_cons_zero]; rfl) (by kernel_rfl) (by exact fun _ _ _ h => h) (by rfl) ?rkh0 hF ?skh0
        case rkh0 => (intro W hW; clear hW; go_simp; try with_reducible rfl)
        try simp only [Act.put, List.setIfInBounds_toArray, List.set_cons_zero, List.set_cons_succ]
        refine rg_take (i := 2) (v := ?vkh2) (by simp only [List.getElem?_toArray, List.getElem?_cons_succ, List.getElem?_cons_zero]; rfl) (by kernel_rfl) (by exact fun _ _ _ h => h) (by rfl) ?rkh2 hF ?skh2
        case rkh2 => (intro W hW; clear hW; go_simp; try with_reducible rfl)
        try simp only [Act.put, List.setIfInBounds_toArray, List.set_cons_zero, List.set_cons_succ]
        refine rg_take (i := 3) (v := ?vkh3) (by simp only [List.getElem?_toArray, List.getElem?_cons_succ, List.getElem?_cons_zero]; rfl) (by kernel_rfl) (by exact fun _ _ _ h => h) (by rfl) ?rkh3 hF ?skh3
        case rkh3 => (intro W hW; clear hW; go_simp; try with_reducible rfl)
        try simp only [Act.put, List.setIfInBounds_toArray, List.set_cons_zero, List.set_cons_succ]
        refine rg_take (i := 4) (v := ?vkh4) (by simp only [List.getElem?_toArray, List.getElem?_cons_succ, List.getElem?_cons_zero]; rfl) (by kernel_rfl) (by exact fun _ _ _ h => h) (by rfl) ?rkh4 hF ?skh4
        case rkh4 => (intro W hW; clear hW; go_simp; try with_reducible rfl)
        try simp only [Act.put, List.setIfInBounds_toArray, List.set_cons_zero, List.set_cons_succ]
        refine rg_take (i := 5) (v := ?vkh5) (by simp only [List.getElem?_toArray, List.getElem?_cons_succ, List.getElem?_cons_zero]; rfl) (by kernel_rfl) (by exact fun _ _ _ h => h) (by rfl) ?rkh5 hF ?skh5
        case rkh5 => (intro W hW; (try dsimp only at hW); go_simp; try with_reducible rfl)
        try simp only [Act.put, List.setIfInBounds_toArray, List.set_cons_zero, List.set_cons_succ]
        refine rg_one (i := 1) (by simp only [List.getElem?_toArray, List.getElem?_cons_succ, List.getElem?_cons_zero]; rfl) (by kernel_rfl) (by rfl) (fun K hK => ?_)
        (go_simp; refine (image_any b sb _ _ _ _ _ _ _ hP.p).mono ?_; rintro e wi ⟨zi, rfl, hIm, ki⟩)
        refine rg_use hK ((hP.no ki).r.st.cell 0) (fun hF => ?_)
        clear hK K
        try simp only [Act.put, List.setIfInBounds_toArray, List.set_cons_zero, List.set_cons_succ]
        refine rg_one (i := 6) (by simp only [List.getElem?_toArray, List.getElem?_cons_succ, List.getElem?_cons_zero]; rfl) (by kernel_rfl) (by rfl) (fun K hK => ?_)
        (go_simp; refine (same_any _ _ _ _ wi hIm.arg (hP.no ki).r.ro.arg rfl (by have := hP.p.n2; omega)).mono ?_; rw [decide_eq_true rfl]; rintro e wj ⟨rfl, nj, rfl⟩)
        refine rg_use hK (((hP.no ki).no (drewN_no _ _)).r.st.cell 0) (fun hF => ?_)
        clear hK K
        try simp only [Act.put, List.setIfInBounds_toArray, List.set_cons_zero, List.set_cons_succ]
        refine rg_one (i := 7) (by simp only [List.getElem?_toArray, List.getElem?_cons_succ, List.getElem?_cons_zero]; rfl) (by kernel_rfl) (by rfl) (fun K hK => ?_)
        go_simp
        refine hK _ _ (fun h => absurd rfl h) ?_
        clear hK K
        try simp only [Act.put, List.setIfInBounds_toArray, List.set_cons_zero, List.set_cons_succ]
        refine rg_done (by kernel_rfl) ?_
        go_wp2
        go_ret
        exact ⟨rfl, ((hkp.drew.trans ki).drewN nj).below (Nat.le_refl _) (fun _ _ m => m)⟩
  · refine (new_no n (by omega) w0).mono ?_
    rintro e w1 ⟨rfl, rfl⟩
    go_wp2_with fail
    refine (rnew_no n (by omega) _).mono ?_
    rintro e w1 ⟨rfl, rfl⟩
    go_wp2
    go_ret
    exact ⟨rfl, k0.below (Nat.le_refl _) (fun _ _ m => m)⟩

/-! ### The row's step -/
set_option maxRecDepth 100000 in
theorem lifted (os : Os) (started : os.Started) (H : Type) (enc : TypeId × Value → H) :
    ReturnsInHanded {} Try.checked os 3 .any (Rows.diskPlaysSpec.pre6 enc Try.prog Try.f3 Rows.diskPlaysRow.domain false) (Rows.diskPlaysSpec.post enc Try.prog Try.f3 false true false false) := by
  refine returnsInHanded_of_change_sized (C := Try.checked) own started (by kernel_rfl) Try.func3
    (ChangeSpec.witness6 (enc := enc) (C := Try.checked) false ⟨#[], #[.int .i64 0, .slice none 0 0], []⟩ 8 (by kernel_rfl) (by kernel_rfl) (by kernel_rfl) (by kernel_rfl)) ?_
  intro W base args ds gs before hval0 hW hcnd hsz0 _
  have hval : ∀ (j : Nat) t v, Try.f3.params[j]? = some t → args[j]? = some v → Value.okWide Try.prog W .any base t v := hval0
  have hW' := hW
  obtain ⟨p, q, hA0, hV, rfl, hfz, hnd⟩ := hW
  have hA : DataW.TrodAll enc Try.prog W 0 (fun _ => true) true Try.f3.params.toList args.toList ds p := hA0
  rw [Try.params3] at hA hval
  obtain ⟨v0, vs0, d0, ds0, p0, q0, hargs, rfl, rfl, h0, r0⟩ := trodAll_cons hA
  obtain ⟨v1, vs1, d1, ds1, p1, q1, rfl, rfl, rfl, h1, r1⟩ := trodAll_cons r0
  obtain ⟨rfl, rfl, rfl⟩ := trodAll_nil r1
  obtain rfl : args = #[v0, v1] := by cases args; simp_all
  obtain ⟨rfl, rfl⟩ := trodVars_none hV
  have hsz : ∀ (j : Nat) (t : TypeId) (d : DataW H), ([3, 22] : List TypeId)[j]? = some t → [d0, d1][j]? = some d → ∀ n ∈ d.weights Try.prog t, n ≤ reachBytes := by
    intro j t d ht hd n hn
    have hsz1 : (DataW.weightsEach Try.prog ([3, 22] : List TypeId) [d0, d1]).all (· ≤ reachBytes) = true := hsz0
    have := List.all_eq_true.1 hsz1 n (DataW.weights_mem_each ht hd n hn)
    simpa using this
  have k0 := h0
  have lt0 : ∀ x ∈ p0, x.block < W.heap.size := by obtain ⟨m, hm⟩ := k0; exact DataW.trod_lt m _ _ _ hm
  obtain ⟨a0, rfl, rfl, rfl, w0⟩ := open_int Try.underlying3 (hval 0 3 v0 rfl rfl) h0
  have k1 := h1
  have lt1 : ∀ x ∈ p1, x.block < W.heap.size := by obtain ⟨m, hm⟩ := k1; exact DataW.trod_lt m _ _ _ hm
  obtain ⟨l1, hl1, hs1⟩ := open_ops Try.underlying22 Try.underlying32 Try.underlying3 Try.underlying3 Try.underlying5 Try.underlying3 (by kernel_rfl) (by kernel_rfl) (by kernel_rfl) (by kernel_rfl) (by kernel_rfl) rfl rfl rfl rfl (by kernel_rfl) (hval 1 22 v1 rfl rfl) h1 (hsz 1 22 d1 rfl rfl)
  refine (walk a0 v1 l1 W  hl1 hs1).mono fun e W' ⟨he, bel⟩ => ?_
  subst he
  exact ⟨_, rfl, _, _, _, [], _, [], hW', trodAll_mk1 (shut_bool Try.underlying4 _), (trodAll_cons_mk (Below.trod laidOut (by kernel_rfl) (of_decide_eq_true (by kernel_rfl)) k0 bel lt0) (trodAll_cons_mk (Below.trod laidOut (by kernel_rfl) (of_decide_eq_true (by kernel_rfl)) k1 bel lt1) trodAll_mk0)), rfl, bel.frame _, fun h => by cases h⟩

theorem over : Rows.diskPlaysRow.holds Try.pinned (OpenSpec.ofChange Rows.diskPlaysSpec) :=
  OpenClaim.holds_of_wide 3 Try.f3 rfl rfl rfl rfl rfl rfl rfl ⟨rfl, rfl, rfl, rfl, rfl⟩ rfl rfl rfl rfl rfl (by kernel_rfl) Try.func3 (by kernel_rfl)
    (of_decide_eq_true (by kernel_rfl)) (by unfold Func.isWrapper; first | (rw [if_pos (by decide +kernel)]; kernel_rfl) | (rw [if_neg (by decide +kernel)]; exact ⟨rfl, rfl⟩))
    (fun os started H enc _ => lifted os started H enc)

theorem proved : Rows.DiskPlaysSaid := over
#print axioms proved
end Go.Proofs.Ytaohaofjbgghgaa.diskPlays
