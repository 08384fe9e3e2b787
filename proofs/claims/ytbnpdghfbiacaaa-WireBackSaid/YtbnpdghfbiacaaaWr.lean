/- octets.Writer by contracts. No condition beyond what each theorem states. -/
import Derived.Test.YtbnpdghfbiacaaaBy
import Derived.Test.YtbnpdghfbiacaaaNv
import Derived.Laws.BitsAllLaws
import Derived.Deep.RegionLaw
import Derived.Deep.Cut
import Derived.Deep.CutRange
import Derived.Deep.DeepCutAuto
namespace Go.Proofs.Ytbnpdghfbiacaaa
open Go Go.RowKit

/-- a writer at b that holds the bytes l, in a block of its own from B on -/
def WrB (w : World) (b B : Nat) (v : Value) (l : List UInt8) : Prop := Bk w b 62 [v] ∧ OwnB w B v l
/-- the blocks that a call on it may change -/
def WrM (b : Nat) (v : Value) : Nat → Prop := fun k => k = b ∨ v.ownBlock = some k
/-- it lies where it lay, or in a new block -/
def Nxt (w : World) (v v' : Value) : Prop := ∀ g, v'.ownBlock = some g → v.ownBlock = some g ∨ w.heap.size ≤ g
def WrAft (w : World) (b B : Nat) (v : Value) (l : List UInt8) (w' : World) : Prop := ∃ v', WrB w' b B v' l ∧ Kp (WrM b v) w w' ∧ Nxt w v v'
theorem WrAft.start {w : World} {b B : Nat} {v : Value} {l : List UInt8} (h : WrB w b B v l) : WrAft w b B v l w := ⟨v, h, Kp.refl _ _, fun _ h => .inl h⟩
theorem WrAft.then_ {w w1 w2 : World} {b B : Nat} {v v1 : Value} {l2 : List UInt8} (k1 : Kp (WrM b v) w w1) (n1 : Nxt w v v1) (h2 : WrAft w1 b B v1 l2 w2) : WrAft w b B v l2 w2 := by
  obtain ⟨v2, b2, k2, n2⟩ := h2
  refine ⟨v2, b2, k1.then_ k2 ?_, ?_⟩
  · intro i hi hm
    rcases hm with hm | hm
    · exact .inl hm
    · rcases n1 i hm with h | h
      · exact .inr h
      · omega
  · intro g hg
    rcases n2 g hg with h | h
    · exact n1 g h
    · right; have := k1.size; omega
theorem WrB.step {wr w2 : World} {b B g cap : Nat} {vv : Value} {l : List UInt8} {c : UInt8} {o : Obj} (h : WrB wr b B vv l)
    (hown : w2.ownsRow B 5 1 (.slice (some ⟨g, 0, none⟩) (l.length + 1) cap) (l.length + 1) (u8s l ++ [.int .u8 (c.toNat : Int)])) (hk : Kp (fun k => vv.ownBlock = some k) (wr.alloc o) w2) (hat : vv.ownBlock = some g ∨ g = (wr.alloc o).heap.size) :
    WrAft wr b B vv (l ++ [c]) (w2.setCell ⟨b, 0, none⟩ (.slice (some ⟨g, 0, none⟩) (l.length + 1) cap)) := by
  obtain ⟨h1, h2⟩ := h
  have hO : OwnB w2 B (.slice (some ⟨g, 0, none⟩) (l.length + 1) cap) (l ++ [c]) := own_of (m := [c]) hown rfl
  have hne : vv.ownBlock ≠ some b := own_ne h2 h1 (by decide)
  have B2 : Bk w2 b 62 [vv] := (h1.alloc o).kp hk hne
  have hgb : (Value.slice (some ⟨g, 0, none⟩) (l.length + 1) cap).ownBlock ≠ some b := own_ne hO B2 (by decide)
  refine ⟨_, ⟨B2.set_ 0 _, hO.kp (M := One b) ((Kp.refl (One b) w2).set (g := b) (.inl rfl) 0 _) fun k hk hm => hgb (by rw [hk]; exact congrArg _ hm)⟩, ?_, ?_⟩
  · exact (((Kp.refl (WrM b vv) wr).alloc o).then_ hk fun i _ hm => .inr hm).set (.inl (.inl rfl)) 0 _
  · intro k hk
    have hk : g = k := by simpa [Value.ownBlock] using hk
    subst hk
    rcases hat with h | h
    · exact .inl h
    · right; rw [h]; simp
theorem or_u8 (m : Nat) : bits .or .u8 ((m : Int) % 256) 128 = ((UInt8.ofNat (m % 128 + 128)).toNat : Int) := by
  have h1 : (m : Int) % 256 = ((m % 256 : Nat) : Int) := by omega
  rw [h1, show (128 : Int) = ((128 : Nat) : Int) from rfl, u8_or_nat _ _ (by omega) (by omega), or128 _ (by omega), UInt8.toNat_ofNat']
  congr 1
  omega

set_option maxHeartbeats 1000000 in
theorem wnum_nil (n : Int) (w : World) : Calls Try.prog 25 #[.pointer none, .int .i64 n] w fun e w' => e = .returned (.tuple #[]) ∧ w = w' := by
  go_enter Try.func25, Try.ntmps25
  go_wp2
  refine bodyPost_ret (results_none rfl _ _ _) rfl ?_
  exact ⟨rfl, rfl⟩
set_option maxHeartbeats 1000000 in
theorem wnum_any (b B : Nat) (v : Value) (l : List UInt8) (n : Int) (w : World) (h : WrB w b B v l) (hB : B ≤ w.heap.size) (hl : l.length ≤ 1000000) (hn : n < 9223372036854775808) :
    Calls Try.prog 25 #[.pointer (some ⟨b, 0, none⟩), .int .i64 n] w fun e w' => e = .returned (.tuple #[]) ∧ WrAft w b B v (l ++ numS n.toNat) w' := by
  obtain ⟨N, hN⟩ : ∃ N : Nat, max n 0 = (N : Int) := ⟨n.toNat, by omega⟩
  have hN2 : n.toNat = N := by omega
  rw [hN2]
  have hlen : (numS N).length ≤ 9 := numS_len 8 N (by omega)
  have HL := Lib.hid hlen; have HN2 := Lib.hid hN2; clear hlen hN2
  have HW := Lib.hid h
  have hwr : IntKind.u64.wrap (N : Int) = (N : Int) := by rw [IntKind.wrap_u64]; omega
  clear h
  go_enter Try.func25, Try.ntmps25
  go_upto_region 1 with (fail)
  go_cut [4] (fun t wx => t = .int .u64 (N : Int) ∧ w = wx)
  case first =>
    by_cases h0 : n < 0
    · have e0 : N = 0 := by omega
      subst e0
      go_wp2
      go_meet
      exact ⟨rfl, rfl⟩
    · have e0 : n = (N : Int) := by omega
      subst e0
      go_wp2
      go_meet
      exact ⟨by first | rfl | rw [hwr], rfl⟩
  case rest =>
    obtain ⟨rfl, rfl⟩ := hcut
    go_wp2
    go_loopw [4] (fun t wr => ∃ (m : Nat) (l' : List UInt8), t = .int .u64 (m : Int) ∧ m ≤ N ∧ l' ++ numS m = l ++ numS N ∧ WrAft w b B v l' wr) (fun t _ => (intOf t).toNat)
    case atStart => exact ⟨N, l, rfl, Nat.le_refl _, rfl, WrAft.start HW.out⟩
    case round =>
      obtain ⟨m, l', rfl, hm, hl', va, ⟨hb, ho⟩, hk, hn'⟩ := hrel
      have hll : l'.length ≤ 1000009 := by
        have := congrArg List.length hl'
        rw [List.length_append, List.length_append] at this
        have := HL.out; omega
      obtain ⟨A, c, rfl⟩ : ∃ A c, va = .slice A l'.length c := by obtain ⟨A, c, h, _⟩ := own_len ho; exact ⟨A, c, h⟩
      have z0 : wr.cell? ⟨b, 0, none⟩ = some (.slice A l'.length c) := hb.cell 0
      have zf := hb.frozen
      have hsz : B ≤ wr.heap.size := Nat.le_trans hB hk.size
      have HB := Lib.hid hb; have HO := Lib.hid ho; have HK := Lib.hid hk; have HX := Lib.hid hn'; have HE := Lib.hid hl'; clear hb ho hk hn' hl'
      have hor := or_u8 m
      have hm63 : (m : Int) < 9223372036854775808 := by omega
      by_cases hlt : 127 < m
      · have h1 : (127 : Int) < (m : Int) := by omega
        clear hor
        go_wp2_with (at_builtin; refine wpList_app1 _ rfl _ _ 30 rfl B 5 _ 1 1 Try.underlying30 Try.infoByte rfl (by omega) _ l'.length (u8s l') rfl (HO.out.alloc _) _ _ _ rfl (Bk.new' (by simp) rfl) rfl (by simp [Value.oneCell']) (by omega) (by omega) (by simp; omega) ?_; intro g1 cap1 w1 hown1 hk1 hat1; have B1 : Bk w1 b 62 [.slice A l'.length c] := (HB.out.alloc _).kp hk1 (own_ne HO.out HB.out (by decide)); have z1 : w1.cell? ⟨b, 0, none⟩ = some (.slice A l'.length c) := B1.cell 0; have zf1 := B1.frozen; clear B1)
        rw [or_u8] at hown1
        have HS := Lib.hid (WrB.step ⟨HB.out, HO.out⟩ hown1 hk1 hat1)
        clear hown1 hk1 hat1
        go_roundw
        case rel => exact ⟨m / 128, l' ++ [UInt8.ofNat (m % 128 + 128)], by go_num, by omega, by rw [← HE.out, numS_big (n := m) (by omega), List.append_assoc]; rfl, WrAft.then_ HK.out HX.out HS.out⟩
        case measure => simp [intOf]; omega
      · have h1 : ¬ (127 : Int) < (m : Int) := by omega
        clear hor
        go_wp2_with (at_builtin; refine wpList_app1 _ rfl _ _ 30 rfl B 5 _ 1 1 Try.underlying30 Try.infoByte rfl (by omega) _ l'.length (u8s l') rfl (HO.out.alloc _) _ _ _ rfl (Bk.new' (by simp) rfl) rfl (by simp [Value.oneCell']) (by omega) (by omega) (by simp; omega) ?_; intro g1 cap1 w1 hown1 hk1 hat1; have B1 : Bk w1 b 62 [.slice A l'.length c] := (HB.out.alloc _).kp hk1 (own_ne HO.out HB.out (by decide)); have z1 : w1.cell? ⟨b, 0, none⟩ = some (.slice A l'.length c) := B1.cell 0; have zf1 := B1.frozen; clear B1)
        rw [show (m : Int) = ((UInt8.ofNat m).toNat : Int) by rw [UInt8.toNat_ofNat']; omega] at hown1
        have HS := Lib.hid (WrB.step ⟨HB.out, HO.out⟩ hown1 hk1 hat1)
        clear hown1 hk1 hat1
        go_end0
        refine ⟨rfl, ?_⟩
        rw [← HE.out, numS_small (n := m) (by omega)]
        exact WrAft.then_ HK.out HX.out HS.out
set_option maxHeartbeats 1000000 in
theorem wbytes_any (b B : Nat) (v : Value) (l : List UInt8) (w : World) (h : WrB w b B v l) (_hB : B ≤ w.heap.size) (hl : l.length ≤ 1000000) :
    Calls Try.prog 26 #[.pointer (some ⟨b, 0, none⟩)] w fun e w' => ∃ v', e = .returned v' ∧ OwnB w' w.heap.size v' l ∧ Kp No w w' := by
  obtain ⟨hb, ho⟩ := h
  obtain ⟨A, c, rfl⟩ : ∃ A c, v = .slice A l.length c := by obtain ⟨A, c, h, _⟩ := own_len ho; exact ⟨A, c, h⟩
  have z0 : w.cell? ⟨b, 0, none⟩ = some (.slice A l.length c) := hb.cell 0
  have HO := Lib.hid ho; clear ho hb
  go_enter Try.func26, Try.ntmps26
  go_wp2_with (at_builtin; refine (wpList_appV _ rfl _ _ 30 rfl w.heap.size 5 _ 1 Try.underlying30 Try.infoByte rfl _ 0 [] rfl (nil_own _ _ _ _) A l.length c (u8s l) rfl (by simp) (own_argB HO.out).cs.1 (u8s_one _) (by omega) (by omega) (Nat.le_refl _) ?_); intro v1 w1 o1 k1 _)
  have O1 : OwnB w1 w.heap.size v1 l := own_of (l := []) o1 rfl
  have K1 : Kp No w w1 := k1.mono (fun _ _ h => by cases h)
  go_ret
  exact ⟨_, rfl, O1, K1⟩
end Go.Proofs.Ytbnpdghfbiacaaa
