/- octets.Reader by contracts (2). No condition beyond what each theorem states. -/
import Derived.Test.YtbnpdghfbiacaaaWy
namespace Go.Proofs.Ytbnpdghfbiacaaa
open Go Go.RowKit Go.PlainAid

/-- a reader at b that has the bytes l left -/
def RdB (w : World) (b : Nat) (v : Value) (l : List UInt8) (err : Int) : Prop := Bk w b 99 [v, .int .i64 err] ∧ ArgB w v l ∧ v.ownBlock ≠ some b
/-- a block of bytes -/
def TB (w : World) (k : Nat) : Prop := ∃ cs, Bk w k 5 cs
theorem TB.kp {w w' : World} {k : Nat} {M : Nat → Prop} (h : TB w k) (hk : Kp M w w') (hm : ¬ M k) : TB w' k := by obtain ⟨cs, h⟩ := h; exact ⟨cs, h.kp hk hm⟩
theorem own_tb {w : World} {B : Nat} {v : Value} {l : List UInt8} (h : OwnB w B v l) : ∀ g, v.ownBlock = some g → TB w g := by
  intro g hg
  rcases h.2 with ⟨e, _⟩ | ⟨g', cap, cur, e, _, hh, _⟩
  · rw [e] at hg; simp [Value.ownBlock] at hg
  · rw [e] at hg
    have : g' = g := by simpa [Value.ownBlock] using hg
    subst this
    exact ⟨cur.toList, by unfold Bk; rw [hh]⟩
/-- what it has left lies where it lay -/
def SameBlk (v v' : Value) : Prop := ∀ g, v'.ownBlock = some g → v.ownBlock = some g
theorem RdB.kp {w w' : World} {b : Nat} {v : Value} {l : List UInt8} {err : Int} {M : Nat → Prop} (h : RdB w b v l err) (hk : Kp M w w') (h1 : ¬ M b) (h2 : ∀ g, v.ownBlock = some g → ¬ M g) : RdB w' b v l err :=
  ⟨h.1.kp hk h1, h.2.1.kp hk fun g o n c e => h2 g (by rw [e]; simp [Value.ownBlock]), h.2.2⟩
set_option maxHeartbeats 1000000 in
theorem newr_any (A : Option Addr) (c : Nat) (l : List UInt8) (w : World) (hv : ArgB w (.slice A l.length c) l) (hm : l.length ≤ 1000000) :
    Calls Try.prog 53 #[.slice A l.length c] w fun e w' => ∃ b v, e = .returned (.pointer (some ⟨b, 0, none⟩)) ∧ w.heap.size ≤ b ∧ (∀ g, v.ownBlock = some g → w.heap.size ≤ g) ∧ RdB w' b v l 0 ∧ Kp No w w' ∧ (∀ g, v.ownBlock = some g → TB w' g) := by
  have HV := Lib.hid hv; clear hv
  go_enter Try.func53, Try.ntmps53
  go_wp2_with (at_builtin; refine (wpList_appV _ rfl _ _ 30 rfl w.heap.size 5 _ 1 Try.underlying30 Try.infoByte rfl _ 0 [] rfl (nil_own _ _ _ _) A l.length c (u8s l) rfl (by simp) HV.out.cs.1 (u8s_one _) (by omega) (by omega) (Nat.le_refl _) ?_); intro v1 w1 o1 k1 _; have O1 : OwnB w1 w.heap.size v1 l := own_of (l := []) o1 rfl; have K1 : Kp No w w1 := k1.mono (fun _ _ h => by cases h); obtain ⟨A1, c1, hv1, _⟩ := own_len O1; subst hv1; clear o1 k1)
  go_ret
  have hlo : ∀ g, (Value.slice A1 l.length c1).ownBlock = some g → w.heap.size ≤ g := by
    intro g h
    rcases O1.2 with ⟨e, _⟩ | ⟨g', cap, cur, e, hg, _⟩
    · rw [e] at h; simp [Value.ownBlock] at h
    · rw [e] at h
      have : g' = g := by simpa [Value.ownBlock] using h
      omega
  have B1 := Bk.new w1 99 [.slice A1 l.length c1, .int .i64 0]
  have O2 := O1.alloc (.cells #[.slice A1 l.length c1, .int .i64 0] 99)
  exact ⟨_, _, rfl, K1.size, fun g h => hlo g h, ⟨B1, own_argB O2, own_ne O2 B1 (by decide)⟩, K1.alloc _, own_tb O2⟩
theorem argB_tail {w : World} {A : Option Addr} {c k : Nat} {l : List UInt8} (h : ArgB w (.slice A l.length c) l) (hk : k ≤ l.length) : ArgB w (.slice (A.map fun x => x.add k) (l.length - k) (c - k)) (l.drop k) := by
  by_cases h0 : l = []
  · subst h0
    have : k = 0 := by simpa using hk
    subst this
    exact ArgB.nil _ _ _
  · obtain ⟨g, o, c', e, _, _⟩ := h.at_ (List.length_pos_iff.2 h0)
    injection e with e1 _ e2
    subst e1 e2
    have := h.drop k hk
    simpa [Addr.add_mid] using this
theorem rdK {w : World} {b : Nat} {x y : Value} : Kp (One b) w ((w.setCell ⟨b, 0, none⟩ x).setCell ⟨b, 1, none⟩ y) := ((Kp.refl (One b) w).set (.inl rfl) 0 x).set (.inl rfl) 1 y
set_option maxHeartbeats 2000000 in
theorem rnum_err (b : Nat) (v : Value) (l : List UInt8) (err : Int) (w : World) (h : RdB w b v l err) (he : err ≠ 0) :
    Calls Try.prog 54 #[.pointer (some ⟨b, 0, none⟩)] w fun e w' => e = .returned (.int .i64 0) ∧ w = w' := by
  have z1 : w.cell? ⟨b, 1, none⟩ = some (.int .i64 err) := h.1.cell 1
  have d1 : (err != 0) = true := by rw [bne_iff_ne]; exact he
  clear h
  go_enter Try.func54, Try.ntmps54
  go_wp2
  go_ret
  exact ⟨rfl, rfl⟩
set_option maxHeartbeats 2000000 in
theorem rnum_any (b : Nat) (v : Value) (l : List UInt8) (w : World) (h : RdB w b v l 0) (hm : l.length ≤ maxLen) :
    Calls Try.prog 54 #[.pointer (some ⟨b, 0, none⟩)] w fun e w' => e = .returned (.int .i64 ((takeN 0 l).1 : Int)) ∧ Kp (One b) w w' ∧ ∃ v', RdB w' b v' (l.drop (takeN 0 l).2.1) (takeN 0 l).2.2 ∧ SameBlk v v' := by
  obtain ⟨hb, hv, hne⟩ := h
  obtain ⟨A, c, rfl, hc⟩ := hv.form
  have z0 : w.cell? ⟨b, 0, none⟩ = some (.slice A l.length c) := hb.cell 0
  have z1 : w.cell? ⟨b, 1, none⟩ = some (.int .i64 0) := hb.cell 1
  have zf := hb.frozen
  have pn := onum_any A c l w hv hm
  have hk := takeN_len l
  obtain ⟨n, k, er, ht⟩ : ∃ n k er, takeN 0 l = (n, k, er) := ⟨_, _, _, rfl⟩
  rw [ht] at pn hk ⊢
  simp only at pn hk ⊢
  have HB := Lib.hid hb; have HV := Lib.hid hv; have HN := Lib.hid hne; clear hb hv hne ht
  have hk1 : (k : Int) ≤ (l.length : Int) := by omega
  go_enter Try.func54, Try.ntmps54
  go_wp2_with fail
  refine pn.mono ?_
  rintro e w' ⟨rfl, rfl⟩
  clear pn
  go_wp2
  all_goals go_ret
  · have hd : l.drop k = [] := List.drop_of_length_le (by omega)
    refine ⟨rfl, rdK, _, ⟨(HB.out.set_ 0 _).set_ 1 _, ?_, ?_⟩, ?_⟩
    · rw [hd]
      first | exact ArgB.nil _ _ _ | (rw [show l.length - k = 0 by omega]; exact ArgB.nil _ _ _)
    · first | exact HN.out | (intro h; exact HN.out (by rcases A with _ | a <;> first | (simp [Value.ownBlock] at h; done) | simpa [Value.ownBlock, Addr.add] using h))
    · first | exact fun g h => h | (intro g h; rcases A with _ | a <;> first | (simp [Value.ownBlock] at h; done) | simpa [Value.ownBlock, Addr.add] using h)
  · have hs : SameBlk (.slice A l.length c) (.slice (A.map fun x => x.add k) (l.length - k) (c - k)) := by
      intro g h
      rcases A with _ | ⟨a1, a2, a3⟩
      · simp [Value.ownBlock] at h
      · simp only [Option.map_some, Addr.add, Value.ownBlock] at h ⊢
        rw [← h]
        split <;> rfl
    have hn : (Value.slice (A.map fun x => x.add k) (l.length - k) (c - k)).ownBlock ≠ some b := fun h => HN.out (hs b h)
    refine ⟨rfl, rdK, _, ⟨(HB.out.set_ 0 _).set_ 1 _, (argB_tail HV.out hk).kp rdK ?_, hn⟩, hs⟩
    intro g o n' c' e hg
    have hg : g = b := hg
    subst hg
    rw [e] at hn
    exact hn (by simp [Value.ownBlock])
end Go.Proofs.Ytbnpdghfbiacaaa
