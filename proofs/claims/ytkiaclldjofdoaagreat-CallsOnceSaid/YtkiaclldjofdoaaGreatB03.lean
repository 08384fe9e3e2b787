/- Several texts of this claim in one. No condition beyond what each theorem states. -/
import Derived.Test.YtkiaclldjofdoaaGreatB02
import Derived.Laws.BytesArg
import Derived.Test.YtkiaclldjofdoaaGreatB01
import Derived.PlainAid
/- octets.Reader by contracts (2). No condition beyond what each theorem states. -/
namespace Go.Proofs.YtkiaclldjofdoaaGreat
open Go Go.RowKit Go.PlainAid

/-- a reader at b that has the bytes l left -/
def RdB (w : World) (b : Nat) (v : Value) (l : List UInt8) (err : Int) : Prop := Bk w b 135 [v, .int .i64 err] ∧ ArgB w v l ∧ v.ownBlock ≠ some b
/-- a block of bytes -/
def TB (w : World) (k : Nat) : Prop := ∃ cs, Bk w k 5 cs
theorem TB.kp {w w' : World} {k : Nat} {M : Nat → Prop} (h : TB w k) (hk : Kp M w w') (hm : ¬ M k) : TB w' k := by obtain ⟨cs, h⟩ := h; exact ⟨cs, h.kp hk hm⟩
theorem own_tb {w : World} {B : Nat} {v : Value} {l : List UInt8} (h : OwnB w B v l) : ∀ g, v.ownBlock = some g → TB w g := by
  intro g hg
  rcases h.2 with ⟨e, _⟩ | ⟨g', cap, cur, e, _, hh, _⟩
  · rw [e] at hg; simp [Value.ownBlock] at hg
  · rw [e] at hg
    have : g' = g := by simpa [Value.ownBlock] using hg
    subst this
    exact ⟨cur.toList, by unfold Bk; rw [hh]⟩
/-- what it has left lies where it lay -/
def SameBlk (v v' : Value) : Prop := ∀ g, v'.ownBlock = some g → v.ownBlock = some g
theorem RdB.kp {w w' : World} {b : Nat} {v : Value} {l : List UInt8} {err : Int} {M : Nat → Prop} (h : RdB w b v l err) (hk : Kp M w w') (h1 : ¬ M b) (h2 : ∀ g, v.ownBlock = some g → ¬ M g) : RdB w' b v l err :=
  ⟨h.1.kp hk h1, h.2.1.kp hk fun g o n c e => h2 g (by rw [e]; simp [Value.ownBlock]), h.2.2⟩
set_option maxHeartbeats 1000000 in
theorem newr_any (A : Option Addr) (c : Nat) (l : List UInt8) (w : World) (hv : ArgB w (.slice A l.length c) l) (hm : l.length ≤ 1000000) :
    Calls Tryz.prog 81 #[.slice A l.length c] w fun e w' => ∃ b v, e = .returned (.pointer (some ⟨b, 0, none⟩)) ∧ w.heap.size ≤ b ∧ (∀ g, v.ownBlock = some g → w.heap.size ≤ g) ∧ RdB w' b v l 0 ∧ Kp No w w' ∧ (∀ g, v.ownBlock = some g → TB w' g) := by
  have HV := Lib.hid hv; clear hv
  go_enter Tryz.func81, Tryz.ntmps81
  go_wp2_with (at_builtin; refine (wpList_appV _ rfl _ _ 86 rfl w.heap.size 5 _ 1 Tryz.underlying86 Tryz.infoByte rfl _ 0 [] rfl (nil_own _ _ _ _) A l.length c (u8s l) rfl (by simp) HV.out.cs.1 (u8s_one _) (by omega) (by omega) (Nat.le_refl _) ?_); intro v1 w1 o1 k1 _; have O1 : OwnB w1 w.heap.size v1 l := own_of (l := []) o1 rfl; have K1 : Kp No w w1 := k1.mono (fun _ _ h => by cases h); obtain ⟨A1, c1, hv1, _⟩ := own_len O1; subst hv1; clear o1 k1)
  go_ret
  have hlo : ∀ g, (Value.slice A1 l.length c1).ownBlock = some g → w.heap.size ≤ g := by
    intro g h
    rcases O1.2 with ⟨e, _⟩ | ⟨g', cap, cur, e, hg, _⟩
    · rw [e] at h; simp [Value.ownBlock] at h
    · rw [e] at h
      have : g' = g := by simpa [Value.ownBlock] using h
      omega
  have B1 := Bk.new w1 135 [.slice A1 l.length c1, .int .i64 0]
  have O2 := O1.alloc (.cells #[.slice A1 l.length c1, .int .i64 0] 135)
  exact ⟨_, _, rfl, K1.size, fun g h => hlo g h, ⟨B1, own_argB O2, own_ne O2 B1 (by decide)⟩, K1.alloc _, own_tb O2⟩
theorem argB_tail {w : World} {A : Option Addr} {c k : Nat} {l : List UInt8} (h : ArgB w (.slice A l.length c) l) (hk : k ≤ l.length) : ArgB w (.slice (A.map fun x => x.add k) (l.length - k) (c - k)) (l.drop k) := by
  by_cases h0 : l = []
  · subst h0
    have : k = 0 := by simpa using hk
    subst this
    exact ArgB.nil _ _ _
  · obtain ⟨g, o, c', e, _, _⟩ := h.at_ (List.length_pos_iff.2 h0)
    injection e with e1 _ e2
    subst e1 e2
    have := h.drop k hk
    simpa [Addr.add_mid] using this
theorem rdK {w : World} {b : Nat} {x y : Value} : Kp (One b) w ((w.setCell ⟨b, 0, none⟩ x).setCell ⟨b, 1, none⟩ y) := ((Kp.refl (One b) w).set (.inl rfl) 0 x).set (.inl rfl) 1 y
set_option maxHeartbeats 2000000 in
theorem rnum_err (b : Nat) (v : Value) (l : List UInt8) (err : Int) (w : World) (h : RdB w b v l err) (he : err ≠ 0) :
    Calls Tryz.prog 82 #[.pointer (some ⟨b, 0, none⟩)] w fun e w' => e = .returned (.int .i64 0) ∧ w = w' := by
  have z1 : w.cell? ⟨b, 1, none⟩ = some (.int .i64 err) := h.1.cell 1
  have d1 : (err != 0) = true := by rw [bne_iff_ne]; exact he
  clear h
  go_enter Tryz.func82, Tryz.ntmps82
  go_wp2
  go_ret
  exact ⟨rfl, rfl⟩
set_option maxHeartbeats 2000000 in
theorem rnum_any (b : Nat) (v : Value) (l : List UInt8) (w : World) (h : RdB w b v l 0) (hm : l.length ≤ maxLen) :
    Calls Tryz.prog 82 #[.pointer (some ⟨b, 0, none⟩)] w fun e w' => e = .returned (.int .i64 ((takeN 0 l).1 : Int)) ∧ Kp (One b) w w' ∧ ∃ v', RdB w' b v' (l.drop (takeN 0 l).2.1) (takeN 0 l).2.2 ∧ SameBlk v v' := by
  obtain ⟨hb, hv, hne⟩ := h
  obtain ⟨A, c, rfl, hc⟩ := hv.form
  have z0 : w.cell? ⟨b, 0, none⟩ = some (.slice A l.length c) := hb.cell 0
  have z1 : w.cell? ⟨b, 1, none⟩ = some (.int .i64 0) := hb.cell 1
  have zf := hb.frozen
  have pn := onum_any A c l w hv hm
  have hk := takeN_len l
  obtain ⟨n, k, er, ht⟩ : ∃ n k er, takeN 0 l = (n, k, er) := ⟨_, _, _, rfl⟩
  rw [ht] at pn hk ⊢
  simp only at pn hk ⊢
  have HB := Lib.hid hb; have HV := Lib.hid hv; have HN := Lib.hid hne; clear hb hv hne ht
  have hk1 : (k : Int) ≤ (l.length : Int) := by omega
  go_enter Tryz.func82, Tryz.ntmps82
  go_wp2_with fail
  refine pn.mono ?_
  rintro e w' ⟨rfl, rfl⟩
  clear pn
  go_wp2
  all_goals go_ret
  · have hd : l.drop k = [] := List.drop_of_length_le (by omega)
    refine ⟨rfl, rdK, _, ⟨(HB.out.set_ 0 _).set_ 1 _, ?_, ?_⟩, ?_⟩
    · rw [hd]
      first | exact ArgB.nil _ _ _ | (rw [show l.length - k = 0 by omega]; exact ArgB.nil _ _ _)
    · first | exact HN.out | (intro h; exact HN.out (by rcases A with _ | a <;> first | (simp [Value.ownBlock] at h; done) | simpa [Value.ownBlock, Addr.add] using h))
    · first | exact fun g h => h | (intro g h; rcases A with _ | a <;> first | (simp [Value.ownBlock] at h; done) | simpa [Value.ownBlock, Addr.add] using h)
  · have hs : SameBlk (.slice A l.length c) (.slice (A.map fun x => x.add k) (l.length - k) (c - k)) := by
      intro g h
      rcases A with _ | ⟨a1, a2, a3⟩
      · simp [Value.ownBlock] at h
      · simp only [Option.map_some, Addr.add, Value.ownBlock] at h ⊢
        rw [← h]
        split <;> rfl
    have hn : (Value.slice (A.map fun x => x.add k) (l.length - k) (c - k)).ownBlock ≠ some b := fun h => HN.out (hs b h)
    refine ⟨rfl, rdK, _, ⟨(HB.out.set_ 0 _).set_ 1 _, (argB_tail HV.out hk).kp rdK ?_, hn⟩, hs⟩
    intro g o n' c' e hg
    have hg : g = b := hg
    subst hg
    rw [e] at hn
    exact hn (by simp [Value.ownBlock])
end Go.Proofs.YtkiaclldjofdoaaGreat

/- octets.Reader.Text, where it is refused. No condition beyond what each theorem states. -/
namespace Go.Proofs.YtkiaclldjofdoaaGreat
open Go Go.RowKit Go.PlainAid

set_option maxHeartbeats 2000000 in
theorem rtext_err (b : Nat) (v : Value) (l : List UInt8) (err m : Int) (w : World) (h : RdB w b v l err) (he : err ≠ 0) :
    Calls Tryz.prog 111 #[.pointer (some ⟨b, 0, none⟩), .int .i64 m] w fun e w' => e = .returned (.string ⟨#[]⟩) ∧ w = w' := by
  have z1 : w.cell? ⟨b, 1, none⟩ = some (.int .i64 err) := h.1.cell 1
  have d1 : (err != 0) = true := by rw [bne_iff_ne]; exact he
  clear h
  go_enter Tryz.func111, Tryz.ntmps111
  go_wp2
  go_ret
  exact ⟨rfl, rfl⟩
theorem RdB.refuse {w : World} {b : Nat} {v : Value} {l : List UInt8} {err er : Int} (h : RdB w b v l err) : RdB (w.setCell ⟨b, 1, none⟩ (.int .i64 er)) b v l er :=
  ⟨h.1.set_ 1 _, h.2.1.kp ((Kp.refl (One b) w).set (.inl rfl) 1 _) (fun g o n c e hg => h.2.2 (by have hg : g = b := hg; rw [e, hg]; simp [Value.ownBlock])), h.2.2⟩
set_option maxHeartbeats 2000000 in
theorem rtext_bad (b : Nat) (v : Value) (l : List UInt8) (m : Int) (w : World) (h : RdB w b v l 0) (hm : l.length ≤ maxLen) (he : (takeN 0 l).2.2 ≠ 0) :
    Calls Tryz.prog 111 #[.pointer (some ⟨b, 0, none⟩), .int .i64 m] w fun e w' => e = .returned (.string ⟨#[]⟩) ∧ Kp (One b) w w' ∧ RdB w' b v l (takeN 0 l).2.2 := by
  have HR := Lib.hid h
  obtain ⟨hb, hv, hne⟩ := h
  obtain ⟨A, c, rfl, hc⟩ := hv.form
  have z0 : w.cell? ⟨b, 0, none⟩ = some (.slice A l.length c) := hb.cell 0
  have z1 : w.cell? ⟨b, 1, none⟩ = some (.int .i64 0) := hb.cell 1
  have zf := hb.frozen
  have pn := onum_any A c l w hv hm
  obtain ⟨n, k, er, ht⟩ : ∃ n k er, takeN 0 l = (n, k, er) := ⟨_, _, _, rfl⟩
  rw [ht] at pn he ⊢
  simp only at pn he ⊢
  have d1 : (er != 0) = true := by rw [bne_iff_ne]; exact he
  clear hb hv hne ht he
  go_enter Tryz.func111, Tryz.ntmps111
  go_wp2_with fail
  refine pn.mono ?_
  rintro e w' ⟨rfl, rfl⟩
  clear pn
  go_wp2
  go_ret
  exact ⟨rfl, (Kp.refl (One b) w).set (.inl rfl) 1 _, HR.out.refuse⟩

set_option maxHeartbeats 2000000 in
theorem rtext_long (b : Nat) (v : Value) (l : List UInt8) (m : Int) (w : World) (h : RdB w b v l 0) (hm : l.length ≤ maxLen) (he : (takeN 0 l).2.2 = 0) (hl : max m 0 < ((takeN 0 l).1 : Int)) :
    Calls Tryz.prog 111 #[.pointer (some ⟨b, 0, none⟩), .int .i64 m] w fun e w' => e = .returned (.string ⟨#[]⟩) ∧ Kp (One b) w w' ∧ RdB w' b v l 21 := by
  have HR := Lib.hid h
  obtain ⟨hb, hv, hne⟩ := h
  obtain ⟨A, c, rfl, hc⟩ := hv.form
  have z0 : w.cell? ⟨b, 0, none⟩ = some (.slice A l.length c) := hb.cell 0
  have z1 : w.cell? ⟨b, 1, none⟩ = some (.int .i64 0) := hb.cell 1
  have zf := hb.frozen
  have pn := onum_any A c l w hv hm
  have hkl := takeN_len l
  obtain ⟨n, k, er, ht⟩ : ∃ n k er, takeN 0 l = (n, k, er) := ⟨_, _, _, rfl⟩
  rw [ht] at pn he hkl hl
  simp only at pn he hkl hl
  subst he
  unfold maxLen at hm
  have hl2 : m < (n : Int) ∧ (0 : Int) < (n : Int) := by omega
  obtain ⟨hl3, hl4⟩ := hl2
  clear hl
  clear hb hv hne ht
  rcases Int.lt_or_le m 0 with hm0 | hm0
  all_goals
    go_enter Tryz.func111, Tryz.ntmps111
    go_wp2_with fail
    refine pn.mono ?_
    rintro e w' ⟨rfl, rfl⟩
    clear pn
    go_wp2
    go_ret
    exact ⟨rfl, (Kp.refl (One b) w).set (.inl rfl) 1 _, HR.out.refuse⟩
set_option maxHeartbeats 2000000 in
theorem rtext_short (b : Nat) (v : Value) (l : List UInt8) (m : Int) (w : World) (h : RdB w b v l 0) (hm : l.length ≤ maxLen) (he : (takeN 0 l).2.2 = 0) (hl : ((takeN 0 l).1 : Int) ≤ max m 0) (hs : (l.length : Int) - ((takeN 0 l).2.1 : Int) < ((takeN 0 l).1 : Int)) :
    Calls Tryz.prog 111 #[.pointer (some ⟨b, 0, none⟩), .int .i64 m] w fun e w' => e = .returned (.string ⟨#[]⟩) ∧ Kp (One b) w w' ∧ RdB w' b v l 20 := by
  have HR := Lib.hid h
  obtain ⟨hb, hv, hne⟩ := h
  obtain ⟨A, c, rfl, hc⟩ := hv.form
  have z0 : w.cell? ⟨b, 0, none⟩ = some (.slice A l.length c) := hb.cell 0
  have z1 : w.cell? ⟨b, 1, none⟩ = some (.int .i64 0) := hb.cell 1
  have zf := hb.frozen
  have pn := onum_any A c l w hv hm
  have hkl := takeN_len l
  obtain ⟨n, k, er, ht⟩ : ∃ n k er, takeN 0 l = (n, k, er) := ⟨_, _, _, rfl⟩
  rw [ht] at pn he hkl hl hs
  simp only at pn he hkl hl hs
  subst he
  unfold maxLen at hm
  have hl2 : (n : Int) ≤ m ∧ 0 ≤ m := by omega
  obtain ⟨hl3, hm0⟩ := hl2
  clear hl
  have hl4 : ¬ m < (n : Int) := by omega
  have hk1 : (k : Int) ≤ (l.length : Int) := by omega
  clear hb hv hne ht
  have hx : True := trivial
  all_goals
    go_enter Tryz.func111, Tryz.ntmps111
    go_wp2_with fail
    refine pn.mono ?_
    rintro e w' ⟨rfl, rfl⟩
    clear pn
    go_wp2
    go_ret
    exact ⟨rfl, (Kp.refl (One b) w).set (.inl rfl) 1 _, HR.out.refuse⟩
end Go.Proofs.YtkiaclldjofdoaaGreat

/- Bytes as a text. No condition beyond what each theorem states. -/
namespace Go.Proofs.YtkiaclldjofdoaaGreat
open Go Go.RowKit

theorem conv_argB {w : World} {g o c : Nat} {l : List UInt8} (h : ArgB w (.slice (some ⟨g, o, none⟩) l.length c) l) :
    (convert 86 9 (.slice (some ⟨g, o, none⟩) l.length c)).run Tryz.prog w = .ok (.string ⟨l.toArray⟩) w := by
  have hu : Tryz.prog.underlying 5 = some (.int .u8) := by kernel_rfl
  have hd : Tryz.prog.underlying 9 = some .string := by kernel_rfl
  have := run_convert_bytes_arg w 86 5 Tryz.underlying86 hu g o l.length c (l.map fun x => (x.toNat : Int)) (by simp) (fun i hi => by
    obtain ⟨g', o', c', e, _, hx⟩ := h.at_ (by omega)
    have e1 : g = g' ∧ o = o' := by simp only [Value.slice.injEq, Option.some.injEq, Addr.mk.injEq] at e; exact ⟨e.1.1, e.1.2.1⟩
    obtain ⟨rfl, rfl⟩ := e1
    rw [hx i _ (List.getElem?_eq_getElem hi)]
    simp [List.getD, List.getElem?_eq_getElem hi]) 9 hd
  rw [this]
  have e : strOfNums (l.map fun x => (x.toNat : Int)) = ⟨l.toArray⟩ := by simp [strOfNums, Function.comp_def]
  rw [e]
end Go.Proofs.YtkiaclldjofdoaaGreat

/- octets.Reader.Text, where it is given. No condition beyond what each theorem states. -/
namespace Go.Proofs.YtkiaclldjofdoaaGreat
open Go Go.RowKit Go.PlainAid

theorem argB_mid {w : World} {g o c : Nat} {l : List UInt8} (h : ArgB w (.slice (some ⟨g, o, none⟩) l.length c) l) (k n : Nat) (hk : k + n ≤ l.length) :
    (∃ o1, (∀ W, (Instr.slice 86 (.slice (some ⟨g, o, none⟩) l.length c) (some (.int .i64 (k : Int))) (some (.int .i64 ((k : Int) + (n : Int)))) none).run Tryz.prog W = .ok (.slice (some ⟨g, o1, none⟩) n (c - k)) W) ∧ ArgB w (.slice (some ⟨g, o1, none⟩) ((l.drop k).take n).length (c - k)) ((l.drop k).take n)) ∧
    (∃ o2, (∀ W, (Instr.slice 86 (.slice (some ⟨g, o, none⟩) l.length c) (some (.int .i64 ((k : Int) + (n : Int)))) none none).run Tryz.prog W = .ok (.slice (some ⟨g, o2, none⟩) (l.length - (k + n)) (c - (k + n))) W) ∧ ArgB w (.slice (some ⟨g, o2, none⟩) (l.length - (k + n)) (c - (k + n))) (l.drop (k + n))) := by
  have hc : l.length ≤ c := by obtain ⟨_, _, hc⟩ := h.cs; exact hc
  have hu : Tryz.prog.underlying 86 = some (.slice (Tryz.prog.elem 86)) := by kernel_rfl
  have hsz : ∀ W, (sizeOf (Tryz.prog.elem 86)).run Tryz.prog W = .ok 1 W := fun W => by kernel_rfl
  have e1 : ((k : Int) + (n : Int)).toNat = k + n := by omega
  have hl1 : ((l.drop k).take n).length = n := by rw [List.length_take, List.length_drop]; omega
  constructor
  · by_cases hck : c = k
    · have hn : n = 0 := by omega
      subst hn
      refine ⟨o, fun W => ?_, ?_⟩
      · rw [run_slice_lh (P := Tryz.prog) W 86 _ _ _ hu .i64 .i64 _ _ (by omega) (by omega) (by omega), hsz]
        simp [Result.andThen, sliced, hck]
      · simpa using ArgB.nil _ _ _
    · refine ⟨o + k, fun W => ?_, ?_⟩
      · rw [run_slice_lh (P := Tryz.prog) W 86 _ _ _ hu .i64 .i64 _ _ (by omega) (by omega) (by omega), hsz]
        simp [Result.andThen, sliced, hck, e1, Addr.add_mid]
      · have hd := h.drop k (by omega)
        have := ArgB.take (n := l.length - k) (c := c - k) (l := l.drop k) hd n (by rw [List.length_drop]; omega)
        rw [hl1]; exact this
  · by_cases hck : c = k + n
    · have hn : l.length - (k + n) = 0 := by omega
      have hd : l.drop (k + n) = [] := List.drop_of_length_le (by omega)
      refine ⟨o, fun W => ?_, ?_⟩
      · rw [run_slice_l (P := Tryz.prog) W 86 _ _ _ hu .i64 _ (by omega) (by omega), hsz]
        simp [Result.andThen, sliced, hck, e1]
      · rw [hn, hd]; exact ArgB.nil _ _ _
    · refine ⟨o + (k + n), fun W => ?_, h.drop (k + n) (by omega)⟩
      rw [run_slice_l (P := Tryz.prog) W 86 _ _ _ hu .i64 _ (by omega) (by omega), hsz]
      simp [Result.andThen, sliced, hck, e1, Addr.add_mid]
set_option maxRecDepth 100000 in
set_option maxHeartbeats 2000000 in
theorem rtext_yes (b : Nat) (v : Value) (l : List UInt8) (m : Int) (w : World) (h : RdB w b v l 0) (hm : l.length ≤ maxLen) (he : (takeN 0 l).2.2 = 0) (hl : ((takeN 0 l).1 : Int) ≤ max m 0) (hs : (takeN 0 l).1 + (takeN 0 l).2.1 ≤ l.length) :
    Calls Tryz.prog 111 #[.pointer (some ⟨b, 0, none⟩), .int .i64 m] w fun e w' => e = .returned (.string ⟨((l.drop (takeN 0 l).2.1).take (takeN 0 l).1).toArray⟩) ∧ Kp (One b) w w' ∧ ∃ v', RdB w' b v' (l.drop ((takeN 0 l).2.1 + (takeN 0 l).1)) 0 ∧ SameBlk v v' := by
  have HR := Lib.hid h
  obtain ⟨hb, hv, hne⟩ := h
  have hpos : 0 < l.length := by
    rcases Nat.eq_zero_or_pos l.length with h0 | h0
    · rw [List.eq_nil_of_length_eq_zero h0] at he
      simp [takeN] at he
    · exact h0
  obtain ⟨g, o, c, rfl, hc, _⟩ := hv.at_ hpos
  have z0 : w.cell? ⟨b, 0, none⟩ = some (.slice (some ⟨g, o, none⟩) l.length c) := hb.cell 0
  have z1 : w.cell? ⟨b, 1, none⟩ = some (.int .i64 0) := hb.cell 1
  have zf := hb.frozen
  have pn := onum_any _ c l w hv hm
  obtain ⟨n, k, er, ht⟩ : ∃ n k er, takeN 0 l = (n, k, er) := ⟨_, _, _, rfl⟩
  rw [ht] at pn he hl hs ⊢
  simp only at pn he hl hs ⊢
  subst he
  unfold maxLen at hm
  obtain ⟨⟨o1, r1, a1⟩, o2, r2, a2⟩ := argB_mid hv k n (by omega)
  have hcv := conv_argB a1
  have hl1 : ((l.drop k).take n).length = n := by rw [List.length_take, List.length_drop]; omega
  rw [hl1] at hcv
  have A2 := Lib.hid a2; have HB := Lib.hid hb; have HN := Lib.hid hne
  obtain ⟨S, hS⟩ : ∃ S : ByteArray, S = ⟨((l.drop k).take n).toArray⟩ := ⟨_, rfl⟩
  rw [← hS] at hcv ⊢
  have hs1 : (n : Int) + (k : Int) ≤ (l.length : Int) := by omega
  have hs2 : ¬ (l.length : Int) - (k : Int) < (n : Int) := by omega
  have hm2 : (n : Int) ≤ m ∨ n = 0 := by omega
  clear hb hv hne ht a1 a2 hl1 hS hpos
  rcases Int.lt_or_le m 0 with hm0 | hm0
  all_goals
    have hm3 : ¬ max m 0 < (n : Int) := by omega
    have hm4 : m < 0 → ¬ (0 : Int) < (n : Int) := fun h => by omega
    have hm5 : 0 ≤ m → ¬ m < (n : Int) := fun h => by omega
    first
      | (have hm6 := hm4 hm0; clear hm5)
      | (have hm6 := hm5 hm0; clear hm4)
    clear hl hm2 hm3
    go_enter Tryz.func111, Tryz.ntmps111
    go_wp2_with fail
    refine pn.mono ?_
    rintro e w' ⟨rfl, rfl⟩
    clear pn
    go_wp2
    go_ret
    have B1 := HB.out.set_ 0 (.slice (some ⟨g, o2, none⟩) (l.length - (k + n)) (c - (k + n)))
    refine ⟨rfl, (Kp.refl (One b) w).set (.inl rfl) 0 _, _, ⟨B1, A2.out.kp ((Kp.refl (One b) w).set (.inl rfl) 0 _) ?_, ?_⟩, ?_⟩
    · intro g' o' n' c' e hg
      injection e with e1
      injection e1 with e1
      injection e1 with e1
      subst e1
      exact HN.out (by rw [show g = b from hg]; simp [Value.ownBlock])
    · intro h; exact HN.out (by simpa [Value.ownBlock] using h)
    · intro g' h; simpa [Value.ownBlock] using h
end Go.Proofs.YtkiaclldjofdoaaGreat

/- The reader by one word (wire). No condition beyond what each theorem states. -/
namespace Go.Proofs.YtkiaclldjofdoaaGreat
open Go Go.RowKit Go.PlainAid

theorem takeN_bad : ∀ (l : List UInt8) (i : Nat), (takeN i l).2.2 ≠ 0 → (takeN i l).1 = 0 ∧ (takeN i l).2.1 = 0
  | [], i, _ => ⟨rfl, rfl⟩
  | c :: r, i, h => by
    unfold takeN at h ⊢
    by_cases h1 : c.toNat < 128
    · rw [if_pos h1] at h ⊢
      by_cases h2 : c.toNat = 0 ∧ 0 < i
      · rw [if_pos h2]; exact ⟨rfl, rfl⟩
      · rw [if_neg h2] at h; exact absurd rfl h
    · rw [if_neg h1] at h ⊢
      by_cases h3 : i = 8
      · rw [if_pos h3]; exact ⟨rfl, rfl⟩
      · rw [if_neg h3] at h ⊢
        generalize takeN (i + 1) r = q at *
        obtain ⟨n, k, e⟩ := q
        simp only at h ⊢
        by_cases h4 : e = 0
        · rw [if_pos h4] at h; exact absurd rfl h
        · rw [if_neg h4]; exact ⟨rfl, rfl⟩
/-- a reader at b in the state s -/
def RdS (w : World) (b : Nat) (s : Rd) : Prop := ∃ v, RdB w b v s.1 s.2 ∧ ∀ k, v.ownBlock = some k → TB w k
theorem RdS.kp {w w' : World} {b : Nat} {s : Rd} {M : Nat → Prop} (h : RdS w b s) (hk : Kp M w w') (h1 : ¬ M b) (h2 : ∀ k, TB w k → ¬ M k) : RdS w' b s := by
  obtain ⟨v, h, ht⟩ := h
  exact ⟨v, h.kp hk h1 (fun g hg => h2 g (ht g hg)), fun k e => (ht k e).kp hk (h2 k (ht k e))⟩
theorem RdS.no {w w' : World} {b : Nat} {s : Rd} (h : RdS w b s) (hk : Kp No w w') : RdS w' b s := h.kp hk (fun m => m) (fun _ _ m => m)
theorem RdS.rdr {w : World} {b : Nat} {s : Rd} (h : RdS w b s) : ∃ cs, Bk w b 135 cs := by obtain ⟨v, h, _⟩ := h; exact ⟨_, h.1⟩
theorem RdS.step {w w' : World} {b : Nat} {s s' : Rd} {v v' : Value} (h : RdB w b v s.1 s.2) (ht : ∀ k, v.ownBlock = some k → TB w k) (hk : Kp (One b) w w') (h' : RdB w' b v' s'.1 s'.2) (hs : SameBlk v v') : RdS w' b s' :=
  ⟨v', h', fun k e => (ht k (hs k e)).kp hk (fun m => by
    have e2 : k = b := m
    subst e2
    exact h'.2.2 e)⟩
theorem rd_num (b : Nat) (s : Rd) (w : World) (h : RdS w b s) (hm : s.1.length ≤ maxLen) :
    Calls Tryz.prog 82 #[.pointer (some ⟨b, 0, none⟩)] w fun e w' => e = .returned (.int .i64 ((rdNum s).1 : Int)) ∧ RdS w' b (rdNum s).2 ∧ Kp (One b) w w' := by
  obtain ⟨l, err⟩ := s
  by_cases he : err = 0
  · subst he
    obtain ⟨v, h, ht⟩ := h
    refine (rnum_any b v l w h hm).mono ?_
    rintro e w' ⟨rfl, hk, v', h', hs⟩
    obtain ⟨n, k, er, htk⟩ : ∃ n k er, takeN 0 l = (n, k, er) := ⟨_, _, _, rfl⟩
    by_cases h0 : er = 0
    · subst h0
      rw [htk] at h'
      have e1 : rdNum (l, 0) = (n, (l.drop k, 0)) := by unfold rdNum; simp [htk]
      rw [e1, htk]
      exact ⟨rfl, RdS.step (s := (l, 0)) (s' := (l.drop k, 0)) h ht hk h' hs, hk⟩
    · have hb := takeN_bad l 0 (by rw [htk]; exact h0)
      rw [htk] at hb h'
      obtain ⟨rfl, rfl⟩ : n = 0 ∧ k = 0 := hb
      have e1 : rdNum (l, 0) = (0, (l, er)) := by unfold rdNum; simp [htk, h0]
      rw [e1, htk]
      exact ⟨rfl, RdS.step (s := (l, 0)) (s' := (l, er)) h ht hk (by simpa using h') hs, hk⟩
  · have e1 : rdNum (l, err) = (0, (l, err)) := by unfold rdNum; simp [he]
    have h0 := h
    obtain ⟨v, h, ht⟩ := h
    refine (rnum_err b v l err w h he).mono ?_
    rintro e w' ⟨rfl, rfl⟩
    rw [e1]
    exact ⟨rfl, h0, Kp.refl _ _⟩
theorem rd_text (b : Nat) (s : Rd) (most : Nat) (w : World) (h : RdS w b s) (hm : s.1.length ≤ maxLen) :
    Calls Tryz.prog 111 #[.pointer (some ⟨b, 0, none⟩), .int .i64 (most : Int)] w fun e w' => e = .returned (.string ⟨(rdText most s).1.toArray⟩) ∧ RdS w' b (rdText most s).2 ∧ Kp (One b) w w' := by
  obtain ⟨l, err⟩ := s
  by_cases he : err = 0
  · subst he
    obtain ⟨v, h, ht⟩ := h
    obtain ⟨n, k, er, htk⟩ : ∃ n k er, takeN 0 l = (n, k, er) := ⟨_, _, _, rfl⟩
    have hlen := takeN_len l
    have p1 := rtext_bad b v l (most : Int) w h hm
    have p2 := rtext_long b v l (most : Int) w h hm
    have p3 := rtext_short b v l (most : Int) w h hm
    have p4 := rtext_yes b v l (most : Int) w h hm
    rw [htk] at p1 p2 p3 p4 hlen
    simp only at p1 p2 p3 p4 hlen
    by_cases h0 : er = 0
    · subst h0
      by_cases h1 : most < n
      · have e1 : rdText most (l, 0) = ([], (l, 21)) := by unfold rdText; simp [htk, h1]
        refine (p2 rfl (by omega)).mono ?_
        rintro e w' ⟨rfl, hk, h'⟩
        rw [e1]
        exact ⟨rfl, RdS.step (s := (l, 0)) (s' := (l, 21)) h ht hk h' (fun g hg => hg), hk⟩
      · by_cases h2 : l.length - k < n
        · have e1 : rdText most (l, 0) = ([], (l, 20)) := by unfold rdText; simp [htk, h1, h2]
          refine (p3 rfl (by omega) (by omega)).mono ?_
          rintro e w' ⟨rfl, hk, h'⟩
          rw [e1]
          exact ⟨rfl, RdS.step (s := (l, 0)) (s' := (l, 20)) h ht hk h' (fun g hg => hg), hk⟩
        · have e1 : rdText most (l, 0) = ((l.drop k).take n, (l.drop (k + n), 0)) := by unfold rdText; simp [htk, h1, h2]
          refine (p4 rfl (by omega) (by omega)).mono ?_
          rintro e w' ⟨rfl, hk, v', h', hs⟩
          rw [e1]
          exact ⟨rfl, RdS.step (s := (l, 0)) (s' := (l.drop (k + n), 0)) h ht hk h' hs, hk⟩
    · have e1 : rdText most (l, 0) = ([], (l, er)) := by unfold rdText; simp [htk, h0]
      refine (p1 h0).mono ?_
      rintro e w' ⟨rfl, hk, h'⟩
      rw [e1]
      exact ⟨rfl, RdS.step (s := (l, 0)) (s' := (l, er)) h ht hk h' (fun g hg => hg), hk⟩
  · have e1 : rdText most (l, err) = ([], (l, err)) := by unfold rdText; simp [he]
    have h0 := h
    obtain ⟨v, h, ht⟩ := h
    refine (rtext_err b v l err _ w h he).mono ?_
    rintro e w' ⟨rfl, rfl⟩
    rw [e1]
    exact ⟨rfl, h0, Kp.refl _ _⟩
theorem rdNum_lt (s : Rd) : (rdNum s).1 < 9223372036854775808 := by
  unfold rdNum
  split
  · simp
  · have := takeN_lt s.1
    generalize takeN 0 s.1 = q at *
    obtain ⟨n, k, e⟩ := q
    simp only at this ⊢
    split
    · exact this
    · simp
theorem rdNum_le (s : Rd) : (rdNum s).2.1.length ≤ s.1.length := by
  unfold rdNum
  split
  · exact Nat.le_refl _
  · generalize takeN 0 s.1 = q at *
    obtain ⟨n, k, e⟩ := q
    simp only
    split
    · simp
    · exact Nat.le_refl _
theorem rdText_le (m : Nat) (s : Rd) : (rdText m s).2.1.length ≤ s.1.length ∧ (rdText m s).1.length ≤ m := by
  unfold rdText
  split
  · simp
  · generalize takeN 0 s.1 = q at *
    obtain ⟨n, k, e⟩ := q
    simp only
    split
    · simp
    · split
      · simp
      · split
        · simp
        · simp; omega
end Go.Proofs.YtkiaclldjofdoaaGreat

/- octets.Writer's texts by contract. No condition beyond what each theorem states. -/
namespace Go.Proofs.YtkiaclldjofdoaaGreat
open Go Go.RowKit Go.PlainAid

set_option maxHeartbeats 1000000 in
theorem wput_any (b B : Nat) (v : Value) (l : List UInt8) (x : UInt8) (w : World) (h : WrB w b B v l) (hB : B ≤ w.heap.size) (hl : l.length ≤ 2000000) :
    Calls Tryz.prog 139 #[.pointer (some ⟨b, 0, none⟩), .int .u8 (x.toNat : Int)] w fun e w' => e = .returned (.tuple #[]) ∧ WrAft w b B v (l ++ [x]) w' := by
  obtain ⟨hb, ho⟩ := h
  obtain ⟨A, c, rfl⟩ : ∃ A c, v = .slice A l.length c := by obtain ⟨A, c, h, _⟩ := own_len ho; exact ⟨A, c, h⟩
  have z0 : w.cell? ⟨b, 0, none⟩ = some (.slice A l.length c) := hb.cell 0
  have HO := Lib.hid ho; have HB := Lib.hid hb; clear ho hb
  go_enter Tryz.func139, Tryz.ntmps139
  go_wp2_with (at_builtin; refine wpList_app1 _ rfl _ _ 86 rfl B 5 _ 1 1 Tryz.underlying86 Tryz.infoByte rfl (by omega) _ l.length (u8s l) rfl (HO.out.alloc _) _ _ _ rfl (Bk.new' (by simp) rfl) rfl (by simp [Value.oneCell']) (by omega) (by omega) (by simp; omega) ?_; intro g1 cap1 w1 hown1 hk1 hat1; have B1 : Bk w1 b 113 [.slice A l.length c] := (HB.out.alloc _).kp hk1 (own_ne HO.out HB.out (by decide)); have z1 : w1.cell? ⟨b, 0, none⟩ = some (.slice A l.length c) := B1.cell 0; have zf1 := B1.frozen; clear B1)
  have HS := WrB.step ⟨HB.out, HO.out⟩ hown1 hk1 hat1
  go_end0
  exact ⟨rfl, HS⟩
set_option maxHeartbeats 1000000 in
theorem each_any (b B : Nat) (v : Value) (l : List UInt8) (s : ByteArray) (w : World) (h : WrB w b B v l) (hB : B ≤ w.heap.size) (hl : l.length ≤ 1000000) (hs : s.size ≤ 1000000) :
    Calls Tryz.prog 138 #[.string s, .func (.func 139) #[.pointer (some ⟨b, 0, none⟩)] #[]] w fun e w' => e = .returned (.tuple #[]) ∧ WrAft w b B v (l ++ s.data.toList) w' := by
  have hb := get_bt s
  have HW := Lib.hid h; clear h
  go_enter Tryz.func138, Tryz.ntmps138
  go_wp2
  go_loopw [4, 7] (fun _ i wr => ∃ k : Nat, k ≤ s.size ∧ i = .int .i64 k ∧ WrAft w b B v (l ++ s.data.toList.take k) wr) (fun _ i _ => s.size - (intOf i).toNat)
  case atStart => exact ⟨0, Nat.zero_le _, rfl, by rw [List.take_zero, List.append_nil]; exact WrAft.start HW.out⟩
  case round =>
    obtain ⟨k, hk, rfl, hF⟩ := hrel
    by_cases hlt : k < s.size
    · have hk0 : (0 : Int) ≤ (k : Int) := by omega
      have hk1 : (k : Int) < (s.size : Int) := by omega
      have hl' : k < s.data.toList.length := by simpa using hlt
      have hc : bt s k = (((s.data.toList[k]'hl').toNat : Nat) : Int) := by
        rw [← hb k hlt]; simp [ByteArray.getElem_eq_getElem_data]
      have hT : s.data.toList.take (k + 1) = s.data.toList.take k ++ [s.data.toList[k]'hl'] := List.take_succ_eq_append_getElem hl'
      generalize s.data.toList[k]'hl' = c at *
      obtain ⟨va, hwa, hka, hna⟩ := hF
      have hpl : (l ++ s.data.toList.take k).length ≤ 2000000 := by rw [List.length_append, List.length_take]; omega
      have pa := wput_any b B va _ c wr hwa (Nat.le_trans hB hka.size) hpl
      have HT := Lib.hid hT; have HK := Lib.hid hka; have HN := Lib.hid hna
      clear hT hwa hka hna hpl
      have pb : Calls Tryz.prog 139 #[.pointer (some ⟨b, 0, none⟩), .int .u8 (bt s k)] wr fun e w' => e = .returned (.tuple #[]) ∧ WrAft wr b B va (l ++ s.data.toList.take k ++ [c]) w' := by rw [hc]; exact pa
      clear pa hc
      go_wp2_with fail
      refine pb.mono ?_
      rintro e w' ⟨rfl, h2⟩
      have H2 := Lib.hid h2; clear h2 pb
      go_wp2
      go_roundw
      case rel => exact ⟨k + 1, by omega, by go_num, by rw [HT.out, ← List.append_assoc]; exact WrAft.then_ HK.out HN.out H2.out⟩
      case measure => simp [intOf]; omega
    · have hk' : k = s.size := by omega
      have hk1 : ¬ (k : Int) < (s.size : Int) := by omega
      have HX := Lib.hid (show s.data.toList.take k = s.data.toList from List.take_of_length_le (by simp; omega))
      have HF := Lib.hid hF; clear hF
      clear hk'
      go_wp2
      go_end0
      exact ⟨rfl, by rw [← HX.out]; exact HF.out⟩
set_option maxHeartbeats 1000000 in
theorem wtext_any (b B : Nat) (v : Value) (l : List UInt8) (s : ByteArray) (w : World) (h : WrB w b B v l) (hB : B ≤ w.heap.size) (hl : l.length ≤ 900000) (hs : s.size ≤ 1000000) :
    Calls Tryz.prog 110 #[.pointer (some ⟨b, 0, none⟩), .string s] w fun e w' => e = .returned (.tuple #[]) ∧ WrAft w b B v (l ++ numS s.size ++ s.data.toList) w' := by
  have pn := wnum_any b B v l (s.size : Int) w h hB (by omega) (by omega)
  rw [Int.toNat_natCast] at pn
  have hlen : (numS s.size).length ≤ 9 := numS_len 8 _ (by omega)
  go_enter Tryz.func110, Tryz.ntmps110
  go_wp2_with fail
  refine pn.mono ?_
  rintro e w1 ⟨rfl, v1, h1, k1, n1⟩
  have pe := each_any b B v1 _ s w1 h1 (Nat.le_trans hB k1.size) (by rw [List.length_append]; omega) hs
  have HK := Lib.hid k1; have HN := Lib.hid n1
  clear pn h1 k1 n1 h
  go_wp2_with fail
  refine pe.mono ?_
  rintro e w' ⟨rfl, h2⟩
  have H2 := Lib.hid h2; clear h2 pe
  go_wp2
  go_end0
  exact ⟨rfl, WrAft.then_ HK.out HN.out H2.out⟩
end Go.Proofs.YtkiaclldjofdoaaGreat
