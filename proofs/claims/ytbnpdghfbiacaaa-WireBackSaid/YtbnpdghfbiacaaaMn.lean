/- The fields that are numbers, by contract (wire). No condition beyond what each theorem states. -/
import Derived.Test.YtbnpdghfbiacaaaMs
import Derived.StillTailTactics
import Derived.Deep.RegionHeld3
import Derived.Outline
namespace Go.Proofs.Ytbnpdghfbiacaaa
open Go Go.RowKit Go.PlainAid

theorem boot_at : AtOk 29 3 := fun W g => by
  go_enter Try.func29, Try.ntmps29
  go_wp2
  go_ret
  exact ⟨rfl, rfl⟩
set_option maxRecDepth 100000 in
set_option maxHeartbeats 1000000 in
theorem number1_any (pc ac ga off : Nat) (get : Msg → Int) (set : Msg → Int → Msg) (N : NumAt off get set) (eg : ∀ (args : Array Value) (w : World), (callFunc ga args).run Try.prog w = .ok (.enter ga args) w) (hat : AtOk ga off) (W : World)
    (hp : Bk W pc 87 [.func (.func 25) #[] #[]]) (ha : Bk W ac 68 [.func (.func ga) #[] #[]])
    (g : Nat) (m : Msg) (sv : Value) (b B : Nat) (u : Value) (l : List UInt8) (hm : MsgB W g m sv) (hr : Rng m) (hw : WrB W b B u l) (hB : B ≤ W.heap.size) (hl : l.length ≤ 100000) :
    Calls Try.prog 57 #[.pointer (some ⟨b, 0, none⟩), .pointer (some ⟨g, 0, none⟩), .pointer (some ⟨pc, 0, none⟩), .pointer (some ⟨ac, 0, none⟩)] W fun e w' => e = .returned (.tuple #[]) ∧ WrAft W b B u (l ++ nS (get m)) w' := by
  have hq : ∀ w' l', WrAft W.drew b B u l' w' → WrAft W b B u l' w' := fun w' l' h => WrAft.then_ ((Kp.refl _ W).drew) (fun _ h => .inl h) h
  have pn := wnum_any b B u l (get m) W.drew hw hB (by omega) (N.rng m hr)
  have z1 : W.cell? ⟨pc, 0, none⟩ = some (.func (.func 25) #[] #[]) := hp.cell 0
  have z2 : W.cell? ⟨ac, 0, none⟩ = some (.func (.func ga) #[] #[]) := ha.cell 0
  have z3 : W.cell? ⟨g, off, none⟩ = some (.int .i64 (get m)) := (hm.1.cell off).trans (N.cell m sv)
  generalize get m = x at *
  have HQ := Lib.hid hq
  clear hp ha hm hr hw hq
  go_enter Try.func57, Try.ntmps57
  go_still_tail 7, (by kernel_rfl)
  still_call ((hat _ g).mono (by rintro e w' ⟨rfl, rfl⟩; exact ⟨rfl, rfl⟩))
  repeat still_step
  refine wpStill_nil ?_
  change wpList _ _ _ _ _ W.drew
  generalize W.drew = W2 at *
  go_wp2_with fail
  refine pn.mono ?_
  rintro e w' ⟨rfl, h2⟩
  go_wp2
  go_end0
  exact ⟨rfl, HQ.out _ _ h2⟩
/-- what a field leaves that was taken up: the message's cell is new, the reader is further -/
theorem rdAft_mk {W W1 : World} {g b B i : Nat} {sv x : Value} {m m' : Msg} {s0 s' : Rd} (hm : Bk W g 29 (mcells m sv)) (ho : W.ownsRow B 3 1 sv m.stamp.length (ints m.stamp)) (h0 : RdS W b s0)
    (hk : Kp (One b) W W1) (hr : RdS W1 b s') (hc : (mcells m sv).set i x = mcells m' sv) (hst : m'.stamp = m.stamp) : RdAft W g sv b B m' s' (W1.setCell ⟨g, i, none⟩ x) := by
  obtain ⟨cs, hb⟩ := h0.rdr
  have hgb : g ≠ b := hm.ne_ hb (by decide)
  have hsb : ∀ k, sv.ownBlock = some k → k ≠ b ∧ k ≠ g := fun k e => by
    obtain ⟨cs', h1⟩ := own_bk ho k e
    exact ⟨h1.ne_ hb (by decide), h1.ne_ hm (by decide)⟩
  have m1 : Bk W1 g 29 (mcells m sv) := hm.kp hk hgb
  have k1 : Kp (One g) W1 (W1.setCell ⟨g, i, none⟩ x) := (Kp.refl (One g) W1).set (.inl rfl) i x
  refine ⟨sv, by rw [← hc]; exact m1.set_ i x, ?_, ?_, ?_, fun k e => .inl e⟩
  · rw [hst]
    exact own_kp (own_kp ho hk fun k e => (hsb k e).1) k1 fun k e => (hsb k e).2
  · exact hr.kp k1 (fun e => hgb (Eq.symm e)) fun k ⟨cs', ht⟩ e => ht.ne_ m1 (by decide) e
  · exact (hk.mono fun k _ e => .inl e).then_ k1 fun k _ e => .inr (.inl e)
set_option maxRecDepth 100000 in
set_option maxHeartbeats 1000000 in
theorem number2_any (tc ac ga off : Nat) (get : Msg → Int) (set : Msg → Int → Msg) (N : NumAt off get set) (eg : ∀ (args : Array Value) (w : World), (callFunc ga args).run Try.prog w = .ok (.enter ga args) w) (hat : AtOk ga off) (W : World)
    (hp : Bk W tc 88 [.func (.func 54) #[] #[]]) (ha : Bk W ac 68 [.func (.func ga) #[] #[]])
    (g : Nat) (m : Msg) (sv : Value) (b B : Nat) (s0 : Rd) (hm : Bk W g 29 (mcells m sv)) (ho : W.ownsRow B 3 1 sv m.stamp.length (ints m.stamp)) (hr : RdS W b s0) (hl : s0.1.length ≤ 1000) :
    Calls Try.prog 58 #[.pointer (some ⟨b, 0, none⟩), .pointer (some ⟨g, 0, none⟩), .pointer (some ⟨tc, 0, none⟩), .pointer (some ⟨ac, 0, none⟩)] W fun e w' => e = .returned (.tuple #[]) ∧ RdAft W g sv b B (set m ((rdNum s0).1 : Int)) (rdNum s0).2 w' := by
  have pn := rd_num b s0 W.drew hr (by unfold maxLen; omega)
  have z1 : W.cell? ⟨tc, 0, none⟩ = some (.func (.func 54) #[] #[]) := hp.cell 0
  have z2 : W.cell? ⟨ac, 0, none⟩ = some (.func (.func ga) #[] #[]) := ha.cell 0
  go_enter Try.func58, Try.ntmps58
  go_still_tail 5, (by kernel_rfl)
  still_call ((hat _ g).mono (by rintro e w' ⟨rfl, rfl⟩; exact ⟨rfl, rfl⟩))
  repeat still_step
  refine wpStill_nil ?_
  change wpList _ _ _ _ _ W.drew
  have HM := Lib.hid hm; have HO := Lib.hid ho; have H0 := Lib.hid hr
  have hgb : g ≠ b := by obtain ⟨cs, hb⟩ := hr.rdr; exact hm.ne_ hb (by decide)
  have HN := Lib.hid hgb
  clear hm ho hr hp ha z1 z2 hgb
  have HK : Kp (One b) W W.drew := (Kp.refl (One b) W).drew
  generalize W.drew = W2 at *
  go_wp2_with fail
  refine pn.mono ?_
  rintro e w' ⟨rfl, h2, k2⟩
  have K2 := HK.trans k2
  have B2 := HM.out.kp K2 HN.out
  have z3 : w'.cell? ⟨g, off, none⟩ = some (.int .i64 (get m)) := (B2.cell off).trans (N.cell m sv)
  have zf := B2.frozen off
  have H2 := Lib.hid h2
  clear h2 k2 pn HK B2
  go_wp2
  go_end0
  exact ⟨rfl, rdAft_mk HM.out HO.out H0.out K2 H2.out (N.set_ m sv _) (N.stamp m _)⟩
end Go.Proofs.Ytbnpdghfbiacaaa
