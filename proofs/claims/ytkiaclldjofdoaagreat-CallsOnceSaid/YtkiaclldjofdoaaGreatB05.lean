/- Several texts of this claim in one. No condition beyond what each theorem states. -/
import Derived.Test.YtkiaclldjofdoaaGreatB04
import Derived.StillTailTactics
import Derived.Deep.RegionHeld3
import Derived.Outline
import Derived.Laws.EntriesVeiled
import Derived.Shelf.Abstract
/- The fields that are numbers, by contract (wire). No condition beyond what each theorem states. -/
namespace Go.Proofs.YtkiaclldjofdoaaGreat
open Go Go.RowKit Go.PlainAid

theorem boot_at : AtOk 55 3 := fun W g => by
  go_enter Tryz.func55, Tryz.ntmps55
  go_wp2
  go_ret
  exact ⟨rfl, rfl⟩
set_option maxRecDepth 100000 in
set_option maxHeartbeats 1000000 in
theorem number1_any (pc ac ga off : Nat) (get : Msg → Int) (set : Msg → Int → Msg) (N : NumAt off get set) (eg : ∀ (args : Array Value) (w : World), (callFunc ga args).run Tryz.prog w = .ok (.enter ga args) w) (hat : AtOk ga off) (W : World)
    (hp : Bk W pc 125 [.func (.func 83) #[] #[]]) (ha : Bk W ac 94 [.func (.func ga) #[] #[]])
    (g : Nat) (m : Msg) (sv : Value) (b B : Nat) (u : Value) (l : List UInt8) (hm : MsgB W g m sv) (hr : Rng m) (hw : WrB W b B u l) (hB : B ≤ W.heap.size) (hl : l.length ≤ 100000) :
    Calls Tryz.prog 92 #[.pointer (some ⟨b, 0, none⟩), .pointer (some ⟨g, 0, none⟩), .pointer (some ⟨pc, 0, none⟩), .pointer (some ⟨ac, 0, none⟩)] W fun e w' => e = .returned (.tuple #[]) ∧ WrAft W b B u (l ++ nS (get m)) w' := by
  have hq : ∀ w' l', WrAft W.drew b B u l' w' → WrAft W b B u l' w' := fun w' l' h => WrAft.then_ ((Kp.refl _ W).drew) (fun _ h => .inl h) h
  have pn := wnum_any b B u l (get m) W.drew hw hB (by omega) (N.rng m hr)
  have z1 : W.cell? ⟨pc, 0, none⟩ = some (.func (.func 83) #[] #[]) := hp.cell 0
  have z2 : W.cell? ⟨ac, 0, none⟩ = some (.func (.func ga) #[] #[]) := ha.cell 0
  have z3 : W.cell? ⟨g, off, none⟩ = some (.int .i64 (get m)) := (hm.1.cell off).trans (N.cell m sv)
  generalize get m = x at *
  have HQ := Lib.hid hq
  clear hp ha hm hr hw hq
  go_enter Tryz.func92, Tryz.ntmps92
  go_still_tail 7, (by kernel_rfl)
  still_call ((hat _ g).mono (by rintro e w' ⟨rfl, rfl⟩; exact ⟨rfl, rfl⟩))
  repeat still_step
  refine wpStill_nil ?_
  change wpList _ _ _ _ _ W.drew
  generalize W.drew = W2 at *
  go_wp2_with fail
  refine pn.mono ?_
  rintro e w' ⟨rfl, h2⟩
  go_wp2
  go_end0
  exact ⟨rfl, HQ.out _ _ h2⟩
/-- what a field leaves that was taken up: the message's cell is new, the reader is further -/
theorem rdAft_mk {W W1 : World} {g b B i : Nat} {sv x : Value} {m m' : Msg} {s0 s' : Rd} (hm : Bk W g 50 (mcells m sv)) (ho : W.ownsRow B 3 1 sv m.stamp.length (ints m.stamp)) (h0 : RdS W b s0)
    (hk : Kp (One b) W W1) (hr : RdS W1 b s') (hc : (mcells m sv).set i x = mcells m' sv) (hst : m'.stamp = m.stamp) : RdAft W g sv b B m' s' (W1.setCell ⟨g, i, none⟩ x) := by
  obtain ⟨cs, hb⟩ := h0.rdr
  have hgb : g ≠ b := hm.ne_ hb (by decide)
  have hsb : ∀ k, sv.ownBlock = some k → k ≠ b ∧ k ≠ g := fun k e => by
    obtain ⟨cs', h1⟩ := own_bk ho k e
    exact ⟨h1.ne_ hb (by decide), h1.ne_ hm (by decide)⟩
  have m1 : Bk W1 g 50 (mcells m sv) := hm.kp hk hgb
  have k1 : Kp (One g) W1 (W1.setCell ⟨g, i, none⟩ x) := (Kp.refl (One g) W1).set (.inl rfl) i x
  refine ⟨sv, by rw [← hc]; exact m1.set_ i x, ?_, ?_, ?_, fun k e => .inl e⟩
  · rw [hst]
    exact own_kp (own_kp ho hk fun k e => (hsb k e).1) k1 fun k e => (hsb k e).2
  · exact hr.kp k1 (fun e => hgb (Eq.symm e)) fun k ⟨cs', ht⟩ e => ht.ne_ m1 (by decide) e
  · exact (hk.mono fun k _ e => .inl e).then_ k1 fun k _ e => .inr (.inl e)
set_option maxRecDepth 100000 in
set_option maxHeartbeats 1000000 in
theorem number2_any (tc ac ga off : Nat) (get : Msg → Int) (set : Msg → Int → Msg) (N : NumAt off get set) (eg : ∀ (args : Array Value) (w : World), (callFunc ga args).run Tryz.prog w = .ok (.enter ga args) w) (hat : AtOk ga off) (W : World)
    (hp : Bk W tc 126 [.func (.func 82) #[] #[]]) (ha : Bk W ac 94 [.func (.func ga) #[] #[]])
    (g : Nat) (m : Msg) (sv : Value) (b B : Nat) (s0 : Rd) (hm : Bk W g 50 (mcells m sv)) (ho : W.ownsRow B 3 1 sv m.stamp.length (ints m.stamp)) (hr : RdS W b s0) (hl : s0.1.length ≤ 1000) :
    Calls Tryz.prog 93 #[.pointer (some ⟨b, 0, none⟩), .pointer (some ⟨g, 0, none⟩), .pointer (some ⟨tc, 0, none⟩), .pointer (some ⟨ac, 0, none⟩)] W fun e w' => e = .returned (.tuple #[]) ∧ RdAft W g sv b B (set m ((rdNum s0).1 : Int)) (rdNum s0).2 w' := by
  have pn := rd_num b s0 W.drew hr (by unfold maxLen; omega)
  have z1 : W.cell? ⟨tc, 0, none⟩ = some (.func (.func 82) #[] #[]) := hp.cell 0
  have z2 : W.cell? ⟨ac, 0, none⟩ = some (.func (.func ga) #[] #[]) := ha.cell 0
  go_enter Tryz.func93, Tryz.ntmps93
  go_still_tail 5, (by kernel_rfl)
  still_call ((hat _ g).mono (by rintro e w' ⟨rfl, rfl⟩; exact ⟨rfl, rfl⟩))
  repeat still_step
  refine wpStill_nil ?_
  change wpList _ _ _ _ _ W.drew
  have HM := Lib.hid hm; have HO := Lib.hid ho; have H0 := Lib.hid hr
  have hgb : g ≠ b := by obtain ⟨cs, hb⟩ := hr.rdr; exact hm.ne_ hb (by decide)
  have HN := Lib.hid hgb
  clear hm ho hr hp ha z1 z2 hgb
  have HK : Kp (One b) W W.drew := (Kp.refl (One b) W).drew
  generalize W.drew = W2 at *
  go_wp2_with fail
  refine pn.mono ?_
  rintro e w' ⟨rfl, h2, k2⟩
  have K2 := HK.trans k2
  have B2 := HM.out.kp K2 HN.out
  have z3 : w'.cell? ⟨g, off, none⟩ = some (.int .i64 (get m)) := (B2.cell off).trans (N.cell m sv)
  have zf := B2.frozen off
  have H2 := Lib.hid h2
  clear h2 k2 pn HK B2
  go_wp2
  go_end0
  exact ⟨rfl, rdAft_mk HM.out HO.out H0.out K2 H2.out (N.set_ m sv _) (N.stamp m _)⟩
end Go.Proofs.YtkiaclldjofdoaaGreat

/- The fields that are numbers, made (wire). No condition beyond what each theorem states. -/
namespace Go.Proofs.YtkiaclldjofdoaaGreat
open Go Go.RowKit Go.PlainAid

/-- function fn, with what it has captured, tells may -/
def FineOk (w : World) (fn : Nat) (fc : Array Value) (may : Msg → Bool) : Prop := Ent fn ∧ ∀ W, Stay w W → ∀ g m sv, MsgB W g m sv → Short maxLen m →
    Calls Tryz.prog fn (#[.pointer (some ⟨g, 0, none⟩)] ++ fc) W fun e w' => e = .returned (.bool (may m)) ∧ Kp No W w'
theorem FineOk.stay {w w' : World} {fn : Nat} {fc : Array Value} {may : Msg → Bool} (h : FineOk w fn fc may) (hs : Stay w w') : FineOk w' fn fc may := ⟨h.1, fun W hW => h.2 W (hs.trans hW)⟩
/-- what a function answers that makes a field -/
def MkF (W : World) (s : Fld) (e : Ending) (w' : World) : Prop := ∃ v : FV, e = .returned (.agg v.cells.toArray) ∧ FOk w' v s ∧ Kp No W w'
theorem ent57 : Ent 92 := enters_of Tryz.func92 (by kernel_rfl) rfl
theorem ent58 : Ent 93 := enters_of Tryz.func93 (by kernel_rfl) rfl
theorem number_ok {ga off : Nat} {get : Msg → Int} {set : Msg → Int → Msg} {may : Msg → Bool} (N : NumAt off get set) (eg : Ent ga) (hat : AtOk ga off) {fn : Nat} {fc : Array Value} {w : World} {pc tc ac : Nat}
    (h1 : Bk w pc 125 [.func (.func 83) #[] #[]]) (h2 : Bk w tc 126 [.func (.func 82) #[] #[]]) (h3 : Bk w ac 94 [.func (.func ga) #[] #[]])
    (hf : FineOk w fn fc may) : FOk w ⟨92, #[.pointer (some ⟨pc, 0, none⟩), .pointer (some ⟨ac, 0, none⟩)], 93, #[.pointer (some ⟨tc, 0, none⟩), .pointer (some ⟨ac, 0, none⟩)], fn, fc⟩ (fN get set may) :=
  ⟨ent57, ent58, hf.1,
   fun W hs g m sv b B u l hm hr _ hw hB hl => number1_any pc ac ga off get set N eg hat W (hs.bk h1 (by decide)) (hs.bk h3 (by decide)) g m sv b B u l hm hr hw hB hl,
   fun W hs g m sv b s0 B hm ho hr hB hl _ => number2_any tc ac ga off get set N eg hat W (hs.bk h2 (by decide)) (hs.bk h3 (by decide)) g m sv b B s0 hm ho hr hl,
   fun W hs g m sv hm hl => hf.2 W hs g m sv hm hl⟩
set_option maxRecDepth 100000 in
set_option maxHeartbeats 1000000 in
theorem number_any (ga off : Nat) (get : Msg → Int) (set : Msg → Int → Msg) (may : Msg → Bool) (N : NumAt off get set) (eg : Ent ga) (hat : AtOk ga off) (fn : Nat) (fc : Array Value) (W : World) (hf : FineOk W fn fc may) :
    Calls Tryz.prog 57 #[.func (.func ga) #[] #[], .func (.func fn) #[] fc] W (MkF W (fN get set may)) := by
  have HF := Lib.hid hf; have HN := Lib.hid N; have HE := Lib.hid eg; have HA := Lib.hid hat
  clear hf N eg hat
  have hmf : ∀ (fn : Fn) (first cap : Array Value) (w : World), (Instr.makeFunc fn first cap).run Tryz.prog w = .ok (.func fn first cap) w := fun _ _ _ _ => rfl
  go_enter Tryz.func57, Tryz.ntmps57
  go_wp2
  refine bodyPost_ret (v := .agg #[.func (.func 92) #[] #[.pointer (some ⟨W.heap.size + 1 + 1, 0, none⟩), .pointer (some ⟨W.heap.size, 0, none⟩)], .func (.func 93) #[] #[.pointer (some ⟨W.heap.size + 1 + 1 + 1, 0, none⟩), .pointer (some ⟨W.heap.size, 0, none⟩)], .func (.func fn) #[] fc]) (by simp [results, Tryz.results57, go_sem]) rfl ?_
  have K := ((((Kp.refl No W).alloc (.cells #[.func (.func ga) #[] #[]] 94)).alloc (.cells #[.func (.func 92) #[] #[.pointer (some ⟨W.heap.size + 1 + 1, 0, none⟩), .pointer (some ⟨W.heap.size, 0, none⟩)], .func (.func 93) #[] #[.pointer (some ⟨W.heap.size + 1 + 1 + 1, 0, none⟩), .pointer (some ⟨W.heap.size, 0, none⟩)], .func (.func fn) #[] fc] 83)).alloc (.cells #[.func (.func 83) #[] #[]] 125)).alloc (.cells #[.func (.func 82) #[] #[]] 126)
  exact ⟨⟨_, _, _, _, _, _⟩, rfl, number_ok HN.out HE.out HA.out ((Bk.new' (by simp) rfl).alloc _) (Bk.new' (by simp) rfl) ((((Bk.new' rfl rfl).alloc _).alloc _).alloc _) (HF.out.stay (Stay.no K)), K⟩
end Go.Proofs.YtkiaclldjofdoaaGreat

/- The fields that are counters, made (wire). No condition beyond what each theorem states. -/
namespace Go.Proofs.YtkiaclldjofdoaaGreat
open Go Go.RowKit Go.PlainAid

theorem isCounter_any (n : Int) (w : World) : Calls Tryz.prog 91 #[.int .i64 n] w fun e w' => e = .returned (.bool (decide (cntI n))) ∧ w = w' := by
  go_enter Tryz.func91, Tryz.ntmps91
  by_cases h1 : 1 ≤ n <;> by_cases h2 : n ≤ 1099511627776
  all_goals
    have HS := Lib.hid (show decide (cntI n) = decide (1 ≤ n ∧ n ≤ 1099511627776) from rfl)
    go_wp2
    go_ret
    exact ⟨ret_bool rfl (by rw [HS.out]; simp [h1, h2]), rfl⟩
theorem isNode_any (n : Int) (w : World) : Calls Tryz.prog 36 #[.int .i64 n] w fun e w' => e = .returned (.bool (decide (nodeI n))) ∧ w = w' := by
  go_enter Tryz.func36, Tryz.ntmps36
  by_cases h1 : 0 ≤ n <;> by_cases h2 : n < 8
  all_goals
    have HS := Lib.hid (show decide (nodeI n) = decide (0 ≤ n ∧ n < 8) from rfl)
    go_wp2
    go_ret
    exact ⟨ret_bool rfl (by rw [HS.out]; simp [h1, h2]), rfl⟩
theorem ent55 : Ent 90 := enters_of Tryz.func90 (by kernel_rfl) rfl
set_option maxRecDepth 100000 in
theorem counter1_any (ac ga off : Nat) (get : Msg → Int) (set : Msg → Int → Msg) (N : NumAt off get set) (eg : ∀ (args : Array Value) (w : World), (callFunc ga args).run Tryz.prog w = .ok (.enter ga args) w) (hat : AtOk ga off) (W : World)
    (ha : Bk W ac 94 [.func (.func ga) #[] #[]]) (g : Nat) (m : Msg) (sv : Value) (hm : Bk W g 50 (mcells m sv)) :
    Calls Tryz.prog 90 #[.pointer (some ⟨g, 0, none⟩), .pointer (some ⟨ac, 0, none⟩)] W fun e w' => e = .returned (.bool (decide (cntI (get m)))) ∧ Kp No W w' := by
  have z2 : W.cell? ⟨ac, 0, none⟩ = some (.func (.func ga) #[] #[]) := ha.cell 0
  have z3 : W.cell? ⟨g, off, none⟩ = some (.int .i64 (get m)) := (hm.cell off).trans (N.cell m sv)
  generalize get m = x at *
  clear ha hm
  go_enter Tryz.func90, Tryz.ntmps90
  go_wp2_with (first | (go_at_fn ga; refine (hat _ g).mono ?_; rintro e w' ⟨rfl, rfl⟩) | (go_at_call 91; refine (isCounter_any x _).mono ?_; rintro e w' ⟨rfl, rfl⟩))
  go_ret
  exact ⟨rfl, Kp.refl _ _⟩
/-- a field is stored -/
theorem setFld {W w1 : World} {k : Nat} {v : FV} {s : Fld} {cs : List Value} (B : Bk w1 k 83 cs) (hc : cs.length = 3) (hk : W.heap.size ≤ k) (K : Kp No W w1) (hv : FOk w1 v s) :
    Bk (((w1.setCell ⟨k, 0, none⟩ (.func (.func v.wn) #[] v.wc)).setCell ⟨k, 1, none⟩ (.func (.func v.rn) #[] v.rc)).setCell ⟨k, 2, none⟩ (.func (.func v.fn) #[] v.fc)) k 83 v.cells ∧
    FOk (((w1.setCell ⟨k, 0, none⟩ (.func (.func v.wn) #[] v.wc)).setCell ⟨k, 1, none⟩ (.func (.func v.rn) #[] v.rc)).setCell ⟨k, 2, none⟩ (.func (.func v.fn) #[] v.fc)) v s ∧
    Kp No W (((w1.setCell ⟨k, 0, none⟩ (.func (.func v.wn) #[] v.wc)).setCell ⟨k, 1, none⟩ (.func (.func v.rn) #[] v.rc)).setCell ⟨k, 2, none⟩ (.func (.func v.fn) #[] v.fc)) := by
  have b2 := ((B.set_ 0 (.func (.func v.wn) #[] v.wc)).set_ 1 (.func (.func v.rn) #[] v.rc)).set_ 2 (.func (.func v.fn) #[] v.fc)
  have k1 : Kp (One k) w1 _ := (((Kp.refl (One k) w1).set (.inl rfl) 0 (.func (.func v.wn) #[] v.wc)).set (.inl rfl) 1 (.func (.func v.rn) #[] v.rc)).set (.inl rfl) 2 (.func (.func v.fn) #[] v.fc)
  have e : ((cs.set 0 (.func (.func v.wn) #[] v.wc)).set 1 (.func (.func v.rn) #[] v.rc)).set 2 (.func (.func v.fn) #[] v.fc) = v.cells := by
    match cs, hc with
    | [a, b, c], _ => rfl
  rw [e] at b2
  have ht : Tys (One k) w1 [83] := fun i hi _ => by
    have e1 : i = k := hi
    subst e1
    exact ⟨_, _, B, List.mem_singleton.2 rfl⟩
  refine ⟨b2, hv.stay (Stay.of_kp k1 ht (by decide)), ?_⟩
  exact ((K.set (.inr hk) 0 _).set (.inr hk) 1 _).set (.inr hk) 2 _
set_option maxRecDepth 100000 in
set_option maxHeartbeats 1000000 in
theorem counter_any (ga off : Nat) (get : Msg → Int) (set : Msg → Int → Msg) (N : NumAt off get set) (eg : Ent ga) (hat : AtOk ga off) (W : World) :
    Calls Tryz.prog 54 #[.func (.func ga) #[] #[]] W (MkF W (fN get set fun m => decide (cntI (get m)))) := by
  have hmf : ∀ (fn : Fn) (first cap : Array Value) (w : World), (Instr.makeFunc fn first cap).run Tryz.prog w = .ok (.func fn first cap) w := fun _ _ _ _ => rfl
  have pn : ∀ W1 : World, Bk W1 W.heap.size 94 [.func (.func ga) #[] #[]] → Calls Tryz.prog 57 #[.func (.func ga) #[] #[], .func (.func 90) #[] #[.pointer (some ⟨W.heap.size, 0, none⟩)]] W1 (MkF W1 (fN get set fun m => decide (cntI (get m)))) := fun W1 hb =>
    number_any ga off get set _ N eg hat _ _ W1 ⟨ent55, fun W2 hs g m sv hm _ => counter1_any _ ga off get set N eg hat W2 (hs.bk hb (by decide)) g m sv hm.1⟩
  clear N eg hat
  go_enter Tryz.func54, Tryz.ntmps54
  go_wp2_with fail
  refine (pn _ ((Bk.new' rfl rfl).alloc _)).mono ?_
  rintro e w1 ⟨v, rfl, hv, k1⟩
  have K : Kp No W w1 := (((Kp.refl No W).alloc _).alloc _).trans k1
  have B1 := ((Bk.new' (by simp) rfl : Bk ((W.alloc (.cells #[.func (.func ga) #[] #[]] 94)).alloc (.cells #[.nilFunc, .nilFunc, .nilFunc] 83)) (W.heap.size + 1) 83 [.nilFunc, .nilFunc, .nilFunc]).no k1)
  have z0 := B1.cell 0
  have z1 := B1.cell 1
  have z2 := B1.cell 2
  have zf := B1.frozen
  have HK := Lib.hid K; have HV := Lib.hid hv; have HB := Lib.hid B1
  clear K hv k1 pn B1
  unfold FV.cells
  go_wp2
  obtain ⟨B2, F2, K2⟩ := setFld HB.out rfl (Nat.le_succ _) HK.out HV.out
  have y0 := B2.cell 0
  have y1 := B2.cell 1
  have y2 := B2.cell 2
  simp only [FV.cells] at y0 y1 y2
  generalize (((w1.setCell ⟨W.heap.size + 1, 0, none⟩ (.func (.func v.wn) #[] v.wc)).setCell ⟨W.heap.size + 1, 1, none⟩ (.func (.func v.rn) #[] v.rc)).setCell ⟨W.heap.size + 1, 2, none⟩ (.func (.func v.fn) #[] v.fc)) = w2 at *
  refine bodyPost_ret (v := .agg v.cells.toArray) (by simp [results, Tryz.results54, go_sem, y0, y1, y2, FV.cells]) rfl ⟨v, rfl, F2, K2⟩
end Go.Proofs.YtkiaclldjofdoaaGreat
