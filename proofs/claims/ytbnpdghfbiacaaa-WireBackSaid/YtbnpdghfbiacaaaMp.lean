/- The fields that are counters, made (wire). No condition beyond what each theorem states. -/
import Derived.Test.YtbnpdghfbiacaaaMo
namespace Go.Proofs.Ytbnpdghfbiacaaa
open Go Go.RowKit Go.PlainAid

theorem isCounter_any (n : Int) (w : World) : Calls Try.prog 56 #[.int .i64 n] w fun e w' => e = .returned (.bool (decide (cntI n))) ∧ w = w' := by
  go_enter Try.func56, Try.ntmps56
  by_cases h1 : 1 ≤ n <;> by_cases h2 : n ≤ 1099511627776
  all_goals
    have HS := Lib.hid (show decide (cntI n) = decide (1 ≤ n ∧ n ≤ 1099511627776) from rfl)
    go_wp2
    go_ret
    exact ⟨ret_bool rfl (by rw [HS.out]; simp [h1, h2]), rfl⟩
theorem isNode_any (n : Int) (w : World) : Calls Try.prog 19 #[.int .i64 n] w fun e w' => e = .returned (.bool (decide (nodeI n))) ∧ w = w' := by
  go_enter Try.func19, Try.ntmps19
  by_cases h1 : 0 ≤ n <;> by_cases h2 : n < 8
  all_goals
    have HS := Lib.hid (show decide (nodeI n) = decide (0 ≤ n ∧ n < 8) from rfl)
    go_wp2
    go_ret
    exact ⟨ret_bool rfl (by rw [HS.out]; simp [h1, h2]), rfl⟩
theorem ent55 : Ent 55 := enters_of Try.func55 (by kernel_rfl) rfl
set_option maxRecDepth 100000 in
theorem counter1_any (ac ga off : Nat) (get : Msg → Int) (set : Msg → Int → Msg) (N : NumAt off get set) (eg : ∀ (args : Array Value) (w : World), (callFunc ga args).run Try.prog w = .ok (.enter ga args) w) (hat : AtOk ga off) (W : World)
    (ha : Bk W ac 68 [.func (.func ga) #[] #[]]) (g : Nat) (m : Msg) (sv : Value) (hm : Bk W g 29 (mcells m sv)) :
    Calls Try.prog 55 #[.pointer (some ⟨g, 0, none⟩), .pointer (some ⟨ac, 0, none⟩)] W fun e w' => e = .returned (.bool (decide (cntI (get m)))) ∧ Kp No W w' := by
  have z2 : W.cell? ⟨ac, 0, none⟩ = some (.func (.func ga) #[] #[]) := ha.cell 0
  have z3 : W.cell? ⟨g, off, none⟩ = some (.int .i64 (get m)) := (hm.cell off).trans (N.cell m sv)
  generalize get m = x at *
  clear ha hm
  go_enter Try.func55, Try.ntmps55
  go_wp2_with (first | (go_at_fn ga; refine (hat _ g).mono ?_; rintro e w' ⟨rfl, rfl⟩) | (go_at_call 56; refine (isCounter_any x _).mono ?_; rintro e w' ⟨rfl, rfl⟩))
  go_ret
  exact ⟨rfl, Kp.refl _ _⟩
/-- a field is stored -/
theorem setFld {W w1 : World} {k : Nat} {v : FV} {s : Fld} {cs : List Value} (B : Bk w1 k 55 cs) (hc : cs.length = 3) (hk : W.heap.size ≤ k) (K : Kp No W w1) (hv : FOk w1 v s) :
    Bk (((w1.setCell ⟨k, 0, none⟩ (.func (.func v.wn) #[] v.wc)).setCell ⟨k, 1, none⟩ (.func (.func v.rn) #[] v.rc)).setCell ⟨k, 2, none⟩ (.func (.func v.fn) #[] v.fc)) k 55 v.cells ∧
    FOk (((w1.setCell ⟨k, 0, none⟩ (.func (.func v.wn) #[] v.wc)).setCell ⟨k, 1, none⟩ (.func (.func v.rn) #[] v.rc)).setCell ⟨k, 2, none⟩ (.func (.func v.fn) #[] v.fc)) v s ∧
    Kp No W (((w1.setCell ⟨k, 0, none⟩ (.func (.func v.wn) #[] v.wc)).setCell ⟨k, 1, none⟩ (.func (.func v.rn) #[] v.rc)).setCell ⟨k, 2, none⟩ (.func (.func v.fn) #[] v.fc)) := by
  have b2 := ((B.set_ 0 (.func (.func v.wn) #[] v.wc)).set_ 1 (.func (.func v.rn) #[] v.rc)).set_ 2 (.func (.func v.fn) #[] v.fc)
  have k1 : Kp (One k) w1 _ := (((Kp.refl (One k) w1).set (.inl rfl) 0 (.func (.func v.wn) #[] v.wc)).set (.inl rfl) 1 (.func (.func v.rn) #[] v.rc)).set (.inl rfl) 2 (.func (.func v.fn) #[] v.fc)
  have e : ((cs.set 0 (.func (.func v.wn) #[] v.wc)).set 1 (.func (.func v.rn) #[] v.rc)).set 2 (.func (.func v.fn) #[] v.fc) = v.cells := by
    match cs, hc with
    | [a, b, c], _ => rfl
  rw [e] at b2
  have ht : Tys (One k) w1 [55] := fun i hi _ => by
    have e1 : i = k := hi
    subst e1
    exact ⟨_, _, B, List.mem_singleton.2 rfl⟩
  refine ⟨b2, hv.stay (Stay.of_kp k1 ht (by decide)), ?_⟩
  exact ((K.set (.inr hk) 0 _).set (.inr hk) 1 _).set (.inr hk) 2 _
set_option maxRecDepth 100000 in
set_option maxHeartbeats 1000000 in
theorem counter_any (ga off : Nat) (get : Msg → Int) (set : Msg → Int → Msg) (N : NumAt off get set) (eg : Ent ga) (hat : AtOk ga off) (W : World) :
    Calls Try.prog 28 #[.func (.func ga) #[] #[]] W (MkF W (fN get set fun m => decide (cntI (get m)))) := by
  have hmf : ∀ (fn : Fn) (first cap : Array Value) (w : World), (Instr.makeFunc fn first cap).run Try.prog w = .ok (.func fn first cap) w := fun _ _ _ _ => rfl
  have pn : ∀ W1 : World, Bk W1 W.heap.size 68 [.func (.func ga) #[] #[]] → Calls Try.prog 31 #[.func (.func ga) #[] #[], .func (.func 55) #[] #[.pointer (some ⟨W.heap.size, 0, none⟩)]] W1 (MkF W1 (fN get set fun m => decide (cntI (get m)))) := fun W1 hb =>
    number_any ga off get set _ N eg hat _ _ W1 ⟨ent55, fun W2 hs g m sv hm _ => counter1_any _ ga off get set N eg hat W2 (hs.bk hb (by decide)) g m sv hm.1⟩
  clear N eg hat
  go_enter Try.func28, Try.ntmps28
  go_wp2_with fail
  refine (pn _ ((Bk.new' rfl rfl).alloc _)).mono ?_
  rintro e w1 ⟨v, rfl, hv, k1⟩
  have K : Kp No W w1 := (((Kp.refl No W).alloc _).alloc _).trans k1
  have B1 := ((Bk.new' (by simp) rfl : Bk ((W.alloc (.cells #[.func (.func ga) #[] #[]] 68)).alloc (.cells #[.nilFunc, .nilFunc, .nilFunc] 55)) (W.heap.size + 1) 55 [.nilFunc, .nilFunc, .nilFunc]).no k1)
  have z0 := B1.cell 0
  have z1 := B1.cell 1
  have z2 := B1.cell 2
  have zf := B1.frozen
  have HK := Lib.hid K; have HV := Lib.hid hv; have HB := Lib.hid B1
  clear K hv k1 pn B1
  unfold FV.cells
  go_wp2
  obtain ⟨B2, F2, K2⟩ := setFld HB.out rfl (Nat.le_succ _) HK.out HV.out
  have y0 := B2.cell 0
  have y1 := B2.cell 1
  have y2 := B2.cell 2
  simp only [FV.cells] at y0 y1 y2
  generalize (((w1.setCell ⟨W.heap.size + 1, 0, none⟩ (.func (.func v.wn) #[] v.wc)).setCell ⟨W.heap.size + 1, 1, none⟩ (.func (.func v.rn) #[] v.rc)).setCell ⟨W.heap.size + 1, 2, none⟩ (.func (.func v.fn) #[] v.fc)) = w2 at *
  refine bodyPost_ret (v := .agg v.cells.toArray) (by simp [results, Try.results28, go_sem, y0, y1, y2, FV.cells]) rfl ⟨v, rfl, F2, K2⟩
end Go.Proofs.Ytbnpdghfbiacaaa
