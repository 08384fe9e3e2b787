/- The fields that are texts and flags, by contract (wire). No condition beyond what each theorem states. -/
import Derived.Test.YtbnpdghfbiacaaaMf
namespace Go.Proofs.Ytbnpdghfbiacaaa
open Go Go.RowKit Go.PlainAid

theorem entP1 : Ent 77 := enters_of Try.func77 (by kernel_rfl) rfl
theorem entP2 : Ent 78 := enters_of Try.func78 (by kernel_rfl) rfl
theorem entP3 : Ent 79 := enters_of Try.func79 (by kernel_rfl) rfl
set_option maxRecDepth 100000 in
set_option maxHeartbeats 1000000 in
theorem path1_any (pc : Nat) (W : World) (hp : Bk W pc 92 [.func (.func 75) #[] #[]])
    (g : Nat) (m : Msg) (sv : Value) (b B : Nat) (u : Value) (l : List UInt8) (hm : MsgB W g m sv) (hs : (textS m.path).length ≤ 10000) (hw : WrB W b B u l) (hB : B ≤ W.heap.size) (hl : l.length ≤ 100000) :
    Calls Try.prog 77 #[.pointer (some ⟨b, 0, none⟩), .pointer (some ⟨g, 0, none⟩), .pointer (some ⟨pc, 0, none⟩)] W fun e w' => e = .returned (.tuple #[]) ∧ WrAft W b B u (l ++ textS m.path) w' := by
  have hsz : (⟨m.path.toArray⟩ : ByteArray).size = m.path.length := by simp [ByteArray.size]
  have pn := wtext_any b B u l ⟨m.path.toArray⟩ W.drew hw hB (by omega) (by rw [hsz]; simp only [textS, List.length_append] at hs; omega)
  have hq : ∀ w', WrAft W.drew b B u (l ++ numS (⟨m.path.toArray⟩ : ByteArray).size ++ (⟨m.path.toArray⟩ : ByteArray).data.toList) w' → WrAft W b B u (l ++ textS m.path) w' := fun w' h => by
    rw [hsz] at h
    have e : l ++ textS m.path = l ++ numS m.path.length ++ (⟨m.path.toArray⟩ : ByteArray).data.toList := by simp [textS]
    rw [e]
    exact WrAft.then_ ((Kp.refl _ W).drew) (fun _ h => .inl h) h
  have z1 : W.cell? ⟨pc, 0, none⟩ = some (.func (.func 75) #[] #[]) := hp.cell 0
  have z3 : W.cell? ⟨g, 7, none⟩ = some (.string ⟨m.path.toArray⟩) := hm.1.cell 7
  have HQ := Lib.hid hq
  clear hq hsz hp hm hs hw
  generalize (⟨m.path.toArray⟩ : ByteArray) = S at *
  go_enter Try.func77, Try.ntmps77
  go_still_tail 6, (by kernel_rfl)
  change wpList _ _ _ _ _ W.drew
  generalize W.drew = W2 at *
  go_wp2_with fail
  refine pn.mono ?_
  rintro e w' ⟨rfl, h2⟩
  have H2 := Lib.hid (HQ.out _ h2)
  clear h2 pn
  go_wp2
  go_end0
  exact ⟨rfl, H2.out⟩
set_option maxRecDepth 100000 in
set_option maxHeartbeats 1000000 in
theorem path2_any (tc : Nat) (W : World) (hp : Bk W tc 94 [.func (.func 76) #[] #[]])
    (g : Nat) (m : Msg) (sv : Value) (b B : Nat) (s0 : Rd) (hm : Bk W g 29 (mcells m sv)) (ho : W.ownsRow B 3 1 sv m.stamp.length (ints m.stamp)) (hr : RdS W b s0) (hl : s0.1.length ≤ 1000) :
    Calls Try.prog 78 #[.pointer (some ⟨b, 0, none⟩), .pointer (some ⟨g, 0, none⟩), .pointer (some ⟨tc, 0, none⟩)] W fun e w' => e = .returned (.tuple #[]) ∧ RdAft W g sv b B { m with path := (rdText 200 s0).1 } (rdText 200 s0).2 w' := by
  have pn := rd_text b s0 200 W hr (by unfold maxLen; omega)
  rw [show ((200 : Nat) : Int) = 200 from rfl] at pn
  have z1 : W.cell? ⟨tc, 0, none⟩ = some (.func (.func 76) #[] #[]) := hp.cell 0
  have HM := Lib.hid hm; have HO := Lib.hid ho; have H0 := Lib.hid hr
  have hgb : g ≠ b := by obtain ⟨cs, hb⟩ := hr.rdr; exact hm.ne_ hb (by decide)
  have HN := Lib.hid hgb
  clear hm ho hr hp hgb
  go_enter Try.func78, Try.ntmps78
  go_wp2_with fail
  refine pn.mono ?_
  rintro e w' ⟨rfl, h2, K2⟩
  have B2 := HM.out.kp K2 HN.out
  have z3 : w'.cell? ⟨g, 7, none⟩ = some (.string ⟨m.path.toArray⟩) := B2.cell 7
  have zf := B2.frozen 7
  have H2 := Lib.hid h2; have HK2 := Lib.hid K2
  clear h2 pn B2 K2
  go_wp2
  go_end0
  exact ⟨rfl, rdAft_mk HM.out HO.out H0.out HK2.out H2.out rfl rfl⟩
set_option maxRecDepth 100000 in
set_option maxHeartbeats 1000000 in
theorem path_any (W : World) : Calls Try.prog 44 #[] W (MkF W (fPath vpP)) := by
  have hmf : ∀ (fn : Fn) (first cap : Array Value) (w : World), (Instr.makeFunc fn first cap).run Try.prog w = .ok (.func fn first cap) w := fun _ _ _ _ => rfl
  go_enter Try.func44, Try.ntmps44
  go_wp2
  refine bodyPost_ret (v := .agg #[.func (.func 77) #[] #[.pointer (some ⟨W.heap.size + 1, 0, none⟩)], .func (.func 78) #[] #[.pointer (some ⟨W.heap.size + 1 + 1, 0, none⟩)], .func (.func 79) #[] #[]]) (by simp [results, Try.results44, go_sem]) rfl ?_
  have K := (((Kp.refl No W).alloc (.cells #[.func (.func 77) #[] #[.pointer (some ⟨W.heap.size + 1, 0, none⟩)], .func (.func 78) #[] #[.pointer (some ⟨W.heap.size + 1 + 1, 0, none⟩)], .func (.func 79) #[] #[]] 55)).alloc (.cells #[.func (.func 75) #[] #[]] 92)).alloc (.cells #[.func (.func 76) #[] #[]] 94)
  refine ⟨⟨_, _, _, _, _, _⟩, rfl, ?_, K⟩
  have h1 : Bk (((W.alloc (.cells #[.func (.func 77) #[] #[.pointer (some ⟨W.heap.size + 1, 0, none⟩)], .func (.func 78) #[] #[.pointer (some ⟨W.heap.size + 1 + 1, 0, none⟩)], .func (.func 79) #[] #[]] 55)).alloc (.cells #[.func (.func 75) #[] #[]] 92)).alloc (.cells #[.func (.func 76) #[] #[]] 94)) (W.heap.size + 1) 92 [.func (.func 75) #[] #[]] := (Bk.new' (by simp) rfl).alloc _
  have h2 : Bk (((W.alloc (.cells #[.func (.func 77) #[] #[.pointer (some ⟨W.heap.size + 1, 0, none⟩)], .func (.func 78) #[] #[.pointer (some ⟨W.heap.size + 1 + 1, 0, none⟩)], .func (.func 79) #[] #[]] 55)).alloc (.cells #[.func (.func 75) #[] #[]] 92)).alloc (.cells #[.func (.func 76) #[] #[]] 94)) (W.heap.size + 1 + 1) 94 [.func (.func 76) #[] #[]] := Bk.new' (by simp) rfl
  exact ⟨entP1, entP2, entP3,
    fun W2 hs g m sv b B u l hm _ hsh hw hB hl => path1_any _ W2 (hs.bk h1 (by decide)) g m sv b B u l hm hsh hw hB hl,
    fun W2 hs g m sv b s0 B hm ho hr hB hl _ => path2_any _ W2 (hs.bk h2 (by decide)) g m sv b B s0 hm ho hr hl,
    fun W2 hs g m sv hm hl => pathOk_any g m sv W2 hm hl⟩

theorem entF1 : Ent 85 := enters_of Try.func85 (by kernel_rfl) rfl
theorem entF2 : Ent 86 := enters_of Try.func86 (by kernel_rfl) rfl
theorem entF3 : Ent 87 := enters_of Try.func87 (by kernel_rfl) rfl
set_option maxRecDepth 100000 in
set_option maxHeartbeats 1000000 in
theorem fresh1_any (W : World) (g : Nat) (m : Msg) (sv : Value) (b B : Nat) (u : Value) (l : List UInt8) (hm : MsgB W g m sv) (hw : WrB W b B u l) (hB : B ≤ W.heap.size) (hl : l.length ≤ 100000) :
    Calls Try.prog 85 #[.pointer (some ⟨b, 0, none⟩), .pointer (some ⟨g, 0, none⟩)] W fun e w' => e = .returned (.tuple #[]) ∧ WrAft W b B u (l ++ nS (if m.fresh then 1 else 0)) w' := by
  have pn := wnum_any b B u l (if m.fresh then 1 else 0) W hw hB (by omega) (by split <;> omega)
  have z3 : W.cell? ⟨g, 11, none⟩ = some (.bool m.fresh) := hm.1.cell 11
  clear hm hw
  cases hf : m.fresh <;> rw [hf] at pn z3 <;> simp only [if_true, Bool.false_eq_true, if_false] at pn
  all_goals
    clear hf
    go_enter Try.func85, Try.ntmps85
    go_wp2_with (go_at_call 25; refine pn.mono ?_; rintro e w' ⟨rfl, h2⟩; have H2 := Lib.hid h2; clear h2)
    go_end0
    exact ⟨rfl, H2.out⟩
set_option maxRecDepth 100000 in
set_option maxHeartbeats 1000000 in
theorem fresh2_any (W : World) (g : Nat) (m : Msg) (sv : Value) (b B : Nat) (s0 : Rd) (hm : Bk W g 29 (mcells m sv)) (ho : W.ownsRow B 3 1 sv m.stamp.length (ints m.stamp)) (hr : RdS W b s0) (hl : s0.1.length ≤ 1000) :
    Calls Try.prog 86 #[.pointer (some ⟨b, 0, none⟩), .pointer (some ⟨g, 0, none⟩)] W fun e w' => e = .returned (.tuple #[]) ∧ RdAft W g sv b B { m with fresh := decide ((rdNum s0).1 = 1) } (rdNum s0).2 w' := by
  have pn := rd_num b s0 W hr (by unfold maxLen; omega)
  have HM := Lib.hid hm; have HO := Lib.hid ho; have H0 := Lib.hid hr
  have hgb : g ≠ b := by obtain ⟨cs, hb⟩ := hr.rdr; exact hm.ne_ hb (by decide)
  have HN := Lib.hid hgb
  clear hm ho hr hgb
  have HX := Lib.hid (show ∀ W1 : World, Kp (One b) W W1 → RdS W1 b (rdNum s0).2 → RdAft W g sv b B { m with fresh := decide ((rdNum s0).1 = 1) } (rdNum s0).2 (W1.setCell ⟨g, 11, none⟩ (.bool (((rdNum s0).1 : Int) == 1))) from fun W1 k1 r1 => by
    have e : (((rdNum s0).1 : Int) == 1) = decide ((rdNum s0).1 = 1) := by
      rw [Bool.eq_iff_iff, beq_iff_eq, decide_eq_true_iff]; omega
    rw [e]
    exact rdAft_mk HM.out HO.out H0.out k1 r1 rfl rfl)
  go_enter Try.func86, Try.ntmps86
  go_wp2_with fail
  refine pn.mono ?_
  rintro e w' ⟨rfl, h2, K2⟩
  have B2 := HM.out.kp K2 HN.out
  have z3 : w'.cell? ⟨g, 11, none⟩ = some (.bool m.fresh) := B2.cell 11
  have zf := B2.frozen 11
  have H2 := Lib.hid h2; have HK2 := Lib.hid K2
  clear h2 pn B2 K2
  by_cases h1 : (rdNum s0).1 = 1
  all_goals
    first
      | (have d1 : (((rdNum s0).1 : Int) == 1) = true := by rw [beq_iff_eq]; omega)
      | (have d1 : (((rdNum s0).1 : Int) == 1) = false := by rw [beq_eq_false_iff_ne]; omega)
    have HY := Lib.hid (HX.out _ HK2.out H2.out)
    rw [d1] at HY
    clear h1
    go_wp2
    go_end0
    exact ⟨rfl, HY.out⟩
set_option maxRecDepth 100000 in
set_option maxHeartbeats 1000000 in
theorem fresh_any (W : World) : Calls Try.prog 63 #[] W (MkF W fFresh) := by
  go_enter Try.func63, Try.ntmps63
  go_wp2
  refine bodyPost_ret (v := .agg #[.func (.func 85) #[] #[], .func (.func 86) #[] #[], .func (.func 87) #[] #[]]) (by simp [results, Try.results63, go_sem]) rfl ?_
  refine ⟨⟨_, _, _, _, _, _⟩, rfl, ?_, (Kp.refl No W).alloc _⟩
  exact ⟨entF1, entF2, entF3,
    fun W2 hs g m sv b B u l hm _ hsh hw hB hl => fresh1_any W2 g m sv b B u l hm hw hB hl,
    fun W2 hs g m sv b s0 B hm ho hr hB hl _ => fresh2_any W2 g m sv b B s0 hm ho hr hl,
    fun W2 hs g m sv hm hl => (always_any _ W2).mono fun e w' ⟨h, h2⟩ => ⟨h, by subst h2; exact Kp.refl _ _⟩⟩
theorem entA1 : Ent 64 := enters_of Try.func64 (by kernel_rfl) rfl
theorem entA2 : Ent 65 := enters_of Try.func65 (by kernel_rfl) rfl
theorem entA3 : Ent 66 := enters_of Try.func66 (by kernel_rfl) rfl
theorem asked1_any (x y : Value) (w : World) : Calls Try.prog 64 #[x, y] w fun e w' => e = .returned (.tuple #[]) ∧ w = w' := by
  go_enter Try.func64, Try.ntmps64
  go_wp2
  go_end0
  exact ⟨rfl, rfl⟩
theorem asked2_any (x y : Value) (w : World) : Calls Try.prog 65 #[x, y] w fun e w' => e = .returned (.tuple #[]) ∧ w = w' := by
  go_enter Try.func65, Try.ntmps65
  go_wp2
  go_end0
  exact ⟨rfl, rfl⟩
/-- the field of a verb that is none -/
theorem none_ok (w : World) : FOk w ⟨64, #[], 65, #[], 66, #[]⟩ fNone :=
  ⟨entA1, entA2, entA3,
    fun W2 hs g m sv b B u l hm _ hsh hw hB hl => (asked1_any _ _ W2).mono fun e w' ⟨h, h2⟩ => ⟨h, by subst h2; simpa [fNone] using WrAft.start hw⟩,
    fun W2 hs g m sv b s0 B hm ho hr hB hl _ => (asked2_any _ _ W2).mono fun e w' ⟨h, h2⟩ => ⟨h, by subst h2; exact ⟨sv, hm, ho, hr, Kp.refl _ _, fun k e => .inl e⟩⟩,
    fun W2 hs g m sv hm hl => (never_any _ W2).mono fun e w' ⟨h, h2⟩ => ⟨h, by subst h2; exact Kp.refl _ _⟩⟩
end Go.Proofs.Ytbnpdghfbiacaaa
