/- The fields that are numbers of a type of their own (wire). No condition beyond what each theorem states. -/
import Derived.Test.YtbnpdghfbiacaaaMp
import Derived.Deep.QuietTactic
import Derived.BigQuiet
namespace Go.Proofs.Ytbnpdghfbiacaaa
open Go Go.RowKit Go.PlainAid

theorem entVerb1 : Ent 59 := enters_of Try.func59 (by kernel_rfl) rfl
theorem entVerb2 : Ent 60 := enters_of Try.func60 (by kernel_rfl) rfl
theorem entVerb3 : Ent 61 := enters_of Try.func61 (by kernel_rfl) rfl
set_option maxRecDepth 100000 in
set_option maxHeartbeats 1000000 in
theorem castVerb1_any (ac ga off : Nat) (get : Msg → Int) (set : Msg → Int → Msg) (N : NumAt off get set) (eg : ∀ (args : Array Value) (w : World), (callFunc ga args).run Try.prog w = .ok (.enter ga args) w) (hat : AtOk ga off) (W : World)
    (ha : Bk W ac 71 [.func (.func ga) #[] #[]])
    (g : Nat) (m : Msg) (sv : Value) (b B : Nat) (u : Value) (l : List UInt8) (hm : MsgB W g m sv) (hr : Rng m) (hw : WrB W b B u l) (hB : B ≤ W.heap.size) (hl : l.length ≤ 100000) :
    Calls Try.prog 59 #[.pointer (some ⟨b, 0, none⟩), .pointer (some ⟨g, 0, none⟩), .pointer (some ⟨ac, 0, none⟩)] W fun e w' => e = .returned (.tuple #[]) ∧ WrAft W b B u (l ++ nS (get m)) w' := by
  have pn := wnum_any b B u l (get m) W hw hB (by omega) (N.rng m hr)
  have z2 : W.cell? ⟨ac, 0, none⟩ = some (.func (.func ga) #[] #[]) := ha.cell 0
  have z3 : W.cell? ⟨g, off, none⟩ = some (.int .i64 (get m)) := (hm.1.cell off).trans (N.cell m sv)
  generalize get m = x at *
  clear ha hm hr hw
  go_enter Try.func59, Try.ntmps59
  go_wp2_with (first | (go_at_fn ga; refine (hat _ g).mono ?_; rintro e w' ⟨rfl, rfl⟩) | (go_at_call 25; refine pn.mono ?_; rintro e w' ⟨rfl, h2⟩; have H2 := Lib.hid h2; clear h2))
  go_end0
  exact ⟨rfl, H2.out⟩
set_option maxRecDepth 100000 in
set_option maxHeartbeats 1000000 in
theorem castVerb2_any (ac ga off : Nat) (get : Msg → Int) (set : Msg → Int → Msg) (N : NumAt off get set) (eg : ∀ (args : Array Value) (w : World), (callFunc ga args).run Try.prog w = .ok (.enter ga args) w) (hat : AtOk ga off) (W : World)
    (ha : Bk W ac 71 [.func (.func ga) #[] #[]])
    (g : Nat) (m : Msg) (sv : Value) (b B : Nat) (s0 : Rd) (hm : Bk W g 29 (mcells m sv)) (ho : W.ownsRow B 3 1 sv m.stamp.length (ints m.stamp)) (hr : RdS W b s0) (hl : s0.1.length ≤ 1000) :
    Calls Try.prog 60 #[.pointer (some ⟨b, 0, none⟩), .pointer (some ⟨g, 0, none⟩), .pointer (some ⟨ac, 0, none⟩)] W fun e w' => e = .returned (.tuple #[]) ∧ RdAft W g sv b B (set m ((rdNum s0).1 : Int)) (rdNum s0).2 w' := by
  have pn := rd_num b s0 W hr (by unfold maxLen; omega)
  have z2 : W.cell? ⟨ac, 0, none⟩ = some (.func (.func ga) #[] #[]) := ha.cell 0
  have HM := Lib.hid hm; have HO := Lib.hid ho; have H0 := Lib.hid hr
  have hgb : g ≠ b := by obtain ⟨cs, hb⟩ := hr.rdr; exact hm.ne_ hb (by decide)
  have HN := Lib.hid hgb
  clear hm ho hr ha hgb
  go_enter Try.func60, Try.ntmps60
  go_wp2_with (go_at_fn ga; refine (hat _ g).mono ?_; rintro e w' ⟨rfl, rfl⟩)
  refine pn.mono ?_
  rintro e w' ⟨rfl, h2, K2⟩
  have B2 := HM.out.kp K2 HN.out
  have z3 : w'.cell? ⟨g, off, none⟩ = some (.int .i64 (get m)) := (B2.cell off).trans (N.cell m sv)
  have zf := B2.frozen off
  have H2 := Lib.hid h2; have HK2 := Lib.hid K2
  clear h2 pn B2 K2
  go_wp2
  go_end0
  exact ⟨rfl, rdAft_mk HM.out HO.out H0.out HK2.out H2.out (N.set_ m sv _) (N.stamp m _)⟩
set_option maxRecDepth 100000 in
set_option maxHeartbeats 1000000 in
theorem castVerb3_any (fcl ac ga fn off : Nat) (get : Msg → Int) (set : Msg → Int → Msg) (N : NumAt off get set) (eg : ∀ (args : Array Value) (w : World), (callFunc ga args).run Try.prog w = .ok (.enter ga args) w) (hat : AtOk ga off) (p : Int → Bool) (ef : ∀ (args : Array Value) (w : World), (callFunc fn args).run Try.prog w = .ok (.enter fn args) w) (hf : ∀ x W, Calls Try.prog fn #[.int .i64 x] W fun e w' => e = .returned (.bool (p x)) ∧ W = w') (W : World)
    (hc : Bk W fcl 72 [.func (.func fn) #[] #[]]) (ha : Bk W ac 71 [.func (.func ga) #[] #[]]) (g : Nat) (m : Msg) (sv : Value) (hm : Bk W g 29 (mcells m sv)) :
    Calls Try.prog 61 #[.pointer (some ⟨g, 0, none⟩), .pointer (some ⟨fcl, 0, none⟩), .pointer (some ⟨ac, 0, none⟩)] W fun e w' => e = .returned (.bool (p (get m))) ∧ Kp No W w' := by
  have z1 : W.cell? ⟨fcl, 0, none⟩ = some (.func (.func fn) #[] #[]) := hc.cell 0
  have z2 : W.cell? ⟨ac, 0, none⟩ = some (.func (.func ga) #[] #[]) := ha.cell 0
  have z3 : W.cell? ⟨g, off, none⟩ = some (.int .i64 (get m)) := (hm.cell off).trans (N.cell m sv)
  generalize get m = x at *
  clear ha hm hc
  go_enter Try.func61, Try.ntmps61
  go_wp2
  go_still_tail 7, (by kernel_rfl)
  still_call ((hat _ g).mono (by rintro e w' ⟨rfl, rfl⟩; exact ⟨rfl, rfl⟩))
  repeat still_step
  still_call ((hf x _).mono (by rintro e w' ⟨rfl, rfl⟩; exact ⟨rfl, rfl⟩))
  repeat still_step
  refine wpStill_nil ?_
  go_wp2
  go_ret
  exact ⟨rfl, (Kp.refl _ _).drew⟩
set_option maxRecDepth 100000 in
set_option maxHeartbeats 1000000 in
theorem castVerb_any (ga off : Nat) (get : Msg → Int) (set : Msg → Int → Msg) (N : NumAt off get set) (eg : Ent ga) (hat : AtOk ga off) (fn : Nat) (p : Int → Bool) (ef : Ent fn) (hf : ∀ x W, Calls Try.prog fn #[.int .i64 x] W fun e w' => e = .returned (.bool (p x)) ∧ W = w') (W : World) :
    Calls Try.prog 33 #[.func (.func ga) #[] #[], .func (.func fn) #[] #[]] W (MkF W (fN get set fun m => p (get m))) := by
  have hmf : ∀ (fn : Fn) (first cap : Array Value) (w : World), (Instr.makeFunc fn first cap).run Try.prog w = .ok (.func fn first cap) w := fun _ _ _ _ => rfl
  have HN := Lib.hid N; have HE := Lib.hid eg; have HA := Lib.hid hat; have HEF := Lib.hid ef; have HF := Lib.hid hf
  clear N eg hat ef hf
  go_enter Try.func33, Try.ntmps33
  go_wp2
  refine bodyPost_ret (v := .agg #[.func (.func 59) #[] #[.pointer (some ⟨W.heap.size, 0, none⟩)], .func (.func 60) #[] #[.pointer (some ⟨W.heap.size, 0, none⟩)], .func (.func 61) #[] #[.pointer (some ⟨W.heap.size + 1, 0, none⟩), .pointer (some ⟨W.heap.size, 0, none⟩)]]) (by simp [results, Try.results33, go_sem]) rfl ?_
  have K := (((Kp.refl No W).alloc (.cells #[.func (.func ga) #[] #[]] 71)).alloc (.cells #[.func (.func fn) #[] #[]] 72)).alloc (.cells #[.func (.func 59) #[] #[.pointer (some ⟨W.heap.size, 0, none⟩)], .func (.func 60) #[] #[.pointer (some ⟨W.heap.size, 0, none⟩)], .func (.func 61) #[] #[.pointer (some ⟨W.heap.size + 1, 0, none⟩), .pointer (some ⟨W.heap.size, 0, none⟩)]] 55)
  refine ⟨⟨_, _, _, _, _, _⟩, rfl, ?_, K⟩
  have h3 : Bk _ W.heap.size 71 [.func (.func ga) #[] #[]] := ((Bk.new' rfl rfl).alloc (.cells #[.func (.func fn) #[] #[]] 72)).alloc (.cells #[.func (.func 59) #[] #[.pointer (some ⟨W.heap.size, 0, none⟩)], .func (.func 60) #[] #[.pointer (some ⟨W.heap.size, 0, none⟩)], .func (.func 61) #[] #[.pointer (some ⟨W.heap.size + 1, 0, none⟩), .pointer (some ⟨W.heap.size, 0, none⟩)]] 55)
  have h2 : Bk (((W.alloc (.cells #[.func (.func ga) #[] #[]] 71)).alloc (.cells #[.func (.func fn) #[] #[]] 72)).alloc (.cells #[.func (.func 59) #[] #[.pointer (some ⟨W.heap.size, 0, none⟩)], .func (.func 60) #[] #[.pointer (some ⟨W.heap.size, 0, none⟩)], .func (.func 61) #[] #[.pointer (some ⟨W.heap.size + 1, 0, none⟩), .pointer (some ⟨W.heap.size, 0, none⟩)]] 55)) (W.heap.size + 1) 72 [.func (.func fn) #[] #[]] := (Bk.new' (by simp) rfl).alloc _
  exact ⟨entVerb1, entVerb2, entVerb3,
    fun W2 hs g m sv b B u l hm hr _ hw hB hl => castVerb1_any _ ga off get set HN.out HE.out HA.out W2 (hs.bk h3 (by decide)) g m sv b B u l hm hr hw hB hl,
    fun W2 hs g m sv b s0 B hm ho hr hB hl _ => castVerb2_any _ ga off get set HN.out HE.out HA.out W2 (hs.bk h3 (by decide)) g m sv b B s0 hm ho hr hl,
    fun W2 hs g m sv hm hl => castVerb3_any _ _ ga fn off get set HN.out HE.out HA.out p HEF.out HF.out W2 (hs.bk h2 (by decide)) (hs.bk h3 (by decide)) g m sv hm.1⟩

theorem entErrno1 : Ent 67 := enters_of Try.func67 (by kernel_rfl) rfl
theorem entErrno2 : Ent 68 := enters_of Try.func68 (by kernel_rfl) rfl
theorem entErrno3 : Ent 69 := enters_of Try.func69 (by kernel_rfl) rfl
set_option maxRecDepth 100000 in
set_option maxHeartbeats 1000000 in
theorem castErrno1_any (ac ga off : Nat) (get : Msg → Int) (set : Msg → Int → Msg) (N : NumAt off get set) (eg : ∀ (args : Array Value) (w : World), (callFunc ga args).run Try.prog w = .ok (.enter ga args) w) (hat : AtOk ga off) (W : World)
    (ha : Bk W ac 75 [.func (.func ga) #[] #[]])
    (g : Nat) (m : Msg) (sv : Value) (b B : Nat) (u : Value) (l : List UInt8) (hm : MsgB W g m sv) (hr : Rng m) (hw : WrB W b B u l) (hB : B ≤ W.heap.size) (hl : l.length ≤ 100000) :
    Calls Try.prog 67 #[.pointer (some ⟨b, 0, none⟩), .pointer (some ⟨g, 0, none⟩), .pointer (some ⟨ac, 0, none⟩)] W fun e w' => e = .returned (.tuple #[]) ∧ WrAft W b B u (l ++ nS (get m)) w' := by
  have pn := wnum_any b B u l (get m) W hw hB (by omega) (N.rng m hr)
  have z2 : W.cell? ⟨ac, 0, none⟩ = some (.func (.func ga) #[] #[]) := ha.cell 0
  have z3 : W.cell? ⟨g, off, none⟩ = some (.int .i64 (get m)) := (hm.1.cell off).trans (N.cell m sv)
  generalize get m = x at *
  clear ha hm hr hw
  go_enter Try.func67, Try.ntmps67
  go_wp2_with (first | (go_at_fn ga; refine (hat _ g).mono ?_; rintro e w' ⟨rfl, rfl⟩) | (go_at_call 25; refine pn.mono ?_; rintro e w' ⟨rfl, h2⟩; have H2 := Lib.hid h2; clear h2))
  go_end0
  exact ⟨rfl, H2.out⟩
set_option maxRecDepth 100000 in
set_option maxHeartbeats 1000000 in
theorem castErrno2_any (ac ga off : Nat) (get : Msg → Int) (set : Msg → Int → Msg) (N : NumAt off get set) (eg : ∀ (args : Array Value) (w : World), (callFunc ga args).run Try.prog w = .ok (.enter ga args) w) (hat : AtOk ga off) (W : World)
    (ha : Bk W ac 75 [.func (.func ga) #[] #[]])
    (g : Nat) (m : Msg) (sv : Value) (b B : Nat) (s0 : Rd) (hm : Bk W g 29 (mcells m sv)) (ho : W.ownsRow B 3 1 sv m.stamp.length (ints m.stamp)) (hr : RdS W b s0) (hl : s0.1.length ≤ 1000) :
    Calls Try.prog 68 #[.pointer (some ⟨b, 0, none⟩), .pointer (some ⟨g, 0, none⟩), .pointer (some ⟨ac, 0, none⟩)] W fun e w' => e = .returned (.tuple #[]) ∧ RdAft W g sv b B (set m ((rdNum s0).1 : Int)) (rdNum s0).2 w' := by
  have pn := rd_num b s0 W hr (by unfold maxLen; omega)
  have z2 : W.cell? ⟨ac, 0, none⟩ = some (.func (.func ga) #[] #[]) := ha.cell 0
  have HM := Lib.hid hm; have HO := Lib.hid ho; have H0 := Lib.hid hr
  have hgb : g ≠ b := by obtain ⟨cs, hb⟩ := hr.rdr; exact hm.ne_ hb (by decide)
  have HN := Lib.hid hgb
  clear hm ho hr ha hgb
  go_enter Try.func68, Try.ntmps68
  go_wp2_with (go_at_fn ga; refine (hat _ g).mono ?_; rintro e w' ⟨rfl, rfl⟩)
  refine pn.mono ?_
  rintro e w' ⟨rfl, h2, K2⟩
  have B2 := HM.out.kp K2 HN.out
  have z3 : w'.cell? ⟨g, off, none⟩ = some (.int .i64 (get m)) := (B2.cell off).trans (N.cell m sv)
  have zf := B2.frozen off
  have H2 := Lib.hid h2; have HK2 := Lib.hid K2
  clear h2 pn B2 K2
  go_wp2
  go_end0
  exact ⟨rfl, rdAft_mk HM.out HO.out H0.out HK2.out H2.out (N.set_ m sv _) (N.stamp m _)⟩
set_option maxRecDepth 100000 in
set_option maxHeartbeats 1000000 in
theorem castErrno3_any (fcl ac ga fn off : Nat) (get : Msg → Int) (set : Msg → Int → Msg) (N : NumAt off get set) (eg : ∀ (args : Array Value) (w : World), (callFunc ga args).run Try.prog w = .ok (.enter ga args) w) (hat : AtOk ga off) (p : Int → Bool) (ef : ∀ (args : Array Value) (w : World), (callFunc fn args).run Try.prog w = .ok (.enter fn args) w) (hf : ∀ x W, Calls Try.prog fn #[.int .i64 x] W fun e w' => e = .returned (.bool (p x)) ∧ W = w') (W : World)
    (hc : Bk W fcl 76 [.func (.func fn) #[] #[]]) (ha : Bk W ac 75 [.func (.func ga) #[] #[]]) (g : Nat) (m : Msg) (sv : Value) (hm : Bk W g 29 (mcells m sv)) :
    Calls Try.prog 69 #[.pointer (some ⟨g, 0, none⟩), .pointer (some ⟨fcl, 0, none⟩), .pointer (some ⟨ac, 0, none⟩)] W fun e w' => e = .returned (.bool (p (get m))) ∧ Kp No W w' := by
  have z1 : W.cell? ⟨fcl, 0, none⟩ = some (.func (.func fn) #[] #[]) := hc.cell 0
  have z2 : W.cell? ⟨ac, 0, none⟩ = some (.func (.func ga) #[] #[]) := ha.cell 0
  have z3 : W.cell? ⟨g, off, none⟩ = some (.int .i64 (get m)) := (hm.cell off).trans (N.cell m sv)
  generalize get m = x at *
  clear ha hm hc
  go_enter Try.func69, Try.ntmps69
  go_wp2
  go_still_tail 7, (by kernel_rfl)
  still_call ((hat _ g).mono (by rintro e w' ⟨rfl, rfl⟩; exact ⟨rfl, rfl⟩))
  repeat still_step
  still_call ((hf x _).mono (by rintro e w' ⟨rfl, rfl⟩; exact ⟨rfl, rfl⟩))
  repeat still_step
  refine wpStill_nil ?_
  go_wp2
  go_ret
  exact ⟨rfl, (Kp.refl _ _).drew⟩
set_option maxRecDepth 100000 in
set_option maxHeartbeats 1000000 in
theorem castErrno_any (ga off : Nat) (get : Msg → Int) (set : Msg → Int → Msg) (N : NumAt off get set) (eg : Ent ga) (hat : AtOk ga off) (fn : Nat) (p : Int → Bool) (ef : Ent fn) (hf : ∀ x W, Calls Try.prog fn #[.int .i64 x] W fun e w' => e = .returned (.bool (p x)) ∧ W = w') (W : World) :
    Calls Try.prog 37 #[.func (.func ga) #[] #[], .func (.func fn) #[] #[]] W (MkF W (fN get set fun m => p (get m))) := by
  have hmf : ∀ (fn : Fn) (first cap : Array Value) (w : World), (Instr.makeFunc fn first cap).run Try.prog w = .ok (.func fn first cap) w := fun _ _ _ _ => rfl
  have HN := Lib.hid N; have HE := Lib.hid eg; have HA := Lib.hid hat; have HEF := Lib.hid ef; have HF := Lib.hid hf
  clear N eg hat ef hf
  go_enter Try.func37, Try.ntmps37
  go_wp2
  refine bodyPost_ret (v := .agg #[.func (.func 67) #[] #[.pointer (some ⟨W.heap.size, 0, none⟩)], .func (.func 68) #[] #[.pointer (some ⟨W.heap.size, 0, none⟩)], .func (.func 69) #[] #[.pointer (some ⟨W.heap.size + 1, 0, none⟩), .pointer (some ⟨W.heap.size, 0, none⟩)]]) (by simp [results, Try.results37, go_sem]) rfl ?_
  have K := (((Kp.refl No W).alloc (.cells #[.func (.func ga) #[] #[]] 75)).alloc (.cells #[.func (.func fn) #[] #[]] 76)).alloc (.cells #[.func (.func 67) #[] #[.pointer (some ⟨W.heap.size, 0, none⟩)], .func (.func 68) #[] #[.pointer (some ⟨W.heap.size, 0, none⟩)], .func (.func 69) #[] #[.pointer (some ⟨W.heap.size + 1, 0, none⟩), .pointer (some ⟨W.heap.size, 0, none⟩)]] 55)
  refine ⟨⟨_, _, _, _, _, _⟩, rfl, ?_, K⟩
  have h3 : Bk _ W.heap.size 75 [.func (.func ga) #[] #[]] := ((Bk.new' rfl rfl).alloc (.cells #[.func (.func fn) #[] #[]] 76)).alloc (.cells #[.func (.func 67) #[] #[.pointer (some ⟨W.heap.size, 0, none⟩)], .func (.func 68) #[] #[.pointer (some ⟨W.heap.size, 0, none⟩)], .func (.func 69) #[] #[.pointer (some ⟨W.heap.size + 1, 0, none⟩), .pointer (some ⟨W.heap.size, 0, none⟩)]] 55)
  have h2 : Bk (((W.alloc (.cells #[.func (.func ga) #[] #[]] 75)).alloc (.cells #[.func (.func fn) #[] #[]] 76)).alloc (.cells #[.func (.func 67) #[] #[.pointer (some ⟨W.heap.size, 0, none⟩)], .func (.func 68) #[] #[.pointer (some ⟨W.heap.size, 0, none⟩)], .func (.func 69) #[] #[.pointer (some ⟨W.heap.size + 1, 0, none⟩), .pointer (some ⟨W.heap.size, 0, none⟩)]] 55)) (W.heap.size + 1) 76 [.func (.func fn) #[] #[]] := (Bk.new' (by simp) rfl).alloc _
  exact ⟨entErrno1, entErrno2, entErrno3,
    fun W2 hs g m sv b B u l hm hr _ hw hB hl => castErrno1_any _ ga off get set HN.out HE.out HA.out W2 (hs.bk h3 (by decide)) g m sv b B u l hm hr hw hB hl,
    fun W2 hs g m sv b s0 B hm ho hr hB hl _ => castErrno2_any _ ga off get set HN.out HE.out HA.out W2 (hs.bk h3 (by decide)) g m sv b B s0 hm ho hr hl,
    fun W2 hs g m sv hm hl => castErrno3_any _ _ ga fn off get set HN.out HE.out HA.out p HEF.out HF.out W2 (hs.bk h2 (by decide)) (hs.bk h3 (by decide)) g m sv hm.1⟩

theorem entMode1 : Ent 81 := enters_of Try.func81 (by kernel_rfl) rfl
theorem entMode2 : Ent 82 := enters_of Try.func82 (by kernel_rfl) rfl
theorem entMode3 : Ent 83 := enters_of Try.func83 (by kernel_rfl) rfl
set_option maxRecDepth 100000 in
set_option maxHeartbeats 1000000 in
theorem castMode1_any (ac ga off : Nat) (get : Msg → Int) (set : Msg → Int → Msg) (N : NumAt off get set) (eg : ∀ (args : Array Value) (w : World), (callFunc ga args).run Try.prog w = .ok (.enter ga args) w) (hat : AtOk ga off) (W : World)
    (ha : Bk W ac 79 [.func (.func ga) #[] #[]])
    (g : Nat) (m : Msg) (sv : Value) (b B : Nat) (u : Value) (l : List UInt8) (hm : MsgB W g m sv) (hr : Rng m) (hw : WrB W b B u l) (hB : B ≤ W.heap.size) (hl : l.length ≤ 100000) :
    Calls Try.prog 81 #[.pointer (some ⟨b, 0, none⟩), .pointer (some ⟨g, 0, none⟩), .pointer (some ⟨ac, 0, none⟩)] W fun e w' => e = .returned (.tuple #[]) ∧ WrAft W b B u (l ++ nS (get m)) w' := by
  have pn := wnum_any b B u l (get m) W hw hB (by omega) (N.rng m hr)
  have z2 : W.cell? ⟨ac, 0, none⟩ = some (.func (.func ga) #[] #[]) := ha.cell 0
  have z3 : W.cell? ⟨g, off, none⟩ = some (.int .i64 (get m)) := (hm.1.cell off).trans (N.cell m sv)
  generalize get m = x at *
  clear ha hm hr hw
  go_enter Try.func81, Try.ntmps81
  go_wp2_with (first | (go_at_fn ga; refine (hat _ g).mono ?_; rintro e w' ⟨rfl, rfl⟩) | (go_at_call 25; refine pn.mono ?_; rintro e w' ⟨rfl, h2⟩; have H2 := Lib.hid h2; clear h2))
  go_end0
  exact ⟨rfl, H2.out⟩
set_option maxRecDepth 100000 in
set_option maxHeartbeats 1000000 in
theorem castMode2_any (ac ga off : Nat) (get : Msg → Int) (set : Msg → Int → Msg) (N : NumAt off get set) (eg : ∀ (args : Array Value) (w : World), (callFunc ga args).run Try.prog w = .ok (.enter ga args) w) (hat : AtOk ga off) (W : World)
    (ha : Bk W ac 79 [.func (.func ga) #[] #[]])
    (g : Nat) (m : Msg) (sv : Value) (b B : Nat) (s0 : Rd) (hm : Bk W g 29 (mcells m sv)) (ho : W.ownsRow B 3 1 sv m.stamp.length (ints m.stamp)) (hr : RdS W b s0) (hl : s0.1.length ≤ 1000) :
    Calls Try.prog 82 #[.pointer (some ⟨b, 0, none⟩), .pointer (some ⟨g, 0, none⟩), .pointer (some ⟨ac, 0, none⟩)] W fun e w' => e = .returned (.tuple #[]) ∧ RdAft W g sv b B (set m ((rdNum s0).1 : Int)) (rdNum s0).2 w' := by
  have pn := rd_num b s0 W hr (by unfold maxLen; omega)
  have z2 : W.cell? ⟨ac, 0, none⟩ = some (.func (.func ga) #[] #[]) := ha.cell 0
  have HM := Lib.hid hm; have HO := Lib.hid ho; have H0 := Lib.hid hr
  have hgb : g ≠ b := by obtain ⟨cs, hb⟩ := hr.rdr; exact hm.ne_ hb (by decide)
  have HN := Lib.hid hgb
  clear hm ho hr ha hgb
  go_enter Try.func82, Try.ntmps82
  go_wp2_with (go_at_fn ga; refine (hat _ g).mono ?_; rintro e w' ⟨rfl, rfl⟩)
  refine pn.mono ?_
  rintro e w' ⟨rfl, h2, K2⟩
  have B2 := HM.out.kp K2 HN.out
  have z3 : w'.cell? ⟨g, off, none⟩ = some (.int .i64 (get m)) := (B2.cell off).trans (N.cell m sv)
  have zf := B2.frozen off
  have H2 := Lib.hid h2; have HK2 := Lib.hid K2
  clear h2 pn B2 K2
  go_wp2
  go_end0
  exact ⟨rfl, rdAft_mk HM.out HO.out H0.out HK2.out H2.out (N.set_ m sv _) (N.stamp m _)⟩
set_option maxRecDepth 100000 in
set_option maxHeartbeats 1000000 in
theorem castMode3_any (fcl ac ga fn off : Nat) (get : Msg → Int) (set : Msg → Int → Msg) (N : NumAt off get set) (eg : ∀ (args : Array Value) (w : World), (callFunc ga args).run Try.prog w = .ok (.enter ga args) w) (hat : AtOk ga off) (p : Int → Bool) (ef : ∀ (args : Array Value) (w : World), (callFunc fn args).run Try.prog w = .ok (.enter fn args) w) (hf : ∀ x W, Calls Try.prog fn #[.int .i64 x] W fun e w' => e = .returned (.bool (p x)) ∧ W = w') (W : World)
    (hc : Bk W fcl 80 [.func (.func fn) #[] #[]]) (ha : Bk W ac 79 [.func (.func ga) #[] #[]]) (g : Nat) (m : Msg) (sv : Value) (hm : Bk W g 29 (mcells m sv)) :
    Calls Try.prog 83 #[.pointer (some ⟨g, 0, none⟩), .pointer (some ⟨fcl, 0, none⟩), .pointer (some ⟨ac, 0, none⟩)] W fun e w' => e = .returned (.bool (p (get m))) ∧ Kp No W w' := by
  have z1 : W.cell? ⟨fcl, 0, none⟩ = some (.func (.func fn) #[] #[]) := hc.cell 0
  have z2 : W.cell? ⟨ac, 0, none⟩ = some (.func (.func ga) #[] #[]) := ha.cell 0
  have z3 : W.cell? ⟨g, off, none⟩ = some (.int .i64 (get m)) := (hm.cell off).trans (N.cell m sv)
  generalize get m = x at *
  clear ha hm hc
  go_enter Try.func83, Try.ntmps83
  go_wp2
  go_still_tail 7, (by kernel_rfl)
  still_call ((hat _ g).mono (by rintro e w' ⟨rfl, rfl⟩; exact ⟨rfl, rfl⟩))
  repeat still_step
  still_call ((hf x _).mono (by rintro e w' ⟨rfl, rfl⟩; exact ⟨rfl, rfl⟩))
  repeat still_step
  refine wpStill_nil ?_
  go_wp2
  go_ret
  exact ⟨rfl, (Kp.refl _ _).drew⟩
set_option maxRecDepth 100000 in
set_option maxHeartbeats 1000000 in
theorem castMode_any (ga off : Nat) (get : Msg → Int) (set : Msg → Int → Msg) (N : NumAt off get set) (eg : Ent ga) (hat : AtOk ga off) (fn : Nat) (p : Int → Bool) (ef : Ent fn) (hf : ∀ x W, Calls Try.prog fn #[.int .i64 x] W fun e w' => e = .returned (.bool (p x)) ∧ W = w') (W : World) :
    Calls Try.prog 49 #[.func (.func ga) #[] #[], .func (.func fn) #[] #[]] W (MkF W (fN get set fun m => p (get m))) := by
  have hmf : ∀ (fn : Fn) (first cap : Array Value) (w : World), (Instr.makeFunc fn first cap).run Try.prog w = .ok (.func fn first cap) w := fun _ _ _ _ => rfl
  have HN := Lib.hid N; have HE := Lib.hid eg; have HA := Lib.hid hat; have HEF := Lib.hid ef; have HF := Lib.hid hf
  clear N eg hat ef hf
  go_enter Try.func49, Try.ntmps49
  go_wp2
  refine bodyPost_ret (v := .agg #[.func (.func 81) #[] #[.pointer (some ⟨W.heap.size, 0, none⟩)], .func (.func 82) #[] #[.pointer (some ⟨W.heap.size, 0, none⟩)], .func (.func 83) #[] #[.pointer (some ⟨W.heap.size + 1, 0, none⟩), .pointer (some ⟨W.heap.size, 0, none⟩)]]) (by simp [results, Try.results49, go_sem]) rfl ?_
  have K := (((Kp.refl No W).alloc (.cells #[.func (.func ga) #[] #[]] 79)).alloc (.cells #[.func (.func fn) #[] #[]] 80)).alloc (.cells #[.func (.func 81) #[] #[.pointer (some ⟨W.heap.size, 0, none⟩)], .func (.func 82) #[] #[.pointer (some ⟨W.heap.size, 0, none⟩)], .func (.func 83) #[] #[.pointer (some ⟨W.heap.size + 1, 0, none⟩), .pointer (some ⟨W.heap.size, 0, none⟩)]] 55)
  refine ⟨⟨_, _, _, _, _, _⟩, rfl, ?_, K⟩
  have h3 : Bk _ W.heap.size 79 [.func (.func ga) #[] #[]] := ((Bk.new' rfl rfl).alloc (.cells #[.func (.func fn) #[] #[]] 80)).alloc (.cells #[.func (.func 81) #[] #[.pointer (some ⟨W.heap.size, 0, none⟩)], .func (.func 82) #[] #[.pointer (some ⟨W.heap.size, 0, none⟩)], .func (.func 83) #[] #[.pointer (some ⟨W.heap.size + 1, 0, none⟩), .pointer (some ⟨W.heap.size, 0, none⟩)]] 55)
  have h2 : Bk (((W.alloc (.cells #[.func (.func ga) #[] #[]] 79)).alloc (.cells #[.func (.func fn) #[] #[]] 80)).alloc (.cells #[.func (.func 81) #[] #[.pointer (some ⟨W.heap.size, 0, none⟩)], .func (.func 82) #[] #[.pointer (some ⟨W.heap.size, 0, none⟩)], .func (.func 83) #[] #[.pointer (some ⟨W.heap.size + 1, 0, none⟩), .pointer (some ⟨W.heap.size, 0, none⟩)]] 55)) (W.heap.size + 1) 80 [.func (.func fn) #[] #[]] := (Bk.new' (by simp) rfl).alloc _
  exact ⟨entMode1, entMode2, entMode3,
    fun W2 hs g m sv b B u l hm hr _ hw hB hl => castMode1_any _ ga off get set HN.out HE.out HA.out W2 (hs.bk h3 (by decide)) g m sv b B u l hm hr hw hB hl,
    fun W2 hs g m sv b s0 B hm ho hr hB hl _ => castMode2_any _ ga off get set HN.out HE.out HA.out W2 (hs.bk h3 (by decide)) g m sv b B s0 hm ho hr hl,
    fun W2 hs g m sv hm hl => castMode3_any _ _ ga fn off get set HN.out HE.out HA.out p HEF.out HF.out W2 (hs.bk h2 (by decide)) (hs.bk h3 (by decide)) g m sv hm.1⟩
end Go.Proofs.Ytbnpdghfbiacaaa
