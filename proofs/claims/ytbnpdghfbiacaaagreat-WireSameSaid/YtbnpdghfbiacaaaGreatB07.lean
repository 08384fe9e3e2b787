/- Several texts of this claim in one. No condition beyond what each theorem states. -/
import Derived.Test.YtbnpdghfbiacaaaGreatB05
import Derived.Deep.QuietTactic
import Derived.BigQuiet
import Derived.Test.YtbnpdghfbiacaaaGreatB06
/- The fields that are numbers of a type of their own (wire). No condition beyond what each theorem states. -/
namespace Go.Proofs.YtbnpdghfbiacaaaGreat
open Go Go.RowKit Go.PlainAid

theorem entVerb1 : Ent 85 := enters_of Tryz.func85 (by kernel_rfl) rfl
theorem entVerb2 : Ent 86 := enters_of Tryz.func86 (by kernel_rfl) rfl
theorem entVerb3 : Ent 87 := enters_of Tryz.func87 (by kernel_rfl) rfl
set_option maxRecDepth 100000 in
set_option maxHeartbeats 1000000 in
theorem castVerb1_any (ac ga off : Nat) (get : Msg → Int) (set : Msg → Int → Msg) (N : NumAt off get set) (eg : ∀ (args : Array Value) (w : World), (callFunc ga args).run Tryz.prog w = .ok (.enter ga args) w) (hat : AtOk ga off) (W : World)
    (ha : Bk W ac 86 [.func (.func ga) #[] #[]])
    (g : Nat) (m : Msg) (sv : Value) (b B : Nat) (u : Value) (l : List UInt8) (hm : MsgB W g m sv) (hr : Rng m) (hw : WrB W b B u l) (hB : B ≤ W.heap.size) (hl : l.length ≤ 100000) :
    Calls Tryz.prog 85 #[.pointer (some ⟨b, 0, none⟩), .pointer (some ⟨g, 0, none⟩), .pointer (some ⟨ac, 0, none⟩)] W fun e w' => e = .returned (.tuple #[]) ∧ WrAft W b B u (l ++ nS (get m)) w' := by
  have pn := wnum_any b B u l (get m) W hw hB (by omega) (N.rng m hr)
  have z2 : W.cell? ⟨ac, 0, none⟩ = some (.func (.func ga) #[] #[]) := ha.cell 0
  have z3 : W.cell? ⟨g, off, none⟩ = some (.int .i64 (get m)) := (hm.1.cell off).trans (N.cell m sv)
  generalize get m = x at *
  clear ha hm hr hw
  go_enter Tryz.func85, Tryz.ntmps85
  go_wp2_with (first | (go_at_fn ga; refine (hat _ g).mono ?_; rintro e w' ⟨rfl, rfl⟩) | (go_at_call 42; refine pn.mono ?_; rintro e w' ⟨rfl, h2⟩; have H2 := Lib.hid h2; clear h2))
  go_end0
  exact ⟨rfl, H2.out⟩
set_option maxRecDepth 100000 in
set_option maxHeartbeats 1000000 in
theorem castVerb2_any (ac ga off : Nat) (get : Msg → Int) (set : Msg → Int → Msg) (N : NumAt off get set) (eg : ∀ (args : Array Value) (w : World), (callFunc ga args).run Tryz.prog w = .ok (.enter ga args) w) (hat : AtOk ga off) (W : World)
    (ha : Bk W ac 86 [.func (.func ga) #[] #[]])
    (g : Nat) (m : Msg) (sv : Value) (b B : Nat) (s0 : Rd) (hm : Bk W g 28 (mcells m sv)) (ho : W.ownsRow B 3 1 sv m.stamp.length (ints m.stamp)) (hr : RdS W b s0) (hl : s0.1.length ≤ 1000) :
    Calls Tryz.prog 86 #[.pointer (some ⟨b, 0, none⟩), .pointer (some ⟨g, 0, none⟩), .pointer (some ⟨ac, 0, none⟩)] W fun e w' => e = .returned (.tuple #[]) ∧ RdAft W g sv b B (set m ((rdNum s0).1 : Int)) (rdNum s0).2 w' := by
  have pn := rd_num b s0 W hr (by unfold maxLen; omega)
  have z2 : W.cell? ⟨ac, 0, none⟩ = some (.func (.func ga) #[] #[]) := ha.cell 0
  have HM := Lib.hid hm; have HO := Lib.hid ho; have H0 := Lib.hid hr
  have hgb : g ≠ b := by obtain ⟨cs, hb⟩ := hr.rdr; exact hm.ne_ hb (by decide)
  have HN := Lib.hid hgb
  clear hm ho hr ha hgb
  go_enter Tryz.func86, Tryz.ntmps86
  go_wp2_with (go_at_fn ga; refine (hat _ g).mono ?_; rintro e w' ⟨rfl, rfl⟩)
  refine pn.mono ?_
  rintro e w' ⟨rfl, h2, K2⟩
  have B2 := HM.out.kp K2 HN.out
  have z3 : w'.cell? ⟨g, off, none⟩ = some (.int .i64 (get m)) := (B2.cell off).trans (N.cell m sv)
  have zf := B2.frozen off
  have H2 := Lib.hid h2; have HK2 := Lib.hid K2
  clear h2 pn B2 K2
  go_wp2
  go_end0
  exact ⟨rfl, rdAft_mk HM.out HO.out H0.out HK2.out H2.out (N.set_ m sv _) (N.stamp m _)⟩
set_option maxRecDepth 100000 in
set_option maxHeartbeats 1000000 in
theorem castVerb3_any (fcl ac ga fn off : Nat) (get : Msg → Int) (set : Msg → Int → Msg) (N : NumAt off get set) (eg : ∀ (args : Array Value) (w : World), (callFunc ga args).run Tryz.prog w = .ok (.enter ga args) w) (hat : AtOk ga off) (p : Int → Bool) (ef : ∀ (args : Array Value) (w : World), (callFunc fn args).run Tryz.prog w = .ok (.enter fn args) w) (hf : ∀ x W, Calls Tryz.prog fn #[.int .i64 x] W fun e w' => e = .returned (.bool (p x)) ∧ W = w') (W : World)
    (hc : Bk W fcl 87 [.func (.func fn) #[] #[]]) (ha : Bk W ac 86 [.func (.func ga) #[] #[]]) (g : Nat) (m : Msg) (sv : Value) (hm : Bk W g 28 (mcells m sv)) :
    Calls Tryz.prog 87 #[.pointer (some ⟨g, 0, none⟩), .pointer (some ⟨fcl, 0, none⟩), .pointer (some ⟨ac, 0, none⟩)] W fun e w' => e = .returned (.bool (p (get m))) ∧ Kp No W w' := by
  have z1 : W.cell? ⟨fcl, 0, none⟩ = some (.func (.func fn) #[] #[]) := hc.cell 0
  have z2 : W.cell? ⟨ac, 0, none⟩ = some (.func (.func ga) #[] #[]) := ha.cell 0
  have z3 : W.cell? ⟨g, off, none⟩ = some (.int .i64 (get m)) := (hm.cell off).trans (N.cell m sv)
  generalize get m = x at *
  clear ha hm hc
  go_enter Tryz.func87, Tryz.ntmps87
  go_wp2
  go_still_tail 7, (by kernel_rfl)
  still_call ((hat _ g).mono (by rintro e w' ⟨rfl, rfl⟩; exact ⟨rfl, rfl⟩))
  repeat still_step
  still_call ((hf x _).mono (by rintro e w' ⟨rfl, rfl⟩; exact ⟨rfl, rfl⟩))
  repeat still_step
  refine wpStill_nil ?_
  go_wp2
  go_ret
  exact ⟨rfl, (Kp.refl _ _).drew⟩
set_option maxRecDepth 100000 in
set_option maxHeartbeats 1000000 in
theorem castVerb_any (ga off : Nat) (get : Msg → Int) (set : Msg → Int → Msg) (N : NumAt off get set) (eg : Ent ga) (hat : AtOk ga off) (fn : Nat) (p : Int → Bool) (ef : Ent fn) (hf : ∀ x W, Calls Tryz.prog fn #[.int .i64 x] W fun e w' => e = .returned (.bool (p x)) ∧ W = w') (W : World) :
    Calls Tryz.prog 53 #[.func (.func ga) #[] #[], .func (.func fn) #[] #[]] W (MkF W (fN get set fun m => p (get m))) := by
  have hmf : ∀ (fn : Fn) (first cap : Array Value) (w : World), (Instr.makeFunc fn first cap).run Tryz.prog w = .ok (.func fn first cap) w := fun _ _ _ _ => rfl
  have HN := Lib.hid N; have HE := Lib.hid eg; have HA := Lib.hid hat; have HEF := Lib.hid ef; have HF := Lib.hid hf
  clear N eg hat ef hf
  go_enter Tryz.func53, Tryz.ntmps53
  go_wp2
  refine bodyPost_ret (v := .agg #[.func (.func 85) #[] #[.pointer (some ⟨W.heap.size, 0, none⟩)], .func (.func 86) #[] #[.pointer (some ⟨W.heap.size, 0, none⟩)], .func (.func 87) #[] #[.pointer (some ⟨W.heap.size + 1, 0, none⟩), .pointer (some ⟨W.heap.size, 0, none⟩)]]) (by simp [results, Tryz.results53, go_sem]) rfl ?_
  have K := (((Kp.refl No W).alloc (.cells #[.func (.func ga) #[] #[]] 86)).alloc (.cells #[.func (.func fn) #[] #[]] 87)).alloc (.cells #[.func (.func 85) #[] #[.pointer (some ⟨W.heap.size, 0, none⟩)], .func (.func 86) #[] #[.pointer (some ⟨W.heap.size, 0, none⟩)], .func (.func 87) #[] #[.pointer (some ⟨W.heap.size + 1, 0, none⟩), .pointer (some ⟨W.heap.size, 0, none⟩)]] 59)
  refine ⟨⟨_, _, _, _, _, _⟩, rfl, ?_, K⟩
  have h3 : Bk _ W.heap.size 86 [.func (.func ga) #[] #[]] := ((Bk.new' rfl rfl).alloc (.cells #[.func (.func fn) #[] #[]] 87)).alloc (.cells #[.func (.func 85) #[] #[.pointer (some ⟨W.heap.size, 0, none⟩)], .func (.func 86) #[] #[.pointer (some ⟨W.heap.size, 0, none⟩)], .func (.func 87) #[] #[.pointer (some ⟨W.heap.size + 1, 0, none⟩), .pointer (some ⟨W.heap.size, 0, none⟩)]] 59)
  have h2 : Bk (((W.alloc (.cells #[.func (.func ga) #[] #[]] 86)).alloc (.cells #[.func (.func fn) #[] #[]] 87)).alloc (.cells #[.func (.func 85) #[] #[.pointer (some ⟨W.heap.size, 0, none⟩)], .func (.func 86) #[] #[.pointer (some ⟨W.heap.size, 0, none⟩)], .func (.func 87) #[] #[.pointer (some ⟨W.heap.size + 1, 0, none⟩), .pointer (some ⟨W.heap.size, 0, none⟩)]] 59)) (W.heap.size + 1) 87 [.func (.func fn) #[] #[]] := (Bk.new' (by simp) rfl).alloc _
  exact ⟨entVerb1, entVerb2, entVerb3,
    fun W2 hs g m sv b B u l hm hr _ hw hB hl => castVerb1_any _ ga off get set HN.out HE.out HA.out W2 (hs.bk h3 (by decide)) g m sv b B u l hm hr hw hB hl,
    fun W2 hs g m sv b s0 B hm ho hr hB hl _ => castVerb2_any _ ga off get set HN.out HE.out HA.out W2 (hs.bk h3 (by decide)) g m sv b B s0 hm ho hr hl,
    fun W2 hs g m sv hm hl => castVerb3_any _ _ ga fn off get set HN.out HE.out HA.out p HEF.out HF.out W2 (hs.bk h2 (by decide)) (hs.bk h3 (by decide)) g m sv hm.1⟩

theorem entErrno1 : Ent 93 := enters_of Tryz.func93 (by kernel_rfl) rfl
theorem entErrno2 : Ent 94 := enters_of Tryz.func94 (by kernel_rfl) rfl
theorem entErrno3 : Ent 95 := enters_of Tryz.func95 (by kernel_rfl) rfl
set_option maxRecDepth 100000 in
set_option maxHeartbeats 1000000 in
theorem castErrno1_any (ac ga off : Nat) (get : Msg → Int) (set : Msg → Int → Msg) (N : NumAt off get set) (eg : ∀ (args : Array Value) (w : World), (callFunc ga args).run Tryz.prog w = .ok (.enter ga args) w) (hat : AtOk ga off) (W : World)
    (ha : Bk W ac 90 [.func (.func ga) #[] #[]])
    (g : Nat) (m : Msg) (sv : Value) (b B : Nat) (u : Value) (l : List UInt8) (hm : MsgB W g m sv) (hr : Rng m) (hw : WrB W b B u l) (hB : B ≤ W.heap.size) (hl : l.length ≤ 100000) :
    Calls Tryz.prog 93 #[.pointer (some ⟨b, 0, none⟩), .pointer (some ⟨g, 0, none⟩), .pointer (some ⟨ac, 0, none⟩)] W fun e w' => e = .returned (.tuple #[]) ∧ WrAft W b B u (l ++ nS (get m)) w' := by
  have pn := wnum_any b B u l (get m) W hw hB (by omega) (N.rng m hr)
  have z2 : W.cell? ⟨ac, 0, none⟩ = some (.func (.func ga) #[] #[]) := ha.cell 0
  have z3 : W.cell? ⟨g, off, none⟩ = some (.int .i64 (get m)) := (hm.1.cell off).trans (N.cell m sv)
  generalize get m = x at *
  clear ha hm hr hw
  go_enter Tryz.func93, Tryz.ntmps93
  go_wp2_with (first | (go_at_fn ga; refine (hat _ g).mono ?_; rintro e w' ⟨rfl, rfl⟩) | (go_at_call 42; refine pn.mono ?_; rintro e w' ⟨rfl, h2⟩; have H2 := Lib.hid h2; clear h2))
  go_end0
  exact ⟨rfl, H2.out⟩
set_option maxRecDepth 100000 in
set_option maxHeartbeats 1000000 in
theorem castErrno2_any (ac ga off : Nat) (get : Msg → Int) (set : Msg → Int → Msg) (N : NumAt off get set) (eg : ∀ (args : Array Value) (w : World), (callFunc ga args).run Tryz.prog w = .ok (.enter ga args) w) (hat : AtOk ga off) (W : World)
    (ha : Bk W ac 90 [.func (.func ga) #[] #[]])
    (g : Nat) (m : Msg) (sv : Value) (b B : Nat) (s0 : Rd) (hm : Bk W g 28 (mcells m sv)) (ho : W.ownsRow B 3 1 sv m.stamp.length (ints m.stamp)) (hr : RdS W b s0) (hl : s0.1.length ≤ 1000) :
    Calls Tryz.prog 94 #[.pointer (some ⟨b, 0, none⟩), .pointer (some ⟨g, 0, none⟩), .pointer (some ⟨ac, 0, none⟩)] W fun e w' => e = .returned (.tuple #[]) ∧ RdAft W g sv b B (set m ((rdNum s0).1 : Int)) (rdNum s0).2 w' := by
  have pn := rd_num b s0 W hr (by unfold maxLen; omega)
  have z2 : W.cell? ⟨ac, 0, none⟩ = some (.func (.func ga) #[] #[]) := ha.cell 0
  have HM := Lib.hid hm; have HO := Lib.hid ho; have H0 := Lib.hid hr
  have hgb : g ≠ b := by obtain ⟨cs, hb⟩ := hr.rdr; exact hm.ne_ hb (by decide)
  have HN := Lib.hid hgb
  clear hm ho hr ha hgb
  go_enter Tryz.func94, Tryz.ntmps94
  go_wp2_with (go_at_fn ga; refine (hat _ g).mono ?_; rintro e w' ⟨rfl, rfl⟩)
  refine pn.mono ?_
  rintro e w' ⟨rfl, h2, K2⟩
  have B2 := HM.out.kp K2 HN.out
  have z3 : w'.cell? ⟨g, off, none⟩ = some (.int .i64 (get m)) := (B2.cell off).trans (N.cell m sv)
  have zf := B2.frozen off
  have H2 := Lib.hid h2; have HK2 := Lib.hid K2
  clear h2 pn B2 K2
  go_wp2
  go_end0
  exact ⟨rfl, rdAft_mk HM.out HO.out H0.out HK2.out H2.out (N.set_ m sv _) (N.stamp m _)⟩
set_option maxRecDepth 100000 in
set_option maxHeartbeats 1000000 in
theorem castErrno3_any (fcl ac ga fn off : Nat) (get : Msg → Int) (set : Msg → Int → Msg) (N : NumAt off get set) (eg : ∀ (args : Array Value) (w : World), (callFunc ga args).run Tryz.prog w = .ok (.enter ga args) w) (hat : AtOk ga off) (p : Int → Bool) (ef : ∀ (args : Array Value) (w : World), (callFunc fn args).run Tryz.prog w = .ok (.enter fn args) w) (hf : ∀ x W, Calls Tryz.prog fn #[.int .i64 x] W fun e w' => e = .returned (.bool (p x)) ∧ W = w') (W : World)
    (hc : Bk W fcl 91 [.func (.func fn) #[] #[]]) (ha : Bk W ac 90 [.func (.func ga) #[] #[]]) (g : Nat) (m : Msg) (sv : Value) (hm : Bk W g 28 (mcells m sv)) :
    Calls Tryz.prog 95 #[.pointer (some ⟨g, 0, none⟩), .pointer (some ⟨fcl, 0, none⟩), .pointer (some ⟨ac, 0, none⟩)] W fun e w' => e = .returned (.bool (p (get m))) ∧ Kp No W w' := by
  have z1 : W.cell? ⟨fcl, 0, none⟩ = some (.func (.func fn) #[] #[]) := hc.cell 0
  have z2 : W.cell? ⟨ac, 0, none⟩ = some (.func (.func ga) #[] #[]) := ha.cell 0
  have z3 : W.cell? ⟨g, off, none⟩ = some (.int .i64 (get m)) := (hm.cell off).trans (N.cell m sv)
  generalize get m = x at *
  clear ha hm hc
  go_enter Tryz.func95, Tryz.ntmps95
  go_wp2
  go_still_tail 7, (by kernel_rfl)
  still_call ((hat _ g).mono (by rintro e w' ⟨rfl, rfl⟩; exact ⟨rfl, rfl⟩))
  repeat still_step
  still_call ((hf x _).mono (by rintro e w' ⟨rfl, rfl⟩; exact ⟨rfl, rfl⟩))
  repeat still_step
  refine wpStill_nil ?_
  go_wp2
  go_ret
  exact ⟨rfl, (Kp.refl _ _).drew⟩
set_option maxRecDepth 100000 in
set_option maxHeartbeats 1000000 in
theorem castErrno_any (ga off : Nat) (get : Msg → Int) (set : Msg → Int → Msg) (N : NumAt off get set) (eg : Ent ga) (hat : AtOk ga off) (fn : Nat) (p : Int → Bool) (ef : Ent fn) (hf : ∀ x W, Calls Tryz.prog fn #[.int .i64 x] W fun e w' => e = .returned (.bool (p x)) ∧ W = w') (W : World) :
    Calls Tryz.prog 57 #[.func (.func ga) #[] #[], .func (.func fn) #[] #[]] W (MkF W (fN get set fun m => p (get m))) := by
  have hmf : ∀ (fn : Fn) (first cap : Array Value) (w : World), (Instr.makeFunc fn first cap).run Tryz.prog w = .ok (.func fn first cap) w := fun _ _ _ _ => rfl
  have HN := Lib.hid N; have HE := Lib.hid eg; have HA := Lib.hid hat; have HEF := Lib.hid ef; have HF := Lib.hid hf
  clear N eg hat ef hf
  go_enter Tryz.func57, Tryz.ntmps57
  go_wp2
  refine bodyPost_ret (v := .agg #[.func (.func 93) #[] #[.pointer (some ⟨W.heap.size, 0, none⟩)], .func (.func 94) #[] #[.pointer (some ⟨W.heap.size, 0, none⟩)], .func (.func 95) #[] #[.pointer (some ⟨W.heap.size + 1, 0, none⟩), .pointer (some ⟨W.heap.size, 0, none⟩)]]) (by simp [results, Tryz.results57, go_sem]) rfl ?_
  have K := (((Kp.refl No W).alloc (.cells #[.func (.func ga) #[] #[]] 90)).alloc (.cells #[.func (.func fn) #[] #[]] 91)).alloc (.cells #[.func (.func 93) #[] #[.pointer (some ⟨W.heap.size, 0, none⟩)], .func (.func 94) #[] #[.pointer (some ⟨W.heap.size, 0, none⟩)], .func (.func 95) #[] #[.pointer (some ⟨W.heap.size + 1, 0, none⟩), .pointer (some ⟨W.heap.size, 0, none⟩)]] 59)
  refine ⟨⟨_, _, _, _, _, _⟩, rfl, ?_, K⟩
  have h3 : Bk _ W.heap.size 90 [.func (.func ga) #[] #[]] := ((Bk.new' rfl rfl).alloc (.cells #[.func (.func fn) #[] #[]] 91)).alloc (.cells #[.func (.func 93) #[] #[.pointer (some ⟨W.heap.size, 0, none⟩)], .func (.func 94) #[] #[.pointer (some ⟨W.heap.size, 0, none⟩)], .func (.func 95) #[] #[.pointer (some ⟨W.heap.size + 1, 0, none⟩), .pointer (some ⟨W.heap.size, 0, none⟩)]] 59)
  have h2 : Bk (((W.alloc (.cells #[.func (.func ga) #[] #[]] 90)).alloc (.cells #[.func (.func fn) #[] #[]] 91)).alloc (.cells #[.func (.func 93) #[] #[.pointer (some ⟨W.heap.size, 0, none⟩)], .func (.func 94) #[] #[.pointer (some ⟨W.heap.size, 0, none⟩)], .func (.func 95) #[] #[.pointer (some ⟨W.heap.size + 1, 0, none⟩), .pointer (some ⟨W.heap.size, 0, none⟩)]] 59)) (W.heap.size + 1) 91 [.func (.func fn) #[] #[]] := (Bk.new' (by simp) rfl).alloc _
  exact ⟨entErrno1, entErrno2, entErrno3,
    fun W2 hs g m sv b B u l hm hr _ hw hB hl => castErrno1_any _ ga off get set HN.out HE.out HA.out W2 (hs.bk h3 (by decide)) g m sv b B u l hm hr hw hB hl,
    fun W2 hs g m sv b s0 B hm ho hr hB hl _ => castErrno2_any _ ga off get set HN.out HE.out HA.out W2 (hs.bk h3 (by decide)) g m sv b B s0 hm ho hr hl,
    fun W2 hs g m sv hm hl => castErrno3_any _ _ ga fn off get set HN.out HE.out HA.out p HEF.out HF.out W2 (hs.bk h2 (by decide)) (hs.bk h3 (by decide)) g m sv hm.1⟩

theorem entMode1 : Ent 107 := enters_of Tryz.func107 (by kernel_rfl) rfl
theorem entMode2 : Ent 108 := enters_of Tryz.func108 (by kernel_rfl) rfl
theorem entMode3 : Ent 109 := enters_of Tryz.func109 (by kernel_rfl) rfl
set_option maxRecDepth 100000 in
set_option maxHeartbeats 1000000 in
theorem castMode1_any (ac ga off : Nat) (get : Msg → Int) (set : Msg → Int → Msg) (N : NumAt off get set) (eg : ∀ (args : Array Value) (w : World), (callFunc ga args).run Tryz.prog w = .ok (.enter ga args) w) (hat : AtOk ga off) (W : World)
    (ha : Bk W ac 94 [.func (.func ga) #[] #[]])
    (g : Nat) (m : Msg) (sv : Value) (b B : Nat) (u : Value) (l : List UInt8) (hm : MsgB W g m sv) (hr : Rng m) (hw : WrB W b B u l) (hB : B ≤ W.heap.size) (hl : l.length ≤ 100000) :
    Calls Tryz.prog 107 #[.pointer (some ⟨b, 0, none⟩), .pointer (some ⟨g, 0, none⟩), .pointer (some ⟨ac, 0, none⟩)] W fun e w' => e = .returned (.tuple #[]) ∧ WrAft W b B u (l ++ nS (get m)) w' := by
  have pn := wnum_any b B u l (get m) W hw hB (by omega) (N.rng m hr)
  have z2 : W.cell? ⟨ac, 0, none⟩ = some (.func (.func ga) #[] #[]) := ha.cell 0
  have z3 : W.cell? ⟨g, off, none⟩ = some (.int .i64 (get m)) := (hm.1.cell off).trans (N.cell m sv)
  generalize get m = x at *
  clear ha hm hr hw
  go_enter Tryz.func107, Tryz.ntmps107
  go_wp2_with (first | (go_at_fn ga; refine (hat _ g).mono ?_; rintro e w' ⟨rfl, rfl⟩) | (go_at_call 42; refine pn.mono ?_; rintro e w' ⟨rfl, h2⟩; have H2 := Lib.hid h2; clear h2))
  go_end0
  exact ⟨rfl, H2.out⟩
set_option maxRecDepth 100000 in
set_option maxHeartbeats 1000000 in
theorem castMode2_any (ac ga off : Nat) (get : Msg → Int) (set : Msg → Int → Msg) (N : NumAt off get set) (eg : ∀ (args : Array Value) (w : World), (callFunc ga args).run Tryz.prog w = .ok (.enter ga args) w) (hat : AtOk ga off) (W : World)
    (ha : Bk W ac 94 [.func (.func ga) #[] #[]])
    (g : Nat) (m : Msg) (sv : Value) (b B : Nat) (s0 : Rd) (hm : Bk W g 28 (mcells m sv)) (ho : W.ownsRow B 3 1 sv m.stamp.length (ints m.stamp)) (hr : RdS W b s0) (hl : s0.1.length ≤ 1000) :
    Calls Tryz.prog 108 #[.pointer (some ⟨b, 0, none⟩), .pointer (some ⟨g, 0, none⟩), .pointer (some ⟨ac, 0, none⟩)] W fun e w' => e = .returned (.tuple #[]) ∧ RdAft W g sv b B (set m ((rdNum s0).1 : Int)) (rdNum s0).2 w' := by
  have pn := rd_num b s0 W hr (by unfold maxLen; omega)
  have z2 : W.cell? ⟨ac, 0, none⟩ = some (.func (.func ga) #[] #[]) := ha.cell 0
  have HM := Lib.hid hm; have HO := Lib.hid ho; have H0 := Lib.hid hr
  have hgb : g ≠ b := by obtain ⟨cs, hb⟩ := hr.rdr; exact hm.ne_ hb (by decide)
  have HN := Lib.hid hgb
  clear hm ho hr ha hgb
  go_enter Tryz.func108, Tryz.ntmps108
  go_wp2_with (go_at_fn ga; refine (hat _ g).mono ?_; rintro e w' ⟨rfl, rfl⟩)
  refine pn.mono ?_
  rintro e w' ⟨rfl, h2, K2⟩
  have B2 := HM.out.kp K2 HN.out
  have z3 : w'.cell? ⟨g, off, none⟩ = some (.int .i64 (get m)) := (B2.cell off).trans (N.cell m sv)
  have zf := B2.frozen off
  have H2 := Lib.hid h2; have HK2 := Lib.hid K2
  clear h2 pn B2 K2
  go_wp2
  go_end0
  exact ⟨rfl, rdAft_mk HM.out HO.out H0.out HK2.out H2.out (N.set_ m sv _) (N.stamp m _)⟩
set_option maxRecDepth 100000 in
set_option maxHeartbeats 1000000 in
theorem castMode3_any (fcl ac ga fn off : Nat) (get : Msg → Int) (set : Msg → Int → Msg) (N : NumAt off get set) (eg : ∀ (args : Array Value) (w : World), (callFunc ga args).run Tryz.prog w = .ok (.enter ga args) w) (hat : AtOk ga off) (p : Int → Bool) (ef : ∀ (args : Array Value) (w : World), (callFunc fn args).run Tryz.prog w = .ok (.enter fn args) w) (hf : ∀ x W, Calls Tryz.prog fn #[.int .i64 x] W fun e w' => e = .returned (.bool (p x)) ∧ W = w') (W : World)
    (hc : Bk W fcl 63 [.func (.func fn) #[] #[]]) (ha : Bk W ac 94 [.func (.func ga) #[] #[]]) (g : Nat) (m : Msg) (sv : Value) (hm : Bk W g 28 (mcells m sv)) :
    Calls Tryz.prog 109 #[.pointer (some ⟨g, 0, none⟩), .pointer (some ⟨fcl, 0, none⟩), .pointer (some ⟨ac, 0, none⟩)] W fun e w' => e = .returned (.bool (p (get m))) ∧ Kp No W w' := by
  have z1 : W.cell? ⟨fcl, 0, none⟩ = some (.func (.func fn) #[] #[]) := hc.cell 0
  have z2 : W.cell? ⟨ac, 0, none⟩ = some (.func (.func ga) #[] #[]) := ha.cell 0
  have z3 : W.cell? ⟨g, off, none⟩ = some (.int .i64 (get m)) := (hm.cell off).trans (N.cell m sv)
  generalize get m = x at *
  clear ha hm hc
  go_enter Tryz.func109, Tryz.ntmps109
  go_wp2
  go_still_tail 7, (by kernel_rfl)
  still_call ((hat _ g).mono (by rintro e w' ⟨rfl, rfl⟩; exact ⟨rfl, rfl⟩))
  repeat still_step
  still_call ((hf x _).mono (by rintro e w' ⟨rfl, rfl⟩; exact ⟨rfl, rfl⟩))
  repeat still_step
  refine wpStill_nil ?_
  go_wp2
  go_ret
  exact ⟨rfl, (Kp.refl _ _).drew⟩
set_option maxRecDepth 100000 in
set_option maxHeartbeats 1000000 in
theorem castMode_any (ga off : Nat) (get : Msg → Int) (set : Msg → Int → Msg) (N : NumAt off get set) (eg : Ent ga) (hat : AtOk ga off) (fn : Nat) (p : Int → Bool) (ef : Ent fn) (hf : ∀ x W, Calls Tryz.prog fn #[.int .i64 x] W fun e w' => e = .returned (.bool (p x)) ∧ W = w') (W : World) :
    Calls Tryz.prog 69 #[.func (.func ga) #[] #[], .func (.func fn) #[] #[]] W (MkF W (fN get set fun m => p (get m))) := by
  have hmf : ∀ (fn : Fn) (first cap : Array Value) (w : World), (Instr.makeFunc fn first cap).run Tryz.prog w = .ok (.func fn first cap) w := fun _ _ _ _ => rfl
  have HN := Lib.hid N; have HE := Lib.hid eg; have HA := Lib.hid hat; have HEF := Lib.hid ef; have HF := Lib.hid hf
  clear N eg hat ef hf
  go_enter Tryz.func69, Tryz.ntmps69
  go_wp2
  refine bodyPost_ret (v := .agg #[.func (.func 107) #[] #[.pointer (some ⟨W.heap.size, 0, none⟩)], .func (.func 108) #[] #[.pointer (some ⟨W.heap.size, 0, none⟩)], .func (.func 109) #[] #[.pointer (some ⟨W.heap.size + 1, 0, none⟩), .pointer (some ⟨W.heap.size, 0, none⟩)]]) (by simp [results, Tryz.results69, go_sem]) rfl ?_
  have K := (((Kp.refl No W).alloc (.cells #[.func (.func ga) #[] #[]] 94)).alloc (.cells #[.func (.func fn) #[] #[]] 63)).alloc (.cells #[.func (.func 107) #[] #[.pointer (some ⟨W.heap.size, 0, none⟩)], .func (.func 108) #[] #[.pointer (some ⟨W.heap.size, 0, none⟩)], .func (.func 109) #[] #[.pointer (some ⟨W.heap.size + 1, 0, none⟩), .pointer (some ⟨W.heap.size, 0, none⟩)]] 59)
  refine ⟨⟨_, _, _, _, _, _⟩, rfl, ?_, K⟩
  have h3 : Bk _ W.heap.size 94 [.func (.func ga) #[] #[]] := ((Bk.new' rfl rfl).alloc (.cells #[.func (.func fn) #[] #[]] 63)).alloc (.cells #[.func (.func 107) #[] #[.pointer (some ⟨W.heap.size, 0, none⟩)], .func (.func 108) #[] #[.pointer (some ⟨W.heap.size, 0, none⟩)], .func (.func 109) #[] #[.pointer (some ⟨W.heap.size + 1, 0, none⟩), .pointer (some ⟨W.heap.size, 0, none⟩)]] 59)
  have h2 : Bk (((W.alloc (.cells #[.func (.func ga) #[] #[]] 94)).alloc (.cells #[.func (.func fn) #[] #[]] 63)).alloc (.cells #[.func (.func 107) #[] #[.pointer (some ⟨W.heap.size, 0, none⟩)], .func (.func 108) #[] #[.pointer (some ⟨W.heap.size, 0, none⟩)], .func (.func 109) #[] #[.pointer (some ⟨W.heap.size + 1, 0, none⟩), .pointer (some ⟨W.heap.size, 0, none⟩)]] 59)) (W.heap.size + 1) 63 [.func (.func fn) #[] #[]] := (Bk.new' (by simp) rfl).alloc _
  exact ⟨entMode1, entMode2, entMode3,
    fun W2 hs g m sv b B u l hm hr _ hw hB hl => castMode1_any _ ga off get set HN.out HE.out HA.out W2 (hs.bk h3 (by decide)) g m sv b B u l hm hr hw hB hl,
    fun W2 hs g m sv b s0 B hm ho hr hB hl _ => castMode2_any _ ga off get set HN.out HE.out HA.out W2 (hs.bk h3 (by decide)) g m sv b B s0 hm ho hr hl,
    fun W2 hs g m sv hm hl => castMode3_any _ _ ga fn off get set HN.out HE.out HA.out p HEF.out HF.out W2 (hs.bk h2 (by decide)) (hs.bk h3 (by decide)) g m sv hm.1⟩
end Go.Proofs.YtbnpdghfbiacaaaGreat

/- Each field, made; those behind the verb (wire). No condition beyond what each theorem states. -/
namespace Go.Proofs.YtbnpdghfbiacaaaGreat
open Go Go.RowKit Go.PlainAid

theorem seq_at : AtOk 50 4 := fun W g => by
  go_enter Tryz.func50, Tryz.ntmps50
  go_wp2
  go_ret
  exact ⟨rfl, rfl⟩
theorem low_at : AtOk 52 5 := fun W g => by
  go_enter Tryz.func52, Tryz.ntmps52
  go_wp2
  go_ret
  exact ⟨rfl, rfl⟩
theorem verb_at : AtOk 54 6 := fun W g => by
  go_enter Tryz.func54, Tryz.ntmps54
  go_wp2
  go_ret
  exact ⟨rfl, rfl⟩
theorem mode_at : AtOk 70 8 := fun W g => by
  go_enter Tryz.func70, Tryz.ntmps70
  go_wp2
  go_ret
  exact ⟨rfl, rfl⟩
theorem term_at : AtOk 61 9 := fun W g => by
  go_enter Tryz.func61, Tryz.ntmps61
  go_wp2
  go_ret
  exact ⟨rfl, rfl⟩
theorem id_at : AtOk 60 10 := fun W g => by
  go_enter Tryz.func60, Tryz.ntmps60
  go_wp2
  go_ret
  exact ⟨rfl, rfl⟩
theorem code_at : AtOk 58 12 := fun W g => by
  go_enter Tryz.func58, Tryz.ntmps58
  go_wp2
  go_ret
  exact ⟨rfl, rfl⟩
theorem origin_at : AtOk 65 14 := fun W g => by
  go_enter Tryz.func65, Tryz.ntmps65
  go_wp2
  go_ret
  exact ⟨rfl, rfl⟩
theorem num_at : AtOk 67 15 := fun W g => by
  go_enter Tryz.func67, Tryz.ntmps67
  go_wp2
  go_ret
  exact ⟨rfl, rfl⟩
theorem boot_num : NumAt 3 Msg.boot (fun m x => { m with boot := x }) := ⟨fun _ _ => rfl, fun _ _ _ => rfl, fun _ _ => rfl, fun m h => h.1 _ (by simp)⟩
theorem seq_num : NumAt 4 Msg.seq (fun m x => { m with seq := x }) := ⟨fun _ _ => rfl, fun _ _ _ => rfl, fun _ _ => rfl, fun m h => h.1 _ (by simp)⟩
theorem low_num : NumAt 5 Msg.low (fun m x => { m with low := x }) := ⟨fun _ _ => rfl, fun _ _ _ => rfl, fun _ _ => rfl, fun m h => h.1 _ (by simp)⟩
theorem verb_num : NumAt 6 Msg.verb (fun m x => { m with verb := x }) := ⟨fun _ _ => rfl, fun _ _ _ => rfl, fun _ _ => rfl, fun m h => h.1 _ (by simp)⟩
theorem mode_num : NumAt 8 Msg.mode (fun m x => { m with mode := x }) := ⟨fun _ _ => rfl, fun _ _ _ => rfl, fun _ _ => rfl, fun m h => h.1 _ (by simp)⟩
theorem term_num : NumAt 9 Msg.term (fun m x => { m with term := x }) := ⟨fun _ _ => rfl, fun _ _ _ => rfl, fun _ _ => rfl, fun m h => h.1 _ (by simp)⟩
theorem id_num : NumAt 10 Msg.id (fun m x => { m with id := x }) := ⟨fun _ _ => rfl, fun _ _ _ => rfl, fun _ _ => rfl, fun m h => h.1 _ (by simp)⟩
theorem code_num : NumAt 12 Msg.code (fun m x => { m with code := x }) := ⟨fun _ _ => rfl, fun _ _ _ => rfl, fun _ _ => rfl, fun m h => h.1 _ (by simp)⟩
theorem origin_num : NumAt 14 Msg.origin (fun m x => { m with origin := x }) := ⟨fun _ _ => rfl, fun _ _ _ => rfl, fun _ _ => rfl, fun m h => h.1 _ (by simp)⟩
theorem number_num : NumAt 15 Msg.number (fun m x => { m with number := x }) := ⟨fun _ _ => rfl, fun _ _ _ => rfl, fun _ _ => rfl, fun m h => h.1 _ (by simp)⟩

theorem mkBoot (W : World) : Calls Tryz.prog 48 #[.func (.func 49) #[] #[]] W (MkF W fBoot) := counter_any _ 3 _ _ boot_num (enters_of Tryz.func49 (by kernel_rfl) rfl) boot_at W
theorem mkSeq (W : World) : Calls Tryz.prog 48 #[.func (.func 50) #[] #[]] W (MkF W fSeq) := counter_any _ 4 _ _ seq_num (enters_of Tryz.func50 (by kernel_rfl) rfl) seq_at W
theorem mkId (W : World) : Calls Tryz.prog 48 #[.func (.func 60) #[] #[]] W (MkF W fId) := counter_any _ 10 _ _ id_num (enters_of Tryz.func60 (by kernel_rfl) rfl) id_at W
theorem mkNumber (W : World) : Calls Tryz.prog 48 #[.func (.func 67) #[] #[]] W (MkF W fNumber) := counter_any _ 15 _ _ number_num (enters_of Tryz.func67 (by kernel_rfl) rfl) num_at W
theorem mkLow (W : World) : Calls Tryz.prog 51 #[.func (.func 52) #[] #[], .func (.func 47) #[] #[]] W (MkF W fLow) :=
  number_any _ 5 _ _ _ low_num (enters_of Tryz.func52 (by kernel_rfl) rfl) low_at _ _ W ⟨enters_of Tryz.func47 (by kernel_rfl) rfl, fun W2 _ g m sv hm _ => within_any g m sv W2 hm⟩
theorem mkTerm (W : World) : Calls Tryz.prog 51 #[.func (.func 61) #[] #[], .func (.func 88) #[] #[]] W (MkF W fTerm) :=
  number_any _ 9 _ _ _ term_num (enters_of Tryz.func61 (by kernel_rfl) rfl) term_at _ _ W ⟨enters_of Tryz.func88 (by kernel_rfl) rfl, fun W2 _ g m sv hm _ => legal_any g m sv W2 hm⟩
theorem mkGrant (W : World) : Calls Tryz.prog 51 #[.func (.func 61) #[] #[], .func (.func 62) #[] #[]] W (MkF W fGrant) :=
  number_any _ 9 _ _ _ term_num (enters_of Tryz.func61 (by kernel_rfl) rfl) term_at _ _ W ⟨enters_of Tryz.func62 (by kernel_rfl) rfl, fun W2 _ g m sv hm _ => granted_any g m sv W2 hm⟩
theorem mkOrigin4 (W : World) : Calls Tryz.prog 51 #[.func (.func 65) #[] #[], .func (.func 66) #[] #[]] W (MkF W fOrigin) :=
  number_any _ 14 _ _ _ origin_num (enters_of Tryz.func65 (by kernel_rfl) rfl) origin_at _ _ W ⟨enters_of Tryz.func66 (by kernel_rfl) rfl, fun W2 _ g m sv hm _ => orig4_any g m sv W2 hm⟩
theorem mkOrigin5 (W : World) : Calls Tryz.prog 51 #[.func (.func 65) #[] #[], .func (.func 68) #[] #[]] W (MkF W fOrigin) :=
  number_any _ 14 _ _ _ origin_num (enters_of Tryz.func65 (by kernel_rfl) rfl) origin_at _ _ W ⟨enters_of Tryz.func68 (by kernel_rfl) rfl, fun W2 _ g m sv hm _ => orig5_any g m sv W2 hm⟩
theorem mkVerb (W : World) : Calls Tryz.prog 53 #[.func (.func 54) #[] #[], .func (.func 55) #[] #[]] W (MkF W fVerb) :=
  castVerb_any _ 6 _ _ verb_num (enters_of Tryz.func54 (by kernel_rfl) rfl) verb_at _ (fun _ => true) (enters_of Tryz.func55 (by kernel_rfl) rfl) yes_any W
theorem mkCode (W : World) : Calls Tryz.prog 57 #[.func (.func 58) #[] #[], .func (.func 59) #[] #[]] W (MkF W fCode) :=
  castErrno_any _ 12 _ _ code_num (enters_of Tryz.func58 (by kernel_rfl) rfl) code_at _ (fun n => decide (0 ≤ n ∧ n ≤ 99)) (enters_of Tryz.func59 (by kernel_rfl) rfl) errOk_any W
theorem mkMode (W : World) : Calls Tryz.prog 69 #[.func (.func 70) #[] #[], .func (.func 71) #[] #[]] W (MkF W fMode) :=
  castMode_any _ 8 _ _ mode_num (enters_of Tryz.func70 (by kernel_rfl) rfl) mode_at _ (fun n => decide (modeI n)) (enters_of Tryz.func71 (by kernel_rfl) rfl) isMode_any W

/-- a list of fields, in a row of the call's own -/
def FsAt (w : World) (B : Nat) (v : Value) (L : List Fld) : Prop := ∃ vs : List FV, w.ownsRow B 59 3 v L.length ((vs.map FV.cells).flatten) ∧ vs.length = L.length ∧ ∀ p ∈ vs.zip L, FOk w p.1 p.2
theorem FsAt.stay {w w' : World} {B : Nat} {v : Value} {L : List Fld} {M : Nat → Prop} (h : FsAt w B v L) (hk : Kp M w w') (hm : ∀ g, v.ownBlock = some g → ¬ M g) (hs : Stay w w') : FsAt w' B v L := by
  obtain ⟨vs, h1, h2, h3⟩ := h
  exact ⟨vs, own_kp h1 hk hm, h2, fun p hp => (h3 p hp).stay hs⟩
theorem FsAt.no {w w' : World} {B : Nat} {v : Value} {L : List Fld} (h : FsAt w B v L) (hk : Kp No w w') : FsAt w' B v L := h.stay hk (fun _ _ m => m) (Stay.no hk)
theorem cells_len (vs : List FV) : ((vs.map FV.cells).flatten).length = 3 * vs.length := by
  induction vs with
  | nil => rfl
  | cons a r ih => simp only [List.map_cons, List.flatten_cons, List.length_append, ih, List.length_cons]; simp [FV.cells]; omega
theorem cells_one (vs : List FV) : ∀ u ∈ (vs.map FV.cells).flatten, u.oneCell' = true := by
  intro u hu
  simp only [List.mem_flatten, List.mem_map] at hu
  obtain ⟨l, ⟨v, _, rfl⟩, h⟩ := hu
  simp only [FV.cells, List.mem_cons, List.not_mem_nil, or_false] at h
  rcases h with rfl | rfl | rfl <;> rfl
/-- a row that was built -/
theorem fsAt_new {w : World} {B g n : Nat} {vs : List FV} {L : List Fld} (hb : Bk w g 59 ((vs.map FV.cells).flatten)) (hB : B ≤ g) (hl : vs.length = L.length) (hn : n = L.length) (hm : L.length ≤ 1000) (hf : ∀ p ∈ vs.zip L, FOk w p.1 p.2) : FsAt w B (.slice (some ⟨g, 0, none⟩) n n) L := by
  subst hn
  refine ⟨vs, ⟨by rw [cells_len, hl, Nat.mul_comm], .inr ⟨g, L.length, ((vs.map FV.cells).flatten).toArray, rfl, hB, hb, Nat.le_refl _, by unfold maxLen; omega, by rw [List.size_toArray, cells_len, hl, Nat.mul_comm], ?_⟩⟩, hl, hf⟩
  rw [List.take_of_length_le (by rw [cells_len, hl]; omega)]
end Go.Proofs.YtbnpdghfbiacaaaGreat

/- The fields of a message, made (wire). No condition beyond what each theorem states. -/
namespace Go.Proofs.YtbnpdghfbiacaaaGreat
open Go Go.RowKit Go.PlainAid

theorem Tryz.infoField : (Tryz.prog.info? 59).map (fun i => (i.zero, i.size, i.bytes)) = some (some (.agg #[.nilFunc, .nilFunc, .nilFunc]), 3, 24) := by kernel_rfl
theorem fs_built {W w : World} {C : Array Value} {vs : List FV} {L : List Fld} {n : Nat} (hC : C = ((vs.map FV.cells).flatten).toArray) (hk : Kp No W w) (hl : vs.length = L.length) (hn : n = L.length) (hm : L.length ≤ 1000) (hf : ∀ p ∈ vs.zip L, FOk w p.1 p.2) :
    FsAt (w.alloc (.cells C 59)) W.heap.size (.slice (some ⟨w.heap.size, 0, none⟩) n n) L ∧ Kp No W (w.alloc (.cells C 59)) :=
  ⟨fsAt_new (Bk.new' rfl hC) hk.size hl hn hm fun p hp => (hf p hp).stay (Stay.no ((Kp.refl No w).alloc _)), hk.alloc _⟩
theorem FsAt.form {w : World} {B : Nat} {v : Value} {L : List Fld} (h : FsAt w B v L) : ∃ A c, v = .slice A L.length c := by
  obtain ⟨vs, h1, _⟩ := h
  obtain ⟨A, c, e, _⟩ := own_len h1
  exact ⟨A, c, e⟩
theorem wpList_appF (w : World) {ops : Array Oper} {rest : List Oper} {o : Oper} {a : Act} {Q : Exit → Act → World → Prop} (hgd : o.guard = none) (s x : Operand)
    (ho : o.op = .call { callee := .builtin .append, args := #[s, x], argTypes := #[50, 50] })
    (B : Nat) (hB : B ≤ w.heap.size) (v u : Value) (L1 L2 : List Fld) (hs : a.eval s = v) (hx : a.eval x = u) (h1 : FsAt w B v L1) (h2 : FsAt w B u L2) (hn : L1.length + L2.length ≤ 1000) (h0 : 0 < L2.length)
    (h : ∀ v' w', FsAt w' B v' (L1 ++ L2) → Kp (fun k => v.ownBlock = some k) w w' → wpList Tryz.prog ops Q rest (a.put o.dst v') w') : wpList Tryz.prog ops Q (o :: rest) a w := by
  obtain ⟨i0, hi, hz0, hz1, hz2⟩ := info_parts Tryz.infoField
  obtain ⟨vs1, o1, l1, f1⟩ := h1
  obtain ⟨vs2, o2, l2, f2⟩ := h2
  obtain ⟨g, c, rfl, _, _⟩ := own_form o2 h0
  obtain ⟨v', w', hr, hown, hgr, _, hat⟩ := run_append_own_at (P := Tryz.prog) w B 50 o.type 59 i0 _ 3 24 Tryz.underlying50 hi hz0 hz1 hz2 rfl (by omega) v L1.length _ o1 ⟨g, 0, none⟩ L2.length c ((vs2.map FV.cells).flatten) (by rw [cells_len, l2, Nat.mul_comm])
    (fun j y hy => o2.cells (g := g) rfl j y hy) (cells_one vs2) (by unfold maxLen; omega) (by omega) hB
  refine wpList_plain hgd fun _ hK => ?_
  unfold Oper.wp execOp
  simp only [ho, resolve, invoke, builtin, Sem.run_bind, Sem.run_pure, Result.andThen_ok, List.map_toArray, List.map_cons, List.map_nil, hs, hx, hr]
  refine hK _ _ (h v' w' ?_ ((Kp.of_grownBy hgr).mono fun k _ e => e))
  have ht : Tys (fun k => v.ownBlock = some k) w [59] := fun k hk _ => by
    obtain ⟨cs, hb⟩ := own_bk o1 k hk
    exact ⟨_, cs, hb, List.mem_singleton.2 rfl⟩
  have hst : Stay w w' := Stay.of_kp ((Kp.of_grownBy hgr).mono fun k _ e => e) ht (by decide)
  refine ⟨vs1 ++ vs2, ?_, by simp [l1, l2], ?_⟩
  · rw [List.map_append, List.flatten_append, List.length_append]; exact hown
  · intro p hp
    rw [List.zip_append l1, List.mem_append] at hp
    rcases hp with hp | hp
    · exact (f1 p hp).stay hst
    · exact (f2 p hp).stay hst
def AskedR (W : World) (v : Int) (e : Ending) (w' : World) : Prop := ∃ sv, e = .returned sv ∧ FsAt w' W.heap.size sv (askedF vpP v) ∧ Kp No W w'
set_option maxRecDepth 100000 in
set_option maxHeartbeats 2000000 in
theorem asked_any (v : Int) (W : World) : Calls Tryz.prog 56 #[.int .i64 v] W (AskedR W v) := by
  by_cases h1 : v = 1
  · subst h1
    go_enter Tryz.func56, Tryz.ntmps56
    go_wp2_with fail
    refine (path_any _).mono ?_
    rintro e w1 ⟨v1, rfl, f1, k1⟩
    have F1 := Lib.hid f1; have K1 := Lib.hid k1; clear f1 k1
    go_wp2_with fail
    refine (mkMode _).mono ?_
    rintro e w2 ⟨v2, rfl, f2, k2⟩
    have F2 := Lib.hid f2; have K2 := Lib.hid k2; clear f2 k2
    go_wp2_with fail
    refine (mkTerm _).mono ?_
    rintro e w3 ⟨v3, rfl, f3, k3⟩
    have F3 := Lib.hid f3; have K3 := Lib.hid k3; clear f3 k3
    simp only [FV.cells]
    go_wp2
    go_ret
    obtain ⟨q1, q2⟩ := fs_built (vs := [v1, v2, v3]) (L := [fPath vpP, fMode, fTerm]) (n := 3) (C := #[.func (.func v1.wn) #[] v1.wc, .func (.func v1.rn) #[] v1.rc, .func (.func v1.fn) #[] v1.fc, .func (.func v2.wn) #[] v2.wc, .func (.func v2.rn) #[] v2.rc, .func (.func v2.fn) #[] v2.fc, .func (.func v3.wn) #[] v3.wc, .func (.func v3.rn) #[] v3.rc, .func (.func v3.fn) #[] v3.fc]) rfl ((K1.out.trans K2.out).trans K3.out) rfl rfl (by simp) (by
      intro p hp
      simp only [List.zip_cons_cons, List.zip_nil_right, List.mem_cons, List.not_mem_nil, or_false] at hp
      rcases hp with rfl | rfl | rfl
      · exact F1.out.stay (Stay.no (K2.out.trans K3.out))
      · exact F2.out.stay (Stay.no K3.out)
      · exact F3.out)
    exact ⟨_, rfl, q1, q2⟩
  · have d1 : (v == 1) = false := by rw [beq_eq_false_iff_ne]; exact h1
    by_cases h2 : v = 2
    · subst h2
      clear h1 d1
      go_enter Tryz.func56, Tryz.ntmps56
      go_wp2_with fail
      refine (mkId _).mono ?_
      rintro e w1 ⟨v1, rfl, f1, k1⟩
      have F1 := Lib.hid f1; have K1 := Lib.hid k1; clear f1 k1
      go_wp2_with fail
      refine (mkTerm _).mono ?_
      rintro e w2 ⟨v2, rfl, f2, k2⟩
      have F2 := Lib.hid f2; have K2 := Lib.hid k2; clear f2 k2
      go_wp2_with fail
      refine (fresh_any _).mono ?_
      rintro e w3 ⟨v3, rfl, f3, k3⟩
      have F3 := Lib.hid f3; have K3 := Lib.hid k3; clear f3 k3
      simp only [FV.cells]
      go_wp2
      go_ret
      obtain ⟨q1, q2⟩ := fs_built (vs := [v1, v2, v3]) (L := [fId, fTerm, fFresh]) (n := 3) (C := #[.func (.func v1.wn) #[] v1.wc, .func (.func v1.rn) #[] v1.rc, .func (.func v1.fn) #[] v1.fc, .func (.func v2.wn) #[] v2.wc, .func (.func v2.rn) #[] v2.rc, .func (.func v2.fn) #[] v2.fc, .func (.func v3.wn) #[] v3.wc, .func (.func v3.rn) #[] v3.rc, .func (.func v3.fn) #[] v3.fc]) rfl ((K1.out.trans K2.out).trans K3.out) rfl rfl (by simp) (by
        intro p hp
        simp only [List.zip_cons_cons, List.zip_nil_right, List.mem_cons, List.not_mem_nil, or_false] at hp
        rcases hp with rfl | rfl | rfl
        · exact F1.out.stay (Stay.no (K2.out.trans K3.out))
        · exact F2.out.stay (Stay.no K3.out)
        · exact F3.out)
      exact ⟨_, rfl, q1, q2⟩
    · have d2 : (v == 2) = false := by rw [beq_eq_false_iff_ne]; exact h2
      by_cases h3 : v = 3
      · subst h3
        clear h1 d1 h2 d2
        go_enter Tryz.func56, Tryz.ntmps56
        go_wp2_with fail
        refine (mkId _).mono ?_
        rintro e w1 ⟨v1, rfl, f1, k1⟩
        have F1 := Lib.hid f1; have K1 := Lib.hid k1; clear f1 k1
        simp only [FV.cells]
        go_wp2
        go_ret
        obtain ⟨q1, q2⟩ := fs_built (vs := [v1]) (L := [fId]) (n := 1) (C := #[.func (.func v1.wn) #[] v1.wc, .func (.func v1.rn) #[] v1.rc, .func (.func v1.fn) #[] v1.fc]) rfl K1.out rfl rfl (by simp) (by
          intro p hp
          simp only [List.zip_cons_cons, List.zip_nil_right, List.mem_cons, List.not_mem_nil, or_false] at hp
          subst hp
          exact F1.out)
        exact ⟨_, rfl, q1, q2⟩
      · have d3 : (v == 3) = false := by rw [beq_eq_false_iff_ne]; exact h3
        have HE := Lib.hid (show askedF vpP v = [fNone] by unfold askedF; rw [if_neg h1, if_neg h2, if_neg h3])
        clear h1 h2 h3
        go_enter Tryz.func56, Tryz.ntmps56
        go_wp2
        go_ret
        obtain ⟨q1, q2⟩ := fs_built (vs := [⟨90, #[], 91, #[], 92, #[]⟩]) (L := [fNone]) (n := 1) (W := W) (C := #[.func (.func 90) #[] #[], .func (.func 91) #[] #[], .func (.func 92) #[] #[]]) rfl (Kp.refl No W) rfl rfl (by simp) (by
          intro p hp
          simp only [List.zip_cons_cons, List.zip_nil_right, List.mem_cons, List.not_mem_nil, or_false] at hp
          subst hp
          exact none_ok W)
        exact ⟨_, rfl, by rw [HE.out]; exact q1, q2⟩
end Go.Proofs.YtbnpdghfbiacaaaGreat

/- The fields of a message by contract (wire). No condition beyond what each theorem states. -/
namespace Go.Proofs.YtbnpdghfbiacaaaGreat
open Go Go.RowKit Go.PlainAid

theorem FsAt.mono {w : World} {B B' : Nat} {v : Value} {L : List Fld} (h : FsAt w B v L) (hb : B' ≤ B) : FsAt w B' v L := by
  obtain ⟨vs, h1, h2, h3⟩ := h
  exact ⟨vs, own_mono h1 hb, h2, h3⟩
theorem kp_fs {W w w' : World} {v : Value} {L : List Fld} (h : FsAt w W.heap.size v L) (k : Kp No W w) (k2 : Kp (fun k => v.ownBlock = some k) w w') : Kp No W w' := by
  obtain ⟨vs, h1, _⟩ := h
  exact kp_own h1 k k2
def FieldsR (W : World) (m : Msg) (e : Ending) (w' : World) : Prop := ∃ sv, e = .returned sv ∧ FsAt w' W.heap.size sv (fieldsF vpP m) ∧ Kp No W w'
set_option maxRecDepth 100000 in
set_option maxHeartbeats 2000000 in
theorem fields3_any (g : Nat) (m : Msg) (sv : Value) (W : World) (hm : MsgB W g m sv) (hk : m.kind = 3) : Calls Tryz.prog 25 #[.pointer (some ⟨g, 0, none⟩)] W (FieldsR W m) := by
  have z0 : W.cell? ⟨g, 0, none⟩ = some (.int .i64 m.kind) := hm.1.cell 0
  have HE := Lib.hid (show fieldsF vpP m = [fId, fPath vpP, fOrigin, fNumber] by unfold fieldsF; simp [hk])
  rw [hk] at z0
  clear hm hk
  go_enter Tryz.func25, Tryz.ntmps25
  go_wp2_with fail
  refine (mkId _).mono ?_
  rintro e w1 ⟨v1, rfl, f1, k1⟩
  have F1 := Lib.hid f1; have K1 := Lib.hid k1; clear f1 k1
  go_wp2_with fail
  refine (path_any _).mono ?_
  rintro e w2 ⟨v2, rfl, f2, k2⟩
  have F2 := Lib.hid f2; have K2 := Lib.hid k2; clear f2 k2
  go_wp2_with fail
  refine (mkOrigin4 _).mono ?_
  rintro e w3 ⟨v3, rfl, f3, k3⟩
  have F3 := Lib.hid f3; have K3 := Lib.hid k3; clear f3 k3
  go_wp2_with fail
  refine (mkNumber _).mono ?_
  rintro e w4 ⟨v4, rfl, f4, k4⟩
  have F4 := Lib.hid f4; have K4 := Lib.hid k4; clear f4 k4
  simp only [FV.cells]
  go_wp2
  go_ret
  have q := fs_built (W := W) (w := w4) (vs := [v1, v2, v3, v4]) (L := [fId, fPath vpP, fOrigin, fNumber]) (n := 4) (C := #[.func (.func v1.wn) #[] v1.wc, .func (.func v1.rn) #[] v1.rc, .func (.func v1.fn) #[] v1.fc, .func (.func v2.wn) #[] v2.wc, .func (.func v2.rn) #[] v2.rc, .func (.func v2.fn) #[] v2.fc, .func (.func v3.wn) #[] v3.wc, .func (.func v3.rn) #[] v3.rc, .func (.func v3.fn) #[] v3.fc, .func (.func v4.wn) #[] v4.wc, .func (.func v4.rn) #[] v4.rc, .func (.func v4.fn) #[] v4.fc]) rfl (((K1.out.trans K2.out).trans K3.out).trans K4.out) rfl rfl (by simp) (by
    intro p hp
    simp only [List.zip_cons_cons, List.zip_nil_right, List.mem_cons, List.not_mem_nil, or_false] at hp
    rcases hp with rfl | rfl | rfl | rfl
    · exact F1.out.stay (Stay.no ((K2.out.trans K3.out).trans K4.out))
    · exact F2.out.stay (Stay.no (K3.out.trans K4.out))
    · exact F3.out.stay (Stay.no K4.out)
    · exact F4.out)
  obtain ⟨q1, q2⟩ := q
  exact ⟨_, rfl, by rw [HE.out]; exact q1, q2⟩
set_option maxRecDepth 100000 in
set_option maxHeartbeats 2000000 in
theorem fields4_any (g : Nat) (m : Msg) (sv : Value) (W : World) (hm : MsgB W g m sv) (hk : m.kind = 4) : Calls Tryz.prog 25 #[.pointer (some ⟨g, 0, none⟩)] W (FieldsR W m) := by
  have z0 : W.cell? ⟨g, 0, none⟩ = some (.int .i64 m.kind) := hm.1.cell 0
  have HE := Lib.hid (show fieldsF vpP m = [fId, fOrigin, fNumber] by unfold fieldsF; simp [hk])
  rw [hk] at z0
  clear hm hk
  go_enter Tryz.func25, Tryz.ntmps25
  go_wp2_with fail
  refine (mkId _).mono ?_
  rintro e w1 ⟨v1, rfl, f1, k1⟩
  have F1 := Lib.hid f1; have K1 := Lib.hid k1; clear f1 k1
  go_wp2_with fail
  refine (mkOrigin5 _).mono ?_
  rintro e w2 ⟨v2, rfl, f2, k2⟩
  have F2 := Lib.hid f2; have K2 := Lib.hid k2; clear f2 k2
  go_wp2_with fail
  refine (mkNumber _).mono ?_
  rintro e w3 ⟨v3, rfl, f3, k3⟩
  have F3 := Lib.hid f3; have K3 := Lib.hid k3; clear f3 k3
  simp only [FV.cells]
  go_wp2
  go_ret
  have q := fs_built (W := W) (w := w3) (vs := [v1, v2, v3]) (L := [fId, fOrigin, fNumber]) (n := 3) (C := #[.func (.func v1.wn) #[] v1.wc, .func (.func v1.rn) #[] v1.rc, .func (.func v1.fn) #[] v1.fc, .func (.func v2.wn) #[] v2.wc, .func (.func v2.rn) #[] v2.rc, .func (.func v2.fn) #[] v2.fc, .func (.func v3.wn) #[] v3.wc, .func (.func v3.rn) #[] v3.rc, .func (.func v3.fn) #[] v3.fc]) rfl ((K1.out.trans K2.out).trans K3.out) rfl rfl (by simp) (by
    intro p hp
    simp only [List.zip_cons_cons, List.zip_nil_right, List.mem_cons, List.not_mem_nil, or_false] at hp
    rcases hp with rfl | rfl | rfl
    · exact F1.out.stay (Stay.no (K2.out.trans K3.out))
    · exact F2.out.stay (Stay.no K3.out)
    · exact F3.out)
  obtain ⟨q1, q2⟩ := q
  exact ⟨_, rfl, by rw [HE.out]; exact q1, q2⟩
set_option maxRecDepth 100000 in
set_option maxHeartbeats 2000000 in
theorem fields5_any (g : Nat) (m : Msg) (sv : Value) (W : World) (hm : MsgB W g m sv) (hk : m.kind = 5) : Calls Tryz.prog 25 #[.pointer (some ⟨g, 0, none⟩)] W (FieldsR W m) := by
  have z0 : W.cell? ⟨g, 0, none⟩ = some (.int .i64 m.kind) := hm.1.cell 0
  have HE := Lib.hid (show fieldsF vpP m = [fPath vpP, fMode, fStamp] by unfold fieldsF; simp [hk])
  rw [hk] at z0
  clear hm hk
  go_enter Tryz.func25, Tryz.ntmps25
  go_wp2_with fail
  refine (path_any _).mono ?_
  rintro e w1 ⟨v1, rfl, f1, k1⟩
  have F1 := Lib.hid f1; have K1 := Lib.hid k1; clear f1 k1
  go_wp2_with fail
  refine (mkMode _).mono ?_
  rintro e w2 ⟨v2, rfl, f2, k2⟩
  have F2 := Lib.hid f2; have K2 := Lib.hid k2; clear f2 k2
  go_wp2_with fail
  refine (stampF_any _).mono ?_
  rintro e w3 ⟨v3, rfl, f3, k3⟩
  have F3 := Lib.hid f3; have K3 := Lib.hid k3; clear f3 k3
  simp only [FV.cells]
  go_wp2
  go_ret
  have q := fs_built (W := W) (w := w3) (vs := [v1, v2, v3]) (L := [fPath vpP, fMode, fStamp]) (n := 3) (C := #[.func (.func v1.wn) #[] v1.wc, .func (.func v1.rn) #[] v1.rc, .func (.func v1.fn) #[] v1.fc, .func (.func v2.wn) #[] v2.wc, .func (.func v2.rn) #[] v2.rc, .func (.func v2.fn) #[] v2.fc, .func (.func v3.wn) #[] v3.wc, .func (.func v3.rn) #[] v3.rc, .func (.func v3.fn) #[] v3.fc]) rfl ((K1.out.trans K2.out).trans K3.out) rfl rfl (by simp) (by
    intro p hp
    simp only [List.zip_cons_cons, List.zip_nil_right, List.mem_cons, List.not_mem_nil, or_false] at hp
    rcases hp with rfl | rfl | rfl
    · exact F1.out.stay (Stay.no (K2.out.trans K3.out))
    · exact F2.out.stay (Stay.no K3.out)
    · exact F3.out)
  obtain ⟨q1, q2⟩ := q
  exact ⟨_, rfl, by rw [HE.out]; exact q1, q2⟩
set_option maxRecDepth 100000 in
set_option maxHeartbeats 2000000 in
theorem fields1_any (g : Nat) (m : Msg) (sv : Value) (W : World) (hm : MsgB W g m sv) (hk : m.kind = 1) : Calls Tryz.prog 25 #[.pointer (some ⟨g, 0, none⟩)] W (FieldsR W m) := by
  have z0 : W.cell? ⟨g, 0, none⟩ = some (.int .i64 m.kind) := hm.1.cell 0
  have HE := Lib.hid (show fieldsF vpP m = [fBoot, fSeq, fLow, fVerb] ++ askedF vpP m.verb by unfold fieldsF; rw [if_pos hk])
  have HM := Lib.hid hm.1
  rw [hk] at z0
  clear hm hk
  go_enter Tryz.func25, Tryz.ntmps25
  go_wp2_with fail
  refine (mkBoot _).mono ?_
  rintro e w1 ⟨v1, rfl, f1, k1⟩
  have F1 := Lib.hid f1; have K1 := Lib.hid k1; clear f1 k1
  go_wp2_with fail
  refine (mkSeq _).mono ?_
  rintro e w2 ⟨v2, rfl, f2, k2⟩
  have F2 := Lib.hid f2; have K2 := Lib.hid k2; clear f2 k2
  go_wp2_with fail
  refine (mkLow _).mono ?_
  rintro e w3 ⟨v3, rfl, f3, k3⟩
  have F3 := Lib.hid f3; have K3 := Lib.hid k3; clear f3 k3
  go_wp2_with fail
  refine (mkVerb _).mono ?_
  rintro e w4 ⟨v4, rfl, f4, k4⟩
  have F4 := Lib.hid f4; have K4 := Lib.hid k4; clear f4 k4
  simp only [FV.cells]
  have q := fs_built (W := W) (w := w4) (vs := [v1, v2, v3, v4]) (L := [fBoot, fSeq, fLow, fVerb]) (n := 4) (C := #[.func (.func v1.wn) #[] v1.wc, .func (.func v1.rn) #[] v1.rc, .func (.func v1.fn) #[] v1.fc, .func (.func v2.wn) #[] v2.wc, .func (.func v2.rn) #[] v2.rc, .func (.func v2.fn) #[] v2.fc, .func (.func v3.wn) #[] v3.wc, .func (.func v3.rn) #[] v3.rc, .func (.func v3.fn) #[] v3.fc, .func (.func v4.wn) #[] v4.wc, .func (.func v4.rn) #[] v4.rc, .func (.func v4.fn) #[] v4.fc]) rfl (((K1.out.trans K2.out).trans K3.out).trans K4.out) rfl rfl (by simp) (by
    intro p hp
    simp only [List.zip_cons_cons, List.zip_nil_right, List.mem_cons, List.not_mem_nil, or_false] at hp
    rcases hp with rfl | rfl | rfl | rfl
    · exact F1.out.stay (Stay.no ((K2.out.trans K3.out).trans K4.out))
    · exact F2.out.stay (Stay.no (K3.out.trans K4.out))
    · exact F3.out.stay (Stay.no K4.out)
    · exact F4.out)
  obtain ⟨q1, q2⟩ := q
  have z6 : (w4.alloc (.cells #[.func (.func v1.wn) #[] v1.wc, .func (.func v1.rn) #[] v1.rc, .func (.func v1.fn) #[] v1.fc, .func (.func v2.wn) #[] v2.wc, .func (.func v2.rn) #[] v2.rc, .func (.func v2.fn) #[] v2.fc, .func (.func v3.wn) #[] v3.wc, .func (.func v3.rn) #[] v3.rc, .func (.func v3.fn) #[] v3.fc, .func (.func v4.wn) #[] v4.wc, .func (.func v4.rn) #[] v4.rc, .func (.func v4.fn) #[] v4.fc] 59)).cell? ⟨g, 6, none⟩ = some (.int .i64 m.verb) := (HM.out.no q2).cell 6
  have Q1 := Lib.hid q1; have Q2 := Lib.hid q2
  clear q1 q2
  go_wp2_with fail
  refine (asked_any m.verb _).mono ?_
  rintro e w5 ⟨u5, rfl, f5, k5⟩
  have hl5 : 0 < (askedF vpP m.verb).length ∧ (askedF vpP m.verb).length ≤ 3 := by unfold askedF; repeat' split
                                                                                   all_goals simp
  have Q3 := Lib.hid (Q1.out.no k5); have Q4 := Lib.hid (Q2.out.trans k5)
  have Q5 := Lib.hid (f5.mono Q2.out.size)
  have hsz : W.heap.size ≤ w5.heap.size := Q4.out.size
  have H5 := Lib.hid hl5
  clear f5 k5 hl5 z6
  go_wp2_with (at_builtin; refine wpList_appF _ rfl _ _ rfl W.heap.size hsz _ _ _ _ rfl rfl Q3.out Q5.out (by have := H5.out; simp; omega) H5.out.1 ?_; intro v6 w6 f6 k6; have F6 := Lib.hid f6; have K6 := Lib.hid k6; clear f6 k6)
  go_ret
  exact ⟨_, rfl, by rw [HE.out]; exact F6.out, kp_fs Q3.out Q4.out K6.out⟩
set_option maxRecDepth 100000 in
set_option maxHeartbeats 2000000 in
theorem fields2_any (g : Nat) (m : Msg) (sv : Value) (W : World) (hm : MsgB W g m sv) (hk : m.kind = 2) : Calls Tryz.prog 25 #[.pointer (some ⟨g, 0, none⟩)] W (FieldsR W m) := by
  have z0 : W.cell? ⟨g, 0, none⟩ = some (.int .i64 m.kind) := hm.1.cell 0
  have HE := Lib.hid (show fieldsF vpP m = [fBoot, fSeq, fCode] ++ (if m.code = 0 then [fId, fGrant, fStamp] else []) by unfold fieldsF; rw [if_neg (by omega), if_pos hk])
  have HM := Lib.hid hm.1
  rw [hk] at z0
  clear hm hk
  go_enter Tryz.func25, Tryz.ntmps25
  go_wp2_with fail
  refine (mkBoot _).mono ?_
  rintro e w1 ⟨v1, rfl, f1, k1⟩
  have F1 := Lib.hid f1; have K1 := Lib.hid k1; clear f1 k1
  go_wp2_with fail
  refine (mkSeq _).mono ?_
  rintro e w2 ⟨v2, rfl, f2, k2⟩
  have F2 := Lib.hid f2; have K2 := Lib.hid k2; clear f2 k2
  go_wp2_with fail
  refine (mkCode _).mono ?_
  rintro e w3 ⟨v3, rfl, f3, k3⟩
  have F3 := Lib.hid f3; have K3 := Lib.hid k3; clear f3 k3
  simp only [FV.cells]
  have q := fs_built (W := W) (w := w3) (vs := [v1, v2, v3]) (L := [fBoot, fSeq, fCode]) (n := 3) (C := #[.func (.func v1.wn) #[] v1.wc, .func (.func v1.rn) #[] v1.rc, .func (.func v1.fn) #[] v1.fc, .func (.func v2.wn) #[] v2.wc, .func (.func v2.rn) #[] v2.rc, .func (.func v2.fn) #[] v2.fc, .func (.func v3.wn) #[] v3.wc, .func (.func v3.rn) #[] v3.rc, .func (.func v3.fn) #[] v3.fc]) rfl ((K1.out.trans K2.out).trans K3.out) rfl rfl (by simp) (by
    intro p hp
    simp only [List.zip_cons_cons, List.zip_nil_right, List.mem_cons, List.not_mem_nil, or_false] at hp
    rcases hp with rfl | rfl | rfl
    · exact F1.out.stay (Stay.no (K2.out.trans K3.out))
    · exact F2.out.stay (Stay.no K3.out)
    · exact F3.out)
  obtain ⟨q1, q2⟩ := q
  have z12 : (w3.alloc (.cells #[.func (.func v1.wn) #[] v1.wc, .func (.func v1.rn) #[] v1.rc, .func (.func v1.fn) #[] v1.fc, .func (.func v2.wn) #[] v2.wc, .func (.func v2.rn) #[] v2.rc, .func (.func v2.fn) #[] v2.fc, .func (.func v3.wn) #[] v3.wc, .func (.func v3.rn) #[] v3.rc, .func (.func v3.fn) #[] v3.fc] 59)).cell? ⟨g, 12, none⟩ = some (.int .i64 m.code) := (HM.out.no q2).cell 12
  have Q1 := Lib.hid q1; have Q2 := Lib.hid q2
  clear q1 q2
  by_cases hc : m.code = 0
  · rw [hc] at z12
    have HC := Lib.hid hc; clear hc
    go_wp2_with fail
    refine (mkId _).mono ?_
    rintro e w4 ⟨v4, rfl, f4, k4⟩
    have F4 := Lib.hid f4; have K4 := Lib.hid k4; clear f4 k4
    go_wp2_with fail
    refine (mkGrant _).mono ?_
    rintro e w5 ⟨v5, rfl, f5, k5⟩
    have F5 := Lib.hid f5; have K5 := Lib.hid k5; clear f5 k5
    go_wp2_with fail
    refine (stampF_any _).mono ?_
    rintro e w6 ⟨v6, rfl, f6, k6⟩
    have F6 := Lib.hid f6; have K6 := Lib.hid k6; clear f6 k6
    simp only [FV.cells]
    have q := fs_built (W := W) (w := w6) (vs := [v4, v5, v6]) (L := [fId, fGrant, fStamp]) (n := 3) (C := #[.func (.func v4.wn) #[] v4.wc, .func (.func v4.rn) #[] v4.rc, .func (.func v4.fn) #[] v4.fc, .func (.func v5.wn) #[] v5.wc, .func (.func v5.rn) #[] v5.rc, .func (.func v5.fn) #[] v5.fc, .func (.func v6.wn) #[] v6.wc, .func (.func v6.rn) #[] v6.rc, .func (.func v6.fn) #[] v6.fc]) rfl (((Q2.out.trans K4.out).trans K5.out).trans K6.out) rfl rfl (by simp) (by
      intro p hp
      simp only [List.zip_cons_cons, List.zip_nil_right, List.mem_cons, List.not_mem_nil, or_false] at hp
      rcases hp with rfl | rfl | rfl
      · exact F4.out.stay (Stay.no (K5.out.trans K6.out))
      · exact F5.out.stay (Stay.no K6.out)
      · exact F6.out)
    obtain ⟨q3, q4⟩ := q
    have Q3 := Lib.hid (Q1.out.no ((((K4.out.trans K5.out).trans K6.out)).alloc (.cells #[.func (.func v4.wn) #[] v4.wc, .func (.func v4.rn) #[] v4.rc, .func (.func v4.fn) #[] v4.fc, .func (.func v5.wn) #[] v5.wc, .func (.func v5.rn) #[] v5.rc, .func (.func v5.fn) #[] v5.fc, .func (.func v6.wn) #[] v6.wc, .func (.func v6.rn) #[] v6.rc, .func (.func v6.fn) #[] v6.fc] 59)))
    have Q4 := Lib.hid q4; have Q5 := Lib.hid q3
    have hsz : W.heap.size ≤ (w6.alloc (.cells #[.func (.func v4.wn) #[] v4.wc, .func (.func v4.rn) #[] v4.rc, .func (.func v4.fn) #[] v4.fc, .func (.func v5.wn) #[] v5.wc, .func (.func v5.rn) #[] v5.rc, .func (.func v5.fn) #[] v5.fc, .func (.func v6.wn) #[] v6.wc, .func (.func v6.rn) #[] v6.rc, .func (.func v6.fn) #[] v6.fc] 59)).heap.size := q4.size
    clear q3 q4
    go_wp2_with (at_builtin; refine wpList_appF _ rfl _ _ rfl W.heap.size hsz _ _ _ _ rfl rfl Q3.out Q5.out (by simp) (by simp) ?_; intro v7 w7 f7 k7; have F7 := Lib.hid f7; have K7 := Lib.hid k7; clear f7 k7)
    go_ret
    exact ⟨_, rfl, by rw [HE.out, if_pos HC.out]; exact F7.out, kp_fs Q3.out Q4.out K7.out⟩
  · have d1 : (m.code != 0) = true := by rw [bne_iff_ne]; exact hc
    have HC := Lib.hid hc; clear hc
    go_wp2
    go_ret
    exact ⟨_, rfl, by rw [HE.out, if_neg HC.out]; exact Q1.out, Q2.out⟩
set_option maxRecDepth 100000 in
set_option maxHeartbeats 2000000 in
theorem fields0_any (g : Nat) (m : Msg) (sv : Value) (W : World) (hm : MsgB W g m sv) (h1 : m.kind ≠ 1) (h2 : m.kind ≠ 2) (h3 : m.kind ≠ 3) (h4 : m.kind ≠ 4) (h5 : m.kind ≠ 5) : Calls Tryz.prog 25 #[.pointer (some ⟨g, 0, none⟩)] W (FieldsR W m) := by
  have z0 : W.cell? ⟨g, 0, none⟩ = some (.int .i64 m.kind) := hm.1.cell 0
  have HE := Lib.hid (show fieldsF vpP m = [] by unfold fieldsF; rw [if_neg h1, if_neg h2, if_neg h3, if_neg h4, if_neg h5])
  have d1 : (m.kind == 1) = false := by rw [beq_eq_false_iff_ne]; exact h1
  have d2 : (m.kind == 2) = false := by rw [beq_eq_false_iff_ne]; exact h2
  have d3 : (m.kind == 3) = false := by rw [beq_eq_false_iff_ne]; exact h3
  have d4 : (m.kind == 4) = false := by rw [beq_eq_false_iff_ne]; exact h4
  have d5 : (m.kind == 5) = false := by rw [beq_eq_false_iff_ne]; exact h5
  clear hm h1 h2 h3 h4 h5
  go_enter Tryz.func25, Tryz.ntmps25
  go_wp2
  go_ret
  exact ⟨_, rfl, by rw [HE.out]; exact ⟨[], nil_own _ _ _ _, rfl, by simp⟩, Kp.refl _ _⟩
theorem fields_any (g : Nat) (m : Msg) (sv : Value) (W : World) (hm : MsgB W g m sv) : Calls Tryz.prog 25 #[.pointer (some ⟨g, 0, none⟩)] W (FieldsR W m) := by
  by_cases h1 : m.kind = 1
  · exact fields1_any g m sv W hm h1
  by_cases h2 : m.kind = 2
  · exact fields2_any g m sv W hm h2
  by_cases h3 : m.kind = 3
  · exact fields3_any g m sv W hm h3
  by_cases h4 : m.kind = 4
  · exact fields4_any g m sv W hm h4
  by_cases h5 : m.kind = 5
  · exact fields5_any g m sv W hm h5
  exact fields0_any g m sv W hm h1 h2 h3 h4 h5
end Go.Proofs.YtbnpdghfbiacaaaGreat

/- The body of a message by contract (wire). No condition beyond what each theorem states. -/
namespace Go.Proofs.YtbnpdghfbiacaaaGreat
open Go Go.RowKit Go.PlainAid

theorem flat_get : ∀ (vs : List FV) (k : Nat) (h : k < vs.length) (j : Nat), j < 3 → ((vs.map FV.cells).flatten)[k * 3 + j]? = (vs[k]).cells[j]?
  | v :: vs, 0, _, j, hj => by
    simp only [List.map_cons, List.flatten_cons, List.getElem_cons_zero, Nat.zero_mul, Nat.zero_add]
    rw [List.getElem?_append_left (by simpa [FV.cells] using hj)]
  | v :: vs, k + 1, h, j, hj => by
    have ih := flat_get vs k (by simpa using h) j hj
    simp only [List.map_cons, List.flatten_cons, List.getElem_cons_succ]
    rw [List.getElem?_append_right (by simp [FV.cells]; omega), ← ih]
    congr 1
    simp [FV.cells]; omega
theorem range_of {w : World} {g : Nat} {t : TypeId} {cs : List Value} (h : Bk w g t cs) : w.rangeAt g 0 cs := fun j v hv => by rw [h.cell, Nat.zero_add]; exact hv
theorem FsAt.at_ {w : World} {B : Nat} {sv : Value} {L : List Fld} (h : FsAt w B sv L) {k : Nat} (hk : k < L.length) : ∃ g c v, sv = .slice (some ⟨g, 0, none⟩) L.length c ∧
    w.cell? ⟨g, k * 3, none⟩ = some (.func (.func v.wn) #[] v.wc) ∧ w.cell? ⟨g, k * 3 + 1, none⟩ = some (.func (.func v.rn) #[] v.rc) ∧ w.cell? ⟨g, k * 3 + 2, none⟩ = some (.func (.func v.fn) #[] v.fc) ∧ FOk w v L[k] := by
  obtain ⟨vs, h1, h2, h3⟩ := h
  obtain ⟨g, c, e, _⟩ := own_form h1 (by omega)
  have hk2 : k < vs.length := by omega
  have hc : ∀ j x, j < 3 → (vs[k]).cells[j]? = some x → w.cell? ⟨g, k * 3 + j, none⟩ = some x := fun j x hj hx => by
    have := h1.cells (g := g) (by rw [e]; rfl) (k * 3 + j) x (by rw [flat_get vs k hk2 j hj]; exact hx)
    rwa [Addr.add_mid, Nat.zero_add] at this
  refine ⟨g, c, vs[k], e, hc 0 _ (by omega) rfl, hc 1 _ (by omega) rfl, hc 2 _ (by omega) rfl, h3 (vs[k], L[k]) ?_⟩
  have : (vs.zip L)[k]'(by simp; omega) = (vs[k], L[k]) := by simp
  rw [← this]
  exact List.getElem_mem _
theorem FsAt.tys {w w' : World} {B : Nat} {v : Value} {L : List Fld} {M : Nat → Prop} {ts : List TypeId} (h : FsAt w B v L) (hk : Kp M w w') (ht : Tys M w ts) (h1 : 59 ∉ ts) (h2 : ∀ t ∈ FT, t ∉ ts) : FsAt w' B v L :=
  h.stay hk (fun g hg => by
    obtain ⟨vs, o, _⟩ := h
    obtain ⟨cs, hb⟩ := own_bk o g hg
    exact ht.not hb h1) (Stay.of_kp hk ht h2)
theorem SlI.tys {w w' : World} {v : Value} {L : List Int} {M : Nat → Prop} {ts : List TypeId} (h : SlI w v L) (hk : Kp M w w') (ht : Tys M w ts) (h1 : 3 ∉ ts) : SlI w' v L := h.kp hk fun _g _cs hb => ht.not hb h1
theorem WrAft.no {W w w' : World} {b B : Nat} {v : Value} {l : List UInt8} (h : WrAft W b B v l w) (hk : Kp No w w') : WrAft W b B v l w' := by
  obtain ⟨v', h1, h2, h3⟩ := h
  refine ⟨v', ⟨h1.1.no hk, h1.2.no hk⟩, h2.then_ hk fun i _ m => m.elim, h3⟩
theorem outF_snoc {L : List Fld} {k : Nat} (m : Msg) (h : k < L.length) : outF (L.take (k + 1)) m = outF (L.take k) m ++ (L[k]).out m := by
  rw [List.take_succ_eq_append_getElem h]
  simp only [outF, List.map_append, List.flatten_append, List.map_cons, List.map_nil, List.flatten_cons, List.flatten_nil, List.append_nil]
theorem nS_len {x : Int} (h : x < 9223372036854775808) : (nS x).length ≤ 9 := numS_len 8 x.toNat (by omega)
/-- a field's bytes are few -/
theorem out_len {m : Msg} (hr : Rng m) (hs : Short 1000 m) : ∀ f ∈ fieldsF vpP m, (f.out m).length ≤ 10000 := by
  have N : ∀ x : Int, x < 9223372036854775808 → (nS x).length ≤ 10000 := fun x h => by
    have := nS_len h; omega
  have hp : ((fPath vpP).out m).length ≤ 10000 := by
    have := numS_len 8 m.path.length (by have := hs.1; omega)
    have := hs.1
    simp only [fPath, textS, List.length_append]; omega
  have hst : (fStamp.out m).length ≤ 10000 := by
    have h1 := numS_len 8 m.stamp.length (by have := hs.2; omega)
    have h2 := outI_len m.stamp hr.2
    have := hs.2
    simp only [fStamp]; rw [cS_out, List.length_append]; omega
  have hf : (fFresh.out m).length ≤ 10000 := by
    have : (nS (if m.fresh then 1 else 0)).length ≤ 9 := nS_len (by split <;> omega)
    simp only [fFresh]; omega
  have hn : (fNone.out m).length ≤ 10000 := by simp [fNone]
  have b : (fBoot.out m).length ≤ 10000 := N _ (boot_num.rng m hr)
  have s : (fSeq.out m).length ≤ 10000 := N _ (seq_num.rng m hr)
  have lo : (fLow.out m).length ≤ 10000 := N _ (low_num.rng m hr)
  have ve : (fVerb.out m).length ≤ 10000 := N _ (verb_num.rng m hr)
  have co : (fCode.out m).length ≤ 10000 := N _ (code_num.rng m hr)
  have mo : (fMode.out m).length ≤ 10000 := N _ (mode_num.rng m hr)
  have te : (fTerm.out m).length ≤ 10000 := N _ (term_num.rng m hr)
  have gr : (fGrant.out m).length ≤ 10000 := N _ (term_num.rng m hr)
  have i : (fId.out m).length ≤ 10000 := N _ (id_num.rng m hr)
  have o : (fOrigin.out m).length ≤ 10000 := N _ (origin_num.rng m hr)
  have nu : (fNumber.out m).length ≤ 10000 := N _ (number_num.rng m hr)
  unfold fieldsF askedF
  repeat' split
  all_goals
    intro f hf'
    simp only [List.mem_append, List.mem_cons, List.not_mem_nil, or_false, List.append_nil] at hf'
  all_goals first
    | (rcases hf' with (rfl | rfl | rfl | rfl) | rfl | rfl | rfl <;> assumption)
    | (rcases hf' with (rfl | rfl | rfl) | rfl | rfl | rfl <;> assumption)
    | (rcases hf' with (rfl | rfl | rfl | rfl) | rfl <;> assumption)
    | (rcases hf' with rfl | rfl | rfl | rfl <;> assumption)
    | (rcases hf' with rfl | rfl | rfl <;> assumption)
    | (exact hf'.elim)
theorem outF_len {m : Msg} : ∀ (L : List Fld), (∀ f ∈ L, (f.out m).length ≤ 10000) → (outF L m).length ≤ 10000 * L.length
  | [], _ => by simp [outF]
  | f :: L, h => by
    have h1 := outF_len L fun y hy => h y (List.mem_cons_of_mem _ hy)
    have h2 := h f (List.mem_cons_self ..)
    simp only [outF, List.map_cons, List.flatten_cons, List.length_append, List.length_cons] at h1 ⊢
    omega
def BodyR (W : World) (m : Msg) (e : Ending) (w' : World) : Prop := ∃ v, e = .returned v ∧ OwnB w' W.heap.size v (bodyS m) ∧ Kp No W w'
set_option maxRecDepth 100000 in
set_option maxHeartbeats 4000000 in
theorem body_any (m : Msg) (sv : Value) (W : World) (hs : SlI W sv m.stamp) (hr : Rng m) (hol : ∀ f ∈ fieldsF vpP m, (f.out m).length ≤ 10000) : Calls Tryz.prog 19 #[.agg (mcells m sv).toArray] W (BodyR W m) := by
  have HS := Lib.hid hs; have HR := Lib.hid hr; have HOL := Lib.hid hol
  have hmf : ∀ (fn : Fn) (first cap : Array Value) (w : World), (Instr.makeFunc fn first cap).run Tryz.prog w = .ok (.func fn first cap) w := fun _ _ _ _ => rfl
  clear hs hr hol
  unfold mcells
  go_enter Tryz.func19, Tryz.ntmps19
  go_wp2
  have hM : MsgB (((W.alloc (.cells (mcells m sv).toArray 28)).alloc (.cells #[.slice none 0 0] 75)).alloc (.cells #[.int .i64 m.kind, .int .i64 m.from_, .int .i64 m.dest] 3)) W.heap.size m sv :=
    ⟨((Bk.new' rfl rfl).alloc _).alloc _, HS.out.no ((((Kp.refl No W).alloc _).alloc _).alloc _)⟩
  have hWr : WrB (((W.alloc (.cells (mcells m sv).toArray 28)).alloc (.cells #[.slice none 0 0] 75)).alloc (.cells #[.int .i64 m.kind, .int .i64 m.from_, .int .i64 m.dest] 3)) (W.heap.size + 1) W.heap.size (.slice none 0 0) [] :=
    ⟨(Bk.new' (by simp) rfl).alloc _, OwnB.nil _ _⟩
  have hL : SlI (((W.alloc (.cells (mcells m sv).toArray 28)).alloc (.cells #[.slice none 0 0] 75)).alloc (.cells #[.int .i64 m.kind, .int .i64 m.from_, .int .i64 m.dest] 3)) (.slice (some ⟨W.heap.size + 1 + 1, 0, none⟩) 3 3) [m.kind, m.from_, m.dest] :=
    ⟨_, 3, rfl, by simp, fun _ => ⟨_, 0, _, rfl, Bk.new' (by simp) rfl, range_of (Bk.new' (by simp) rfl)⟩⟩
  have K0 : Kp No W (((W.alloc (.cells (mcells m sv).toArray 28)).alloc (.cells #[.slice none 0 0] 75)).alloc (.cells #[.int .i64 m.kind, .int .i64 m.from_, .int .i64 m.dest] 3)) := (((Kp.refl No W).alloc _).alloc _).alloc _
  simp only [mcells] at hM hWr hL K0
  generalize ((W.alloc (.cells ([.int .i64 m.kind, .int .i64 m.from_, .int .i64 m.dest, .int .i64 m.boot, .int .i64 m.seq, .int .i64 m.low, .int .i64 m.verb, .string ⟨m.path.toArray⟩, .int .i64 m.mode, .int .i64 m.term, .int .i64 m.id, .bool m.fresh, .int .i64 m.code, sv, .int .i64 m.origin, .int .i64 m.number] : List Value).toArray 28)).alloc (.cells #[.slice none 0 0] 75)).alloc (.cells #[.int .i64 m.kind, .int .i64 m.from_, .int .i64 m.dest] 3) = W0 at *
  have H3 := Lib.hid (show ∀ x ∈ [m.kind, m.from_, m.dest], x < 9223372036854775808 from fun x hx => HR.out.1 x (by simp at hx; rcases hx with rfl | rfl | rfl <;> simp))
  have HL3 := Lib.hid (show ([m.kind, m.from_, m.dest] : List Int).length = 3 from rfl)
  have HO3 := Lib.hid (show outI [m.kind, m.from_, m.dest] = nS m.kind ++ nS m.from_ ++ nS m.dest by simp [outI, nS])
  generalize hl3 : ([m.kind, m.from_, m.dest] : List Int) = L3 at *
  have HL := Lib.hid hL; have HM := Lib.hid hM; have HW := Lib.hid hWr; have HK := Lib.hid K0
  have hsz0 : W.heap.size ≤ W0.heap.size := K0.size
  clear hL hM hWr K0 hl3
  go_loopw [16] (fun i wr => ∃ k : Nat, k ≤ 3 ∧ i = .int .i64 k ∧ WrAft W0 (W.heap.size + 1) W.heap.size (.slice none 0 0) (outI (L3.take k)) wr) (fun i _ => 3 - (intOf i).toNat)
  case atStart => exact ⟨0, Nat.zero_le _, rfl, WrAft.start HW.out⟩
  case round =>
    obtain ⟨k, hk, rfl, hF⟩ := hrel
    by_cases hlt : k < 3
    · have hlt3 : k < L3.length := by rw [HL3.out]; exact hlt
      have hk0 : (0 : Int) ≤ (k : Int) := by omega
      have hk1 : (k : Int) < 3 := by omega
      have hLr : SlI wr (.slice (some ⟨W.heap.size + 1 + 1, 0, none⟩) 3 3) L3 := by
        obtain ⟨v', _, k2, _⟩ := hF
        exact HL.out.tys k2 (wrm_tys HW.out) (by decide)
      obtain ⟨g', o, c', e1, hxx⟩ := hLr.arg.at_ hlt3
      have hx := hxx k _ (List.getElem?_eq_getElem hlt3)
      rw [HL3.out] at e1
      clear hxx hLr
      injection e1 with e1 _ e1c
      injection e1 with e1
      injection e1 with e1 e2 _
      subst e1 e1c
      subst e2
      rw [Nat.zero_add] at hx
      have HT := Lib.hid (outI_snoc hlt3)
      have HX := Lib.hid (H3.out _ (List.getElem_mem hlt3))
      have hol := outI_len (L3.take k) fun x hx => H3.out x (List.mem_of_mem_take hx)
      rw [List.length_take] at hol
      generalize L3[k] = x at *
      obtain ⟨va, hwa, hka, hna⟩ := hF
      have pa := wnum_any (W.heap.size + 1) W.heap.size va (outI (L3.take k)) x wr hwa (Nat.le_trans hsz0 hka.size) (by omega) HX.out
      have HK2 := Lib.hid hka; have HN := Lib.hid hna
      clear hka hna hwa hol hlt3
      go_wp2_with fail
      refine pa.mono ?_
      rintro e w' ⟨rfl, h2⟩
      have H2 := Lib.hid h2; clear h2 pa
      go_wp2
      go_roundw
      case rel => exact ⟨k + 1, by omega, by go_num, by rw [HT.out]; exact WrAft.then_ HK2.out HN.out H2.out⟩
      case measure => simp [intOf]; omega
    · obtain rfl : k = 3 := by omega
      clear hlt
      have hF2 : WrAft W0 (W.heap.size + 1) W.heap.size (.slice none 0 0) (nS m.kind ++ nS m.from_ ++ nS m.dest) wr := by
        rw [← HO3.out]; rw [List.take_of_length_le (by rw [HL3.out]; omega)] at hF; exact hF
      have hMr := hF2.msg HW.out HM.out
      have pf := fields_any W.heap.size m sv wr hMr
      have HF := Lib.hid hF2; have HMr := Lib.hid hMr
      clear hF hF2 hMr
      go_wp2_with fail
      refine pf.mono ?_
      rintro e w1 ⟨fv, rfl, hfs, k1⟩
      obtain ⟨A, c, rfl⟩ := hfs.form
      have HA := Lib.hid (HF.out.no k1)
      have HM1 := Lib.hid (HMr.out.no k1)
      have hfl := fields_le vpP m
      have HBF := Lib.hid (body_fields vpP m)
      have HFS := Lib.hid hfs
      have hsz1 : W.heap.size ≤ w1.heap.size := by obtain ⟨_, _, k2, _⟩ := HA.out; exact Nat.le_trans hsz0 k2.size
      have HBW := Lib.hid (show wr.heap.size ≤ w1.heap.size from k1.size)
      have HNN := Lib.hid (show (nS m.kind ++ nS m.from_ ++ nS m.dest).length ≤ 27 by
        have a1 := nS_len (HR.out.1 m.kind (by simp)); have a2 := nS_len (HR.out.1 m.from_ (by simp)); have a3 := nS_len (HR.out.1 m.dest (by simp))
        rw [List.length_append, List.length_append]; omega)
      clear hfs k1 pf HF HMr
      generalize fieldsF vpP m = L at *
      generalize wr.heap.size = Bf at *
      generalize hN3 : nS m.kind ++ nS m.from_ ++ nS m.dest = N3 at *
      clear hN3
      go_wp2
      go_loopw [25] (fun i wr => ∃ k : Nat, k ≤ L.length ∧ i = .int .i64 k ∧ WrAft W0 (W.heap.size + 1) W.heap.size (.slice none 0 0) (N3 ++ outF (L.take k) m) wr ∧ FsAt wr Bf (.slice A L.length c) L ∧ MsgB wr W.heap.size m sv) (fun i _ => L.length - (intOf i).toNat)
      case atStart => exact ⟨0, Nat.zero_le _, rfl, by simpa [outF] using HA.out, HFS.out, HM1.out⟩
      case round =>
        obtain ⟨k, hk, rfl, hF, hfs, hmr⟩ := hrel
        by_cases hlt : k < L.length
        · have hk0 : (0 : Int) ≤ (k : Int) := by omega
          have hk1 : (k : Int) < (L.length : Int) := by omega
          obtain ⟨g', c', v, e1, c0, c1, c2, hv⟩ := hfs.at_ hlt
          injection e1 with e1 _ e1c
          subst e1 e1c
          have HT := Lib.hid (outF_snoc m hlt)
          have hol := outF_len (m := m) (L.take k) fun f hf => HOL.out f (List.mem_of_mem_take hf)
          rw [List.length_take] at hol
          have HXL := Lib.hid (HOL.out _ (List.getElem_mem hlt))
          generalize L[k] = fl at *
          obtain ⟨va, hwa, hka, hna⟩ := hF
          have hWA := (hwa.1.alloc (.cells #[.func (.func v.wn) #[] v.wc, .func (.func v.rn) #[] v.rc, .func (.func v.fn) #[] v.fc] 59))
          have hWO := hwa.2.alloc (.cells #[.func (.func v.wn) #[] v.wc, .func (.func v.rn) #[] v.rc, .func (.func v.fn) #[] v.fc] 59)
          have kA : Kp No wr (wr.alloc (.cells #[.func (.func v.wn) #[] v.wc, .func (.func v.rn) #[] v.rc, .func (.func v.fn) #[] v.fc] 59)) := (Kp.refl No wr).alloc _
          have pa := hv.write _ (Stay.no kA) W.heap.size m sv (W.heap.size + 1) W.heap.size va (N3 ++ outF (L.take k) m) (hmr.no kA) HR.out HXL.out ⟨hWA, hWO⟩ (Nat.le_trans (Nat.le_trans hsz0 hka.size) kA.size) (by
            have := HNN.out; rw [List.length_append]; omega)
          have we : ∀ (args : Array Value) (w : World), (callFunc v.wn args).run Tryz.prog w = .ok (.enter v.wn args) w := hv.we
          have HWA := Lib.hid (show WrB _ _ _ _ _ from ⟨hWA, hWO⟩)
          have HFS2 := Lib.hid (hfs.no kA); have HM2 := Lib.hid (hmr.no kA)
          have HK2 := Lib.hid (hka.then_ kA fun i _ m => m.elim); have HN := Lib.hid hna
          clear hka hna hwa hol hWA hWO hfs hmr kA hv
          go_wp2_with fail
          refine pa.mono ?_
          rintro e w' ⟨rfl, h2⟩
          have H2 := Lib.hid h2; clear h2 pa
          go_wp2
          go_roundw
          case rel =>
            have h3 := H2.out
            obtain ⟨v', _, k2, _⟩ := h3
            exact ⟨k + 1, by omega, by go_num, by rw [HT.out, ← List.append_assoc]; exact WrAft.then_ HK2.out HN.out H2.out, HFS2.out.tys k2 (wrm_tys HWA.out) (by decide) (by decide), H2.out.msg HWA.out HM2.out⟩
          case measure => simp [intOf]; omega
        · have hk1 : ¬ (k : Int) < (L.length : Int) := by omega
          obtain rfl : k = L.length := by omega
          rw [List.take_length] at hF
          obtain ⟨va, hwa, hka, hna⟩ := hF
          have pb := wbytes_any (W.heap.size + 1) W.heap.size va _ wr hwa (Nat.le_trans hsz0 hka.size) (by
            have h1 := HNN.out
            have h2 := outF_len (m := m) L HOL.out
            rw [List.length_append]; omega)
          have KW := Lib.hid (show Kp No W wr from HK.out.then_ hka fun i hi hm => by
            rcases hm with rfl | hm
            · omega
            · simp [Value.ownBlock] at hm)
          clear hwa hka hna hfs hmr hlt
          go_wp2_with fail
          refine pb.mono ?_
          rintro e w' ⟨v', rfl, ho, k2⟩
          have HO := Lib.hid ho; have HK3 := Lib.hid k2
          clear ho k2 pb
          go_wp2
          go_ret
          exact ⟨_, rfl, by rw [HBF.out]; exact HO.out.mono KW.out.size, KW.out.trans HK3.out⟩
end Go.Proofs.YtbnpdghfbiacaaaGreat
