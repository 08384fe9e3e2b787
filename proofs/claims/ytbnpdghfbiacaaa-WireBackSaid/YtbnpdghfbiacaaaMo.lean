/- The fields that are numbers, made (wire). No condition beyond what each theorem states. -/
import Derived.Test.YtbnpdghfbiacaaaMn
import Derived.Laws.EntriesVeiled
import Derived.Shelf.Abstract
namespace Go.Proofs.Ytbnpdghfbiacaaa
open Go Go.RowKit Go.PlainAid

/-- function fn, with what it has captured, tells may -/
def FineOk (w : World) (fn : Nat) (fc : Array Value) (may : Msg → Bool) : Prop := Ent fn ∧ ∀ W, Stay w W → ∀ g m sv, MsgB W g m sv → Short maxLen m →
    Calls Try.prog fn (#[.pointer (some ⟨g, 0, none⟩)] ++ fc) W fun e w' => e = .returned (.bool (may m)) ∧ Kp No W w'
theorem FineOk.stay {w w' : World} {fn : Nat} {fc : Array Value} {may : Msg → Bool} (h : FineOk w fn fc may) (hs : Stay w w') : FineOk w' fn fc may := ⟨h.1, fun W hW => h.2 W (hs.trans hW)⟩
/-- what a function answers that makes a field -/
def MkF (W : World) (s : Fld) (e : Ending) (w' : World) : Prop := ∃ v : FV, e = .returned (.agg v.cells.toArray) ∧ FOk w' v s ∧ Kp No W w'
theorem ent57 : Ent 57 := enters_of Try.func57 (by kernel_rfl) rfl
theorem ent58 : Ent 58 := enters_of Try.func58 (by kernel_rfl) rfl
theorem number_ok {ga off : Nat} {get : Msg → Int} {set : Msg → Int → Msg} {may : Msg → Bool} (N : NumAt off get set) (eg : Ent ga) (hat : AtOk ga off) {fn : Nat} {fc : Array Value} {w : World} {pc tc ac : Nat}
    (h1 : Bk w pc 87 [.func (.func 25) #[] #[]]) (h2 : Bk w tc 88 [.func (.func 54) #[] #[]]) (h3 : Bk w ac 68 [.func (.func ga) #[] #[]])
    (hf : FineOk w fn fc may) : FOk w ⟨57, #[.pointer (some ⟨pc, 0, none⟩), .pointer (some ⟨ac, 0, none⟩)], 58, #[.pointer (some ⟨tc, 0, none⟩), .pointer (some ⟨ac, 0, none⟩)], fn, fc⟩ (fN get set may) :=
  ⟨ent57, ent58, hf.1,
   fun W hs g m sv b B u l hm hr _ hw hB hl => number1_any pc ac ga off get set N eg hat W (hs.bk h1 (by decide)) (hs.bk h3 (by decide)) g m sv b B u l hm hr hw hB hl,
   fun W hs g m sv b s0 B hm ho hr hB hl _ => number2_any tc ac ga off get set N eg hat W (hs.bk h2 (by decide)) (hs.bk h3 (by decide)) g m sv b B s0 hm ho hr hl,
   fun W hs g m sv hm hl => hf.2 W hs g m sv hm hl⟩
set_option maxRecDepth 100000 in
set_option maxHeartbeats 1000000 in
theorem number_any (ga off : Nat) (get : Msg → Int) (set : Msg → Int → Msg) (may : Msg → Bool) (N : NumAt off get set) (eg : Ent ga) (hat : AtOk ga off) (fn : Nat) (fc : Array Value) (W : World) (hf : FineOk W fn fc may) :
    Calls Try.prog 31 #[.func (.func ga) #[] #[], .func (.func fn) #[] fc] W (MkF W (fN get set may)) := by
  have HF := Lib.hid hf; have HN := Lib.hid N; have HE := Lib.hid eg; have HA := Lib.hid hat
  clear hf N eg hat
  have hmf : ∀ (fn : Fn) (first cap : Array Value) (w : World), (Instr.makeFunc fn first cap).run Try.prog w = .ok (.func fn first cap) w := fun _ _ _ _ => rfl
  go_enter Try.func31, Try.ntmps31
  go_wp2
  refine bodyPost_ret (v := .agg #[.func (.func 57) #[] #[.pointer (some ⟨W.heap.size + 1 + 1, 0, none⟩), .pointer (some ⟨W.heap.size, 0, none⟩)], .func (.func 58) #[] #[.pointer (some ⟨W.heap.size + 1 + 1 + 1, 0, none⟩), .pointer (some ⟨W.heap.size, 0, none⟩)], .func (.func fn) #[] fc]) (by simp [results, Try.results31, go_sem]) rfl ?_
  have K := ((((Kp.refl No W).alloc (.cells #[.func (.func ga) #[] #[]] 68)).alloc (.cells #[.func (.func 57) #[] #[.pointer (some ⟨W.heap.size + 1 + 1, 0, none⟩), .pointer (some ⟨W.heap.size, 0, none⟩)], .func (.func 58) #[] #[.pointer (some ⟨W.heap.size + 1 + 1 + 1, 0, none⟩), .pointer (some ⟨W.heap.size, 0, none⟩)], .func (.func fn) #[] fc] 55)).alloc (.cells #[.func (.func 25) #[] #[]] 87)).alloc (.cells #[.func (.func 54) #[] #[]] 88)
  exact ⟨⟨_, _, _, _, _, _⟩, rfl, number_ok HN.out HE.out HA.out ((Bk.new' (by simp) rfl).alloc _) (Bk.new' (by simp) rfl) ((((Bk.new' rfl rfl).alloc _).alloc _).alloc _) (HF.out.stay (Stay.no K)), K⟩
end Go.Proofs.Ytbnpdghfbiacaaa
