/- What the laws of this claim share: the program's and the reference's Split in one form; the library's variable read off the world's shape; lists of texts that came in. No condition beyond what each theorem states. -/
import Derived.Test.YtfbajcgkcamnnaaDoorI
import Derived.Test.YtfbajcgkcamnnaaDoorTie
import Derived.ProofKit
import Derived.OpenShut
import Derived.ShutString
import Derived.ChangeOld
import Derived.SizedLaws
import Derived.Below
import Derived.LaidMore
import Derived.Lay
import Derived.SevenTiedAt
import Derived.Stop.Joined
import Derived.SliceStrings
import Derived.Shelf.Vars
namespace Go.Proofs.YtfbajcgkcamnnaaDoor
open Go
section
variable {H : Type} {enc : TypeId × Value → H}
theorem returnsInHanded_and_shaped {a : Assume} {C : Checked} {os : Os} {f : FuncId} {fn : Func} {s : ChangeSpec} {conds : List PathCond} {apart fresh handsOn again : Bool} {X : World → Array Value → Prop}
    (hX : ∀ (w w' : World) (args : Array Value), w.heap = w'.heap → X w args → X w' args)
    (own : ownKnob C.prog.godebug = none) (started : os.Started) (noInit : C.prog.inits.idxOf? f = none) (hfn : C.prog.funcs[f]? = some fn)
    (witness : ∃ (w : World) (tape : Tape) (i : Input), w.os = os ∧ (w.forCall tape i).Shaped C.prog ∧ i.vars = [] ∧ Input.okWide C.prog (w.forCall tape i) .any w.heap.size f i ∧
      ((s.pre enc C.prog fn conds apart (w.forCall tape i).memory i.args ∧ X (w.forCall tape i).memory i.args) ∧ sizedMet enc C.prog fn (OpenSpec.ofChange s) apart (w.forCall tape i).memory i.args) ∧ a.holds C.prog (lone (Frame.enter C.prog f i.args .normal) [] (w.forCall tape i)))
    (contract : ∀ (W : World) (base : Nat) (args : Array Value) (ds gs : List (DataW H)) (before : List MemPlace),
      (∀ (j : Nat) t v, fn.params[j]? = some t → args[j]? = some v → Value.okWide C.prog W .any base t v) →
      DataW.Whole enc C.prog fn.params.toList s.vars apart W args.toList ds gs before →
      conds.all (PathCond.test C.prog ⟨fn.params.toList, ds, s.plain.varTypes C.prog, gs⟩) = true →
      (DataW.weightsEach C.prog (fn.params.toList ++ s.plain.varTypes C.prog) (ds ++ gs)).all (· ≤ reachBytes) = true → X W args →
      W.ShapedOpen C.prog →
      a.holds C.prog (lone (Frame.enter C.prog f args .normal) [] W) →
      Calls C.prog f args W fun e W' => ∃ v, e = .returned v ∧ s.post enc C.prog fn apart fresh handsOn again W args v W') :
    ReturnsInHanded a C os f .any (fun w args => (s.pre enc C.prog fn conds apart w args ∧ X w args) ∧ sizedMet enc C.prog fn (OpenSpec.ofChange s) apart w args) (s.post enc C.prog fn apart fresh handsOn again) := by
  refine returnsInHanded_of_calls own started noInit witness ?_
  intro w tape i _ hsh _ hok hpre hholds
  obtain ⟨_, _, _, fn', hfn', _, _, _, _, hval⟩ := hok
  have e : fn' = fn := Option.some.inj (hfn'.symm.trans hfn)
  subst e
  obtain ⟨⟨⟨ds, gs, before, hw, hc⟩, hx⟩, hz⟩ := hpre
  have hw' := DataW.Whole.of_heap (w' := w.forCall tape i) (by rfl) hw
  refine (contract (w.forCall tape i) w.heap.size i.args ds gs before hval hw' hc (hz.weights hw) (hX _ _ _ (by rfl) hx) hsh hholds).mono fun e W' ⟨v, he, hp⟩ => ?_
  subst he
  exact ChangeSpec.post_blind hp
end
open Go Go.RowKit Go.PlainAid Go.ChangeShapes Go.WideShapes Go.ChangeAt
open Go.ChangeMaps (open_string shut_string)

theorem mx_of {w : World} (h : w.ShapedOpen Tryd.prog) : Mx w :=
  cell_of_shapedOpen_int h (show 0 < Tryd.prog.globals.size from of_decide_eq_true (by kernel_rfl)) (zero := #[.int .i64 0]) (t := 3) (by kernel_rfl) rfl (by kernel_rfl) (by kernel_rfl) Tryd.underlying3

def errL (l : Bytes) : Int := if (path l).isSome = true then 0 else 10
def SplitUni (w w' : World) (l : Bytes) (e : Ending) : Prop := ∃ v D, e = .returned (.tuple #[v, .int .i64 (errL l)]) ∧ ArgStrs w' v D ∧ tx D = (path l).getD [] ∧ Kp No w w'
theorem split_uni (s : ByteArray) (w : World) (hs : s.size ≤ maxLen) (hm : Mx w) : Calls Tryd.prog 13 #[.string s] w fun e w' => SplitUni w w' s.data.toList e := by
  refine (split_any s w hs hm).mono fun e w' h => ?_
  unfold SplitAns at h
  unfold SplitUni errL
  split at h
  · rename_i hp
    obtain ⟨rfl, rfl⟩ := h
    rw [hp]
    exact ⟨_, [], rfl, ArgStrs.nil _ _ _, rfl, Kp.refl _ _⟩
  · rename_i hp
    obtain ⟨rfl, rfl⟩ := h
    rw [hp]
    exact ⟨_, [], rfl, ArgStrs.nil _ _ _, rfl, Kp.refl _ _⟩
  · rename_i hp
    obtain ⟨L, g, rfl, hL, hb, _, hk⟩ := h
    rw [hp]
    exact ⟨_, L, rfl, hb.strs, hL, hk⟩
theorem rsplit_uni (s : ByteArray) (w : World) (hs : s.size < 9223372036854775807) : Calls Tryd.prog 14 #[.string s] w fun e w' => SplitUni w w' s.data.toList e := by
  refine (rsplit_any s w hs).mono fun e w' h => ?_
  unfold SplitUni errL
  obtain ⟨hk, ⟨hp, rfl⟩ | ⟨P, v, D, hp, rfl, hD, hA⟩⟩ := h.cases
  · rw [hp]
    exact ⟨_, [], rfl, ArgStrs.nil _ _ _, rfl, hk⟩
  · rw [hp]
    exact ⟨_, D, rfl, hA, hD, hk⟩

def errJ (L : List Bytes) : Int := if (joinL L).isSome = true then 0 else 10
theorem join_uni (v : Value) (L : List ByteArray) (w : World) (hv : ArgStrs w v L) (hs : ∀ x ∈ L, x.size ≤ maxLen) :
    Calls Tryd.prog 19 #[v] w fun e w' => e = .returned (.tuple #[.string ⟨((joinL (tx L)).getD []).toArray⟩, .int .i64 (errJ (tx L))]) ∧ Kp No w w' := by
  refine (join_any v L w hv hs).mono fun e w' h => ?_
  unfold JoinAns at h
  unfold errJ
  split at h
  · rename_i hp; obtain ⟨rfl, rfl⟩ := h; rw [hp]; exact ⟨rfl, Kp.refl _ _⟩
  · rename_i hp; obtain ⟨rfl, hk⟩ := h; rw [hp]; exact ⟨rfl, hk⟩
theorem rjoin_uni (v : Value) (L : List ByteArray) (w : World) (hv : ArgStrs w v L) :
    Calls Tryd.prog 20 #[v] w fun e w' => e = .returned (.tuple #[.string ⟨((joinL (tx L)).getD []).toArray⟩, .int .i64 (errJ (tx L))]) ∧ Kp No w w' := by
  refine (rjoin_any v L w hv).mono fun e w' h => ?_
  obtain ⟨h, rfl⟩ := h
  unfold RJoin at h
  unfold errJ
  split at h
  · rename_i hp; subst h; rw [hp]; exact ⟨rfl, Kp.refl _ _⟩
  · rename_i hp; subst h; rw [hp]; exact ⟨rfl, Kp.refl _ _⟩
theorem same_eq (v u : Value) (L M : List ByteArray) (w : World) (hv : ArgStrs w v L) (hu : ArgStrs w u M) (hL : L.length ≤ 140737488355328) (h : L = M) :
    Calls Tryd.prog 15 #[v, u] w fun e w' => e = .returned (.bool true) ∧ Kp No w w' := by
  have := same_any v u L M w hv hu hL
  rwa [decide_eq_true h] at this
theorem split_len {l : Bytes} {D : List ByteArray} (h : tx D = (path l).getD []) : D.length ≤ 4 := by
  rw [← tx_length, h]
  cases hp : path l with
  | none => simp
  | some P => exact path_le hp

section
variable {H : Type} {enc : TypeId × Value → H} {P : Program}
/-- a list of texts that came in -/
theorem open_strs {W : World} {b0 : Nat} {t e : TypeId} {v : Value} {d : DataW H} {ps : List MemPlace} (ht : P.underlying t = some (.slice e)) (he : P.underlying e = some .string)
    (ce : P.cellsOf e = 1) (be : P.bytesOf e = 16) (hv : Value.okWide P W .any b0 t v) (h : DataW.Trod enc P W 0 (fun _ => true) true t v d ps)
    (hz : ∀ n ∈ d.weights P t, n ≤ reachBytes) :
    ∃ L : List ByteArray, ArgStrs W v L ∧ L.length ≤ 8796093021952 ∧ ∀ x ∈ L, x.size ≤ maxLen := by
  obtain ⟨a, len, cap, rfl⟩ := okWide_slice ht hv
  obtain ⟨fuel, hf⟩ := h
  rcases open_strings ht he ce hf with ⟨hcs, hx⟩ | ⟨a', len', cap', ss, hcs, _, hl, hm, hn, hx, hc, hs⟩
  · simp [Value.cells] at hcs
    obtain ⟨rfl, rfl, rfl⟩ := hcs
    exact ⟨[], ArgStrs.nil _ _ _, by simp, by simp⟩
  · simp [Value.cells] at hcs
    obtain ⟨rfl, rfl, rfl⟩ := hcs
    have hn' : ss.length = cap := by simpa using hn
    injection hx with hd _
    have hw := hz ((len + (cap - len)) * P.bytesOf e) (by rw [hd]; simp [DataW.weights, ht, hn', strs, Nat.min_eq_left hl])
    rw [be] at hw
    have hlen : (ss.take len).length = len := by simp [hn', hl]
    refine ⟨ss.take len, ⟨some a', cap, by rw [hlen], by rw [hlen]; exact hl, fun hne => ?_⟩, by rw [hlen]; simp [reachBytes] at hw; omega, fun x hx => hs x (List.mem_of_mem_take hx)⟩
    have h0 : 0 < ss.length := by
      rcases Nat.eq_zero_or_pos ss.length with h0 | h0
      · exfalso; apply hne; rw [List.eq_nil_of_length_eq_zero h0]; simp
      · exact h0
    have addr_none : ∀ {w : World} {a : Addr} {v : Value}, w.cell? (a.add 0) = some v → ∃ b o, a = ⟨b, o, none⟩ := by
      intro w a v h
      obtain ⟨b, o, s⟩ := a
      cases s with
      | none => exact ⟨b, o, rfl⟩
      | some s =>
        exfalso
        simp only [World.cell?, Addr.add, if_true] at h
        split at h <;> simp_all
    obtain ⟨b, o, rfl⟩ := addr_none (hc 0 h0)
    refine ⟨b, o, rfl, fun j v hv => ?_⟩
    rw [List.getElem?_map] at hv
    have hj : j < (ss.take len).length := by
      rcases Nat.lt_or_ge j (ss.take len).length with h' | h'
      · exact h'
      · rw [List.getElem?_eq_none h'] at hv; simp at hv
    rw [List.getElem?_eq_getElem hj] at hv
    simp only [Option.map_some, Option.some.injEq] at hv
    subst hv
    rw [hlen] at hj
    rw [← Addr.add_mid, hc j (by omega), List.getElem_take, List.getD_eq_getElem?_getD, List.getElem?_eq_getElem (by omega)]
    rfl
end
end Go.Proofs.YtfbajcgkcamnnaaDoor
