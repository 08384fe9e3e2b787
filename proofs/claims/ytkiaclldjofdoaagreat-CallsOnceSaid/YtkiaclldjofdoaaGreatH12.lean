/- Several texts of this claim in one. No condition beyond what each theorem states. -/
import Derived.Test.YtkiaclldjofdoaaGreatH04
import Derived.Test.YtkiaclldjofdoaaGreatH02
import Derived.Test.YtkiaclldjofdoaaGreatH10
import Derived.Test.YtkiaclldjofdoaaGreatH11
/- Plain law of CallsOnce: what the script's steps keep. No condition beyond what each theorem states. -/
namespace Go.Proofs.YtkiaclldjofdoaaGreat
open Go Go.RowKit Go.Maps

/-- what is kept of a call that is open: when it was first sent, that it may be, how often it was sent -/
structure OnceX (j : Nat) (S : List Int) (x : Cll) : Prop where
  sent : S[(x.seq - 1).toNat]? = some x.sent
  ok : okX x
  tries : 1 ≤ x.tries ∧ x.tries ≤ (j : Int) + 1
  inx : InX x
def OnceL (j : Nat) (S : List Int) (l : List Cll) : Prop := ∀ x ∈ l, OnceX j S x
theorem OnceX.more {j : Nat} {S : List Int} {x : Cll} (h : OnceX j S x) : OnceX (j + 1) S x := ⟨h.sent, h.ok, ⟨h.tries.1, by have := h.tries.2; omega⟩, h.inx⟩
theorem OnceL.more {j : Nat} {S : List Int} {l : List Cll} (h : OnceL j S l) : OnceL (j + 1) S l := fun x hx => (h x hx).more
theorem inx_tries {x : Cll} (h : InX x) {t : Int} (ht : 0 ≤ t ∧ t < 9223372036854775808) : InX { x with tries := t } := by
  refine ⟨fun n hn => ?_, h.path⟩
  have := h.num
  simp only [List.mem_cons, List.not_mem_nil, or_false, forall_eq_or_imp, forall_eq] at this hn
  rcases hn with rfl | rfl | rfl | rfl | rfl | rfl | rfl | rfl <;> omega
theorem once_again {c : Cls} {j : Nat} {S : List Int} (hj : j ≤ 400) (n : Int) (h : OnceL j S c.opn) : OnceL (j + 1) S (againC c n).opn := by
  unfold againC
  cases hg : getC c.opn n with
  | none => exact h.more
  | some x =>
    have hx := h x (getC_mem hg).1
    have hw : wrap64 (x.tries + 1) = x.tries + 1 := by
      have := hx.tries
      unfold wrap64
      omega
    intro z hz
    obtain ⟨z0, hz0, rfl⟩ := List.mem_map.1 hz
    by_cases he : z0.seq = (againX x).seq
    · rw [if_pos he]
      have ht := hx.tries
      refine ⟨hx.sent, hx.ok, ?_, ?_⟩
      · show 1 ≤ wrap64 (x.tries + 1) ∧ wrap64 (x.tries + 1) ≤ ((j + 1 : Nat) : Int) + 1
        rw [hw]; omega
      · exact inx_tries hx.inx (by rw [hw]; omega)
    · rw [if_neg he]
      exact (h z0 hz0).more
theorem once_close {c : Cls} {j : Nat} {S : List Int} (n : Int) (h : OnceL j S c.opn) : OnceL (j + 1) S (closeC c n).opn := fun x hx => (h x (List.mem_filter.1 hx).1).more
theorem once_open {c : Cls} {j : Nat} {S : List Int} {x : Cll} (now : Int) (hc : CsOk c) (hx : InX x) (ho : okX x) (hs : (S.length : Int) = c.next - 1) (hn : 0 ≤ now ∧ now ≤ 1152921504606846976) (h : OnceL j S c.opn) : OnceL (j + 1) (S ++ [now]) (openC c now x).opn := by
  intro z hz
  rcases List.mem_append.1 hz with hz | hz
  · have h1 := (h z hz).more
    refine ⟨?_, h1.ok, h1.tries, h1.inx⟩
    have h2 := h1.sent
    rw [List.getElem?_append_left (List.getElem?_eq_some_iff.1 h2).1]
    exact h2
  · simp only [List.mem_singleton] at hz
    subst hz
    have hc2 := hc.next
    refine ⟨?_, ho, ⟨(by decide : (1 : Int) ≤ 1), by show (1 : Int) ≤ _; omega⟩, ⟨fun n hn2 => ?_, hx.path⟩⟩
    · show (S ++ [now])[(c.next - 1).toNat]? = some now
      rw [show (c.next - 1).toNat = S.length by omega, List.getElem?_append_right (Nat.le_refl _), Nat.sub_self]
      rfl
    · have := hx.num
      simp only [List.mem_cons, List.not_mem_nil, or_false, forall_eq_or_imp, forall_eq, callC] at this hn2
      rcases hn2 with rfl | rfl | rfl | rfl | rfl | rfl | rfl | rfl <;> omega
/-- what a round keeps -/
def OnceS (j : Nat) (S : List Int) (c : Cls) : Prop := CsOk c ∧ (S.length : Int) = c.next - 1 ∧ S.length ≤ j ∧ OnceL j S c.opn
theorem OnceS.again {j : Nat} {S : List Int} {c : Cls} (h : OnceS j S c) (hj : j ≤ 400) (n : Int) : OnceS (j + 1) S (againC c n) := by
  refine ⟨againC_ok h.1 n, ?_, by have := h.2.2.1; omega, once_again hj n h.2.2.2⟩
  have : (againC c n).next = c.next := by unfold againC; split <;> rfl
  rw [this]; exact h.2.1
theorem OnceS.close {j : Nat} {S : List Int} {c : Cls} (h : OnceS j S c) (n : Int) : OnceS (j + 1) S (closeC c n) :=
  ⟨h.1.closed n, h.2.1, by have := h.2.2.1; omega, once_close n h.2.2.2⟩
theorem OnceS.more {j : Nat} {S : List Int} {c : Cls} (h : OnceS j S c) : OnceS (j + 1) S c := ⟨h.1, h.2.1, by have := h.2.2.1; omega, h.2.2.2.more⟩
theorem OnceS.opened {j : Nat} {S : List Int} {c : Cls} (h : OnceS j S c) {ok : Prop} [Decidable ok] {now : Int} {x : Cll} (hx : InX x) (ho : ok → okX x) (he : startE (decide ok) c now = 0) : OnceS (j + 1) (S ++ [now]) (openC c now x) := by
  have hok := h.1.opened x he
  unfold startE at he
  split at he; · cases he
  split at he; · cases he
  rename_i h1 h2
  have h3 : ok := by simpa using h2
  refine ⟨hok, ?_, by rw [List.length_append]; have := h.2.2.1; simp; omega, once_open now h.1 hx (ho h3) h.2.1 (by omega) h.2.2.2⟩
  rw [List.length_append]
  have := h.2.1
  show ((S.length + 1 : Nat) : Int) = c.next + 1 - 1
  omega
end Go.Proofs.YtkiaclldjofdoaaGreat

/- Words for CallsOnce. No condition beyond what each theorem states. -/
namespace Go.Proofs.YtkiaclldjofdoaaGreat
open Go Go.RowKit Go.Maps Go.PlainAid

theorem infoI14 : (Tryz.prog.info? 3).map (fun i => (i.zero, i.size, i.bytes)) = some (some (.int .i64 0), 1, 8) := by kernel_rfl
/-- what a round of CallsOnce finds -/
def OnceW (W : World) (b mb : Nat) (boot : Int) (j : Nat) (p q : Value) (w : World) : Prop :=
  ∃ (c : Cls) (S : List Int), p = .int .i64 (c.next - 1) ∧ OnceS j S c ∧ c.boot = boot ∧ OwnCs w b mb c ∧ w.ownsRow W.heap.size 3 1 q S.length (ints S) ∧ Kp No W w
theorem row_two {w w' : World} {B : Nat} {q : Value} {n : Nat} {xs : List Value} {b mb : Nat} {c : Cls} (h : w.ownsRow B 3 1 q n xs) (ho : OwnCs w b mb c) (hk : Kp (Two b mb) w w') : w'.ownsRow B 3 1 q n xs :=
  own_kp h hk fun g e => by obtain ⟨cs, hb⟩ := own_bkC h g e; exact ho.off hb (by decide)
theorem row_one {w w' : World} {B : Nat} {q : Value} {n : Nat} {xs : List Value} {b mb : Nat} {c : Cls} (h : w.ownsRow B 3 1 q n xs) (ho : OwnCs w b mb c) (hk : Kp (One mb) w w') : w'.ownsRow B 3 1 q n xs := row_two h ho (hk.mono fun _ _ e => .inr e)
theorem OwnCs.ints {w w' : World} {b mb : Nat} {c : Cls} {M : Nat → Prop} (h : OwnCs w b mb c) (hk : Kp M w w') (hm : ∀ g, M g → ∃ cs, Bk w g 3 cs) : OwnCs w' b mb c := by
  refine h.kp hk (fun m => ?_) (fun m => ?_)
  · obtain ⟨cs, hb⟩ := hm b m; exact h.off hb (by decide) (.inl rfl)
  · obtain ⟨cs, hb⟩ := hm mb m; exact h.off hb (by decide) (.inr rfl)
theorem getC_closed (l : List Cll) (n : Int) : getC (l.filter (fun x => decide (x.seq ≠ n))) n = none := by
  unfold getC
  rw [List.find?_eq_none]
  intro x hx
  have := (List.mem_filter.1 hx).2
  simpa using this
end Go.Proofs.YtkiaclldjofdoaaGreat
