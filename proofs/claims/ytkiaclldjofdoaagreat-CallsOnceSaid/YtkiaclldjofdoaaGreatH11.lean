/- Words for CallsOwn: rows of calls that are written and grown. No condition beyond what each theorem states. -/
import Derived.Test.YtkiaclldjofdoaaGreatH06
import Derived.Test.YtkiaclldjofdoaaGreatH09
import Derived.Test.YtkiaclldjofdoaaGreatH07
namespace Go.Proofs.YtkiaclldjofdoaaGreat
open Go Go.RowKit Go.Maps Go.PlainAid

theorem load_mid_g {P : Program} {ops : Array Oper} {rest : List Oper} {op : Oper} {a : Act} {w : World} {Q : Exit → Act → World → Prop} (hw : Region.wanted op (yielded ops a.tmps) = true) (ty : TypeId) (x : Operand) (ho : op.op = .load ty x)
    (b o : Nat) (hx : a.eval x = .pointer (some ⟨b, o, none⟩)) (cs : List Value) (d : TypeDesc) (hc : w.rangeAt b o cs)
    (hu : P.underlying ty = some d) (hd : d.isRow = true) (hi : (P.info? ty).map (·.size) = some cs.length)
    (h : wpList P ops Q rest (a.put op.dst (.agg cs.toArray)) w) : wpList P ops Q (op :: rest) a w :=
  wpList_step fun K hK => by
    rw [if_pos hw]
    exact wp_load_mid ty x ho b o hx cs d hc hu hd hi (hK _ _ h)
/-- cells stored into a row of one's own -/
theorem own_sets {B n cap size : Nat} {t : TypeId} {g : Nat} : ∀ (vs : List Value) (o : Nat) {w : World} {xs : List Value}, w.ownsRow B t size (.slice (some ⟨g, 0, none⟩) n cap) n xs → ∃ xs', (w.setCells g o vs).ownsRow B t size (.slice (some ⟨g, 0, none⟩) n cap) n xs'
  | [], _, _, xs, h => ⟨xs, h⟩
  | v :: r, o, _, _, h => own_sets r (o + 1) (h.stored o v).1
theorem own_there {B n cap : Nat} {t : TypeId} {g : Nat} {w : World} {xs : List Value} (h : w.ownsRow B t 10 (.slice (some ⟨g, 0, none⟩) n cap) n xs) {j : Nat} (hj : j < n) {C : List Value} (hC : Ten C) : w.there g (j * 10) C.toArray.size := fun k hk => by
  rw [List.size_toArray, hC.len] at hk
  have hlen : xs.length = n * 10 := h.1
  have hlt : j * 10 + k < n * 10 := by omega
  refine ⟨?_, h.frozenAt _⟩
  rw [h.cellAt _ hlt, List.getElem?_eq_getElem (by omega)]
  rfl
/-- two rows of calls, apart -/
structure Rows2 (w : World) (B : Nat) (p q : Value) (n : Nat) (l : List Cll) : Prop where
  rp : ∃ xs, w.ownsRow B 32 10 p n xs
  rq : w.ownsRow B 32 10 q l.length (cL l)
  ne : ∀ g, p.ownBlock = some g → q.ownBlock ≠ some g
theorem Rows2.kp {w w' : World} {B : Nat} {p q : Value} {n : Nat} {l : List Cll} {M : Nat → Prop} (h : Rows2 w B p q n l) (hk : Kp M w w') (hm : ∀ g cs, Bk w g 32 cs → ¬ M g) : Rows2 w' B p q n l := by
  obtain ⟨xs, h1⟩ := h.rp
  refine ⟨⟨xs, own_kp h1 hk fun g e => ?_⟩, own_kp h.rq hk fun g e => ?_, h.ne⟩
  · obtain ⟨cs, hb⟩ := own_bkC h1 g e; exact hm g cs hb
  · obtain ⟨cs, hb⟩ := own_bkC h.rq g e; exact hm g cs hb
theorem Rows2.no {w w' : World} {B : Nat} {p q : Value} {n : Nat} {l : List Cll} (h : Rows2 w B p q n l) (hk : Kp No w w') : Rows2 w' B p q n l := h.kp hk fun _ _ _ m => m
theorem Rows2.two {w w' : World} {B : Nat} {p q : Value} {n : Nat} {l : List Cll} {b mb : Nat} {c : Cls} (h : Rows2 w B p q n l) (ho : OwnCs w b mb c) (hk : Kp (Two b mb) w w') : Rows2 w' B p q n l := h.kp hk fun _ _ hb => ho.off hb (by decide)
theorem Rows2.one {w w' : World} {B : Nat} {p q : Value} {n : Nat} {l : List Cll} {b mb : Nat} {c : Cls} (h : Rows2 w B p q n l) (ho : OwnCs w b mb c) (hk : Kp (One mb) w w') : Rows2 w' B p q n l := h.two ho (hk.mono fun _ _ e => .inr e)
/-- a set of calls stays when a row of calls is written -/
theorem OwnCs.row {w w' : World} {b mb : Nat} {c : Cls} {M : Nat → Prop} (h : OwnCs w b mb c) (hk : Kp M w w') (hm : ∀ g, M g → ∃ cs, Bk w g 32 cs) : OwnCs w' b mb c := by
  refine h.kp hk (fun m => ?_) (fun m => ?_)
  · obtain ⟨cs, hb⟩ := hm b m; exact h.off hb (by decide) (.inl rfl)
  · obtain ⟨cs, hb⟩ := hm mb m; exact h.off hb (by decide) (.inr rfl)
theorem two_apart {w : World} {b mb b' mb' : Nat} {c c' : Cls} (h : OwnCs w b mb c) (h' : OwnCs w b' mb' c') (hb : b ≠ b') (hm : mb ≠ mb') : ¬ Two b mb b' ∧ ¬ Two b mb mb' := by
  constructor
  · rintro (e | e)
    · exact hb (Eq.symm e)
    · obtain ⟨es, clock, h1, _⟩ := h.2
      have h2 := h'.1
      unfold Bk at h2
      rw [e, h1] at h2
      cases h2
  · rintro (e | e)
    · obtain ⟨es, clock, h1, _⟩ := h'.2
      have h2 := h.1
      unfold Bk at h2
      rw [← e, h1] at h2
      cases h2
    · exact hm (Eq.symm e)
/-- the first closed -/
theorem close_head (c : Cls) (x : Cll) (r : List Cll) (h : Ris (x :: r)) : closeC { c with opn := x :: r } x.seq = { c with opn := r } := by
  unfold closeC
  have e1 : ¬ (fun y : Cll => decide (y.seq ≠ x.seq)) x = true := by simp
  have e2 : r.filter (fun y : Cll => decide (y.seq ≠ x.seq)) = r := List.filter_eq_self.2 fun y hy => by
    have := (List.pairwise_cons.1 h).1 y hy
    have h3 : y.seq ≠ x.seq := by omega
    simpa using h3
  simp only
  rw [List.filter_cons_of_neg (p := fun y : Cll => decide (y.seq ≠ x.seq)) e1, e2]
def neg9 : Cll := { seq := -9 }
end Go.Proofs.YtkiaclldjofdoaaGreat
