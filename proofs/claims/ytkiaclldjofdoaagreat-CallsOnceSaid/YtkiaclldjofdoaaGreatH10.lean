/- Words for the laws of calls. No condition beyond what each theorem states. -/
import Derived.Test.YtkiaclldjofdoaaGreatH06
import Derived.Test.YtkiaclldjofdoaaGreatH09
import Derived.Test.YtkiaclldjofdoaaGreatH07
import Derived.Test.YtkiaclldjofdoaaGreatB26
namespace Go.Proofs.YtkiaclldjofdoaaGreat
open Go Go.RowKit Go.Maps Go.PlainAid

theorem infoO : (Tryz.prog.info? 43).map (·.size) = some 13 := by kernel_rfl
/-- an operation's cells as a variable -/
structure Thn (C : List Value) : Prop where
  len : C.length = 13
  one : C.toArray.all (·.oneCell') = true
theorem Thn.of (o : Opr) : Thn (oC o) := ⟨rfl, by simp [oC, cC, Value.oneCell']⟩
theorem Thn.info {C : List Value} (h : Thn C) : (Tryz.prog.info? 43).map (·.size) = some C.toArray.size := by rw [List.size_toArray, h.len]; exact infoO
theorem Thn.infoL {C : List Value} (h : Thn C) : (Tryz.prog.info? 43).map (·.size) = some C.length := by rw [h.len]; exact infoO
theorem Bk.thereO {w : World} {g : Nat} {t : TypeId} {cs C : List Value} (h : Bk w g t cs) (hl : cs.length = 13) (hC : Thn C) : w.there g 0 C.toArray.size := by
  rw [List.size_toArray, hC.len]; exact h.there 0 13 (by omega)
theorem oC_x {w : World} {g : Nat} {t : TypeId} {o : Opr} (h : Bk w g t (oC o)) : w.rangeAt g 3 (cC o.x) := fun j v hv => by
  rw [h.cell]
  unfold oC
  rw [List.getElem?_append_right (by simp)]
  simpa using hv
/-- the two sides of the law's calls, one beside the other -/
def Beside (W : World) (b mb mB : Nat) (boot : Int) (wx : World) : Prop :=
  ∃ (c : Cls) (sv : Value), OwnCs wx b mb c ∧ CsOk c ∧ c.boot = boot ∧ Bk wx mB 39 (rC c.boot c.next sv) ∧ ArgC wx sv c.opn ∧ Kp No W wx
theorem ArgC.far {w w' : World} {v : Value} {l : List Cll} {q : Nat} {t : TypeId} {cs : List Value} (h : ArgC w v l) (hb : Bk w q t cs) (hl : cs.length < 10) (hk : Kp (One q) w w') : ArgC w' v l := by
  obtain ⟨A, c, rfl, hc, h⟩ := h
  refine ⟨A, c, rfl, hc, fun hne => ?_⟩
  obtain ⟨g, o, rfl, h1, h2⟩ := h hne
  have hgq : g ≠ q := by
    rintro rfl
    have := h2 0 (List.length_pos_iff.2 hne) 9 _ rfl
    rw [hb.cell, List.getElem?_eq_none (by omega)] at this
    cases this
  exact ⟨g, o, rfl, Nat.lt_of_lt_of_le h1 hk.size, fun k hk' => range_kp (h2 k hk') hk hgq⟩
theorem ArgC.two {w w' : World} {v : Value} {l : List Cll} {b mb : Nat} {c : Cls} (h : ArgC w v l) (ho : OwnCs w b mb c) (hk : Kp (Two b mb) w w') : ArgC w' v l := by
  obtain ⟨A, cp, rfl, hc, h⟩ := h
  refine ⟨A, cp, rfl, hc, fun hne => ?_⟩
  obtain ⟨g, o, rfl, h1, h2⟩ := h hne
  have hgq : ¬ Two b mb g := by
    have := h2 0 (List.length_pos_iff.2 hne) 9 _ rfl
    rintro (rfl | rfl)
    · rw [ho.1.cell, List.getElem?_eq_none (by simp)] at this
      cases this
    · obtain ⟨es, clock, h3, _⟩ := ho.2
      simp [World.cell?, h3] at this
  exact ⟨g, o, rfl, Nat.lt_of_lt_of_le h1 hk.size, fun k hk' => range_kp (h2 k hk') hk hgq⟩
theorem ArgC.one {w w' : World} {v : Value} {l : List Cll} {b mb : Nat} {c : Cls} (h : ArgC w v l) (ho : OwnCs w b mb c) (hk : Kp (One mb) w w') : ArgC w' v l := h.two ho (hk.mono fun _ _ e => .inr e)
theorem again_opn (c : Cls) (s : Int) : (againC c s).opn = agL c.opn s ∧ (againC c s).boot = c.boot ∧ (againC c s).next = c.next := by
  unfold againC agL
  cases getC c.opn s with
  | none => exact ⟨rfl, rfl, rfl⟩
  | some x => exact ⟨rfl, rfl, rfl⟩
theorem askS_stamp (c : Cls) (f s : Int) : (askS c f s).stamp = [] := by
  unfold askS
  cases getC c.opn s with
  | none => rfl
  | some x => dsimp only; split <;> rfl
theorem ask_same (c : Cls) (f s : Int) (W : World) : Calls Tryz.prog 20 #[.agg (mcells (askS c f s) (.slice none 0 0)).toArray, .agg (mcells (askS c f s) (.slice none 0 0)).toArray] W fun e w' => e = .returned (.bool true) ∧ Kp No W w' := by
  have hs := askS_stamp c f s
  have h := rsame_any (askS c f s) (askS c f s) none none 0 0 W (by rw [hs]; exact (SlI.nil W none 0).arg) (by rw [hs]; exact (SlI.nil W none 0).arg) (by rw [hs]; decide) (by rw [hs]; decide)
  rw [hs, decide_eq_true rfl] at h
  exact h
theorem step_ok {c : Cls} (h : CsOk c) (ok : Bool) (now : Int) (x : Cll) : CsOk (stepO c now x (startE ok c now)) := by
  unfold stepO
  by_cases e : startE ok c now = 0
  · rw [if_pos e]; exact h.opened x e
  · rw [if_neg e]; exact h
theorem step_boot (c : Cls) (now : Int) (x : Cll) (er : Int) : (stepO c now x er).boot = c.boot := by
  unfold stepO; split <;> rfl
end Go.Proofs.YtkiaclldjofdoaaGreat
