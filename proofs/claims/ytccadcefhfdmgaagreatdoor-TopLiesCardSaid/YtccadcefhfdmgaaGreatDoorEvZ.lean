/- The law TopLies, walked by the evaluator in stages. No condition beyond what each theorem states. -/
import Derived.Test.YtccadcefhfdmgaaGreatDoorEvY
import Derived.Test.YtccadcefhfdmgaaGreatDoorEvS5a
import Derived.Test.YtccadcefhfdmgaaGreatDoorEvS5b
import Derived.Test.YtccadcefhfdmgaaGreatDoorEvS5c
import Derived.Test.YtccadcefhfdmgaaGreatDoorEvS5d
import Derived.Test.YtccadcefhfdmgaaGreatDoorEvS5e
import Derived.Test.YtccadcefhfdmgaaGreatDoorEvS3a
import Derived.Test.YtccadcefhfdmgaaGreatDoorEvS3b
import Derived.Test.YtccadcefhfdmgaaGreatDoorEvS3c
import Derived.Test.YtccadcefhfdmgaaGreatDoorEvS3d
import Derived.Test.YtccadcefhfdmgaaGreatDoorEvS3e
namespace Go.Proofs.YtccadcefhfdmgaaGreatDoor.Ev
open Go Go.Proofs

theorem mixed : Tryz.prog.follows .mixedOrders = true := by kernel_rfl
theorem dropC_other {c : Code} (h : ∀ y z, c ≠ .seq y z) : ∀ m, dropC m c = c
  | 0 => by cases c <;> rfl
  | m + 1 => by cases c <;> first | rfl | exact absurd rfl (h _ _)
theorem dropC_add : ∀ (k j : Nat) (c : Code), dropC j (dropC k c) = dropC (k + j) c
  | 0, j, c => by
    rw [Nat.zero_add]
    cases c <;> rfl
  | k + 1, j, c => by
    by_cases h : ∃ y z, c = .seq y z
    · obtain ⟨y, z, rfl⟩ := h
      rw [show k + 1 + j = (k + j) + 1 by omega]
      exact dropC_add k j z
    · have h : ∀ y z, c ≠ .seq y z := fun y z e => h ⟨y, z, e⟩
      rw [dropC_other h, dropC_other h, dropC_other h]
theorem res5 : (onO (fnC Tryz.prog 5) false fun x => resW x.W x.res) = true := by kernel_rfl
theorem res3 : (onO (fnC Tryz.prog 3) false fun x => resW x.W x.res) = true := by kernel_rfl
theorem ev_intr : SOk Tryz.prog (ev Tryz.prog intr 200) := ev_ok mixed intr_ok 200
theorem tenancy_any (w : World) : CallsIn (FW none) 0 Tryz.prog 5 #[] w fun e w' => ∃ b o, e = .returned (.pointer (some ⟨b, o, none⟩)) ∧ RowKit.Below w.heap.size w w' := by
  obtain ⟨x, hx, hw⟩ := onO_t res5
  have a := st5a; have b := st5b; have c := st5c; have d := st5d; have e := st5e
  rw [hx, onO_s] at a b c d e
  refine start_run hx fun fn act hf hres g => ?_
  refine stage_run mixed ev_intr hx (c' := dropC 4 x.body) rfl a g fun act1 w1 g1 => ?_
  refine stage_run mixed ev_intr hx (c' := dropC 5 x.body) (dropC_add 4 1 _) b g1 fun act2 w2 g2 => ?_
  refine stage_run mixed ev_intr hx (c' := dropC 7 x.body) (dropC_add 5 2 _) c g2 fun act3 w3 g3 => ?_
  refine stage_run mixed ev_intr hx (c' := dropC 8 x.body) (dropC_add 7 1 _) d g3 fun act4 w4 g4 => ?_
  refine last_run mixed ev_intr hx hres hw g4 fun E R => ?_
  obtain ⟨i, o, h', he⟩ := isPtrR_eq e
  rw [he]
  intro E' R' w' v' st inv rv
  exact ⟨_, _, congrArg Ending.returned rv.ptr.1, inv.bel⟩
theorem ptr_ok (s : S) (l : List AV) (h : H) (vs : List Value) (E : Env) (R : Nat → Prop) (w0 w : World) (T : Ending → World → Prop) (inv : Inv Tryz.prog E R h w0 w) (ar : ArgsRel E R l vs) (hp : Post Tryz.prog w0 E R h T (iPtr s l h)) : CallsIn (FW none) 0 Tryz.prog 5 vs.toArray w T := by
  cases l with
  | cons v l => exact hp.elim
  | nil =>
    match vs, ar.1 with
    | [], _ =>
      have hp : Post Tryz.prog w0 E R h T (.ret (.ptr h.n 0) (h.skip 1)) := hp
      refine (tenancy_any w).mono ?_
      rintro e w' ⟨b, o, rfl, hb⟩
      have ag : ∀ j, j ≠ h.n → E.Agree (E.upd h.n b o 0 0) j := fun j hj => upd_agree E h.n _ _ _ _ j hj
      obtain ⟨s1, i1⟩ := skip_step inv ag
      refine hp (E.upd h.n b o 0 0) _ w' _ s1 (inv_below i1 hb) fun _ => ⟨.inr rfl, ?_⟩
      simp [conc, Env.upd]
theorem intr5_ok : IOk Tryz.prog intr5 := by
  intro f g hg s sok l h vs E R w0 w T inv ar hp
  unfold intr5 at hg
  cases h1 : Nat.beq f 5 with
  | true =>
    rw [h1, cnd_t] at hg
    injection hg with hg
    subst hg
    rw [beq_e h1]
    exact ptr_ok s l h vs E R w0 w T inv ar hp
  | false =>
    rw [h1, cnd_f] at hg
    exact intr_ok f g hg s sok l h vs E R w0 w T inv ar hp
theorem ev_intr5 : SOk Tryz.prog (ev Tryz.prog intr5 200) := ev_ok mixed intr5_ok 200
theorem lies_any (w : World) : Calls Tryz.prog 3 #[] w fun e w' => e = .returned (.bool true) ∧ RowKit.Below w.heap.size w w' := by
  refine callsIn_wide.1 (?_ : CallsIn (FW none) 0 Tryz.prog 3 #[] w _)
  obtain ⟨x, hx, hw⟩ := onO_t res3
  have a := st3a; have b := st3b; have c := st3c; have d := st3d; have e := st3e
  rw [hx, onO_s] at a b c d e
  refine start_run hx fun fn act hf hres g => ?_
  refine stage_run mixed ev_intr5 hx (c' := dropC 4 x.body) rfl a g fun act1 w1 g1 => ?_
  refine stage_run mixed ev_intr5 hx (c' := dropC 5 x.body) (dropC_add 4 1 _) b g1 fun act2 w2 g2 => ?_
  refine stage_run mixed ev_intr5 hx (c' := dropC 8 x.body) (dropC_add 5 3 _) c g2 fun act3 w3 g3 => ?_
  refine stage_run mixed ev_intr5 hx (c' := dropC 9 x.body) (dropC_add 8 1 _) d g3 fun act4 w4 g4 => ?_
  refine last_run mixed ev_intr5 hx hres hw g4 fun E R => ?_
  obtain ⟨h', he⟩ := isTrueR_eq e
  rw [he]
  intro E' R' w' v' st inv rv
  exact ⟨congrArg Ending.returned rv.bool, inv.bel⟩
end Go.Proofs.YtccadcefhfdmgaaGreatDoor.Ev
