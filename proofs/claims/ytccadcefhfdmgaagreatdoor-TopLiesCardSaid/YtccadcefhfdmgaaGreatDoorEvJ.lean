/- The evaluator is sound: what it answers the program does. No condition beyond what each theorem states. -/
import Derived.Test.YtccadcefhfdmgaaGreatDoorEvI
import Derived.LoopNIn
import Derived.RangeFuncIn
import Derived.RangeFuncLeaves
import Derived.RecoverIn
namespace Go.Proofs.YtccadcefhfdmgaaGreatDoor.Ev
open Go
section
variable {P : Program} {F : Fence} {n : Nat} {b : Frame} {a : Act} {k : List Item} {cs : List Frame} {w : World} {Q : Exit → Act → World → Prop}
theorem stepR_scope {c : Code} : step P (lone (b.atR a (.code (.scope c) :: k)) cs w) = .next (lone (b.atR a (.code c :: .inScope c :: k)) cs w) :=
  step_lone_go (by simp [stepG, stepG.exec, Frame.atR])
theorem stepR_inScope {c : Code} : step P (lone (b.atR a (.inScope c :: k)) cs w) = .next (lone (b.atR a k) cs w) :=
  step_lone_go (by simp [stepG, stepG.exec, Frame.atR])
def noGoto (Q : Exit → Act → World → Prop) : Exit → Act → World → Prop
  | .goto _, _, _ => False
  | e, a, w => Q e a w
theorem wpIn_scope {c : Code} (h : c.wpIn F n P (noGoto Q) a w) : (Code.scope c).wpIn F n P Q a w := by
  intro b k cs hro hb hr
  have h0 : (lone (b.atR a (.code (.scope c) :: k)) cs w).fenced P F := fenced_calm hb hr rfl
  obtain ⟨e, a₁, w₁, hq, harr⟩ := h b (.inScope c :: k) cs hro hb hr
  cases e with
  | normal => exact ⟨.normal, a₁, w₁, hq, .head h0 stepR_scope (StepsIn.trans harr (.one (fenced_calm hb hr rfl) stepR_inScope))⟩
  | exit id =>
    have hx : exitTo id (.inScope c :: k) = exitTo id k := by simp [exitTo]
    exact ⟨.exit id, a₁, w₁, hq, fun k' hk => .head h0 stepR_scope (harr.1 k' (by rw [hx]; exact hk)), fun hr' hk => let ⟨k₁, h1, h2⟩ := harr.2 hr' (by rw [hx]; exact hk); ⟨k₁, h1, .head h0 stepR_scope h2⟩⟩
  | goto l => exact hq.elim
  | ret => exact ⟨_, a₁, w₁, hq, .of_steps (.one h0 stepR_scope) harr⟩
  | panic ch => exact ⟨_, a₁, w₁, hq, .of_steps (.one h0 stepR_scope) harr⟩
  | outgrown => exact ⟨_, a₁, w₁, hq, .of_steps (.one h0 stepR_scope) harr⟩
end
section
variable {P : Program} {W : Tr Bool} {nt : Nat} {w0 : World} {E : Env} {R : Nat → Prop} {h : H} {Q : Exit → Act → World → Prop}
theorem acc_norm {o : Out} {f : A → List ADef → H → Out} {N : Act → World → Prop} (x : Acc P W nt w0 E R h Q (o.onNorm f))
    (hN : ∀ a ds h' E' R' act' w', Step E R h E' R' h' → Good P E' R' W nt h' w0 w' a ds act' → Acc P W nt w0 E' R' h' Q (f a ds h') → N act' w') : Acc P W nt w0 E R h (Exit.then N Q) o := by
  cases o with
  | norm a ds h' => exact fun E' R' act' w' s g => hN a ds h' E' R' act' w' s g (Acc.step s x)
  | exit i a ds h' => exact x
  | goto i a ds h' => exact x
  | ret a ds h' => exact x
  | pan v a ds h' => exact x
  | no => exact x
theorem acc_block {i : Nat} {o : Out} (x : Acc P W nt w0 E R h Q (blockF i o)) : Acc P W nt w0 E R h (Exit.inBlock i Q) o := by
  cases o with
  | norm a ds h' => exact x
  | exit j a ds h' =>
    have x : Acc P W nt w0 E R h Q (cnd (Nat.beq j i) (.norm a ds h') (.exit j a ds h')) := x
    intro E' R' act' w' s g
    show if j = i then _ else _
    cases hb : Nat.beq j i with
    | true => rw [if_pos (beq_e hb)]; rw [hb] at x; exact x E' R' act' w' s g
    | false => rw [if_neg (beq_ne hb)]; rw [hb] at x; exact x E' R' act' w' s g
  | goto i a ds h' => exact x
  | ret a ds h' => exact x
  | pan v a ds h' => exact x
  | no => exact x
theorem acc_scope {o : Out} (x : Acc P W nt w0 E R h Q (scopeF o)) : Acc P W nt w0 E R h (noGoto Q) o := by
  cases o with
  | norm a ds h' => exact x
  | exit i a ds h' => exact x
  | goto i a ds h' => exact x.elim
  | ret a ds h' => exact x
  | pan v a ds h' => exact x
  | no => exact x
theorem isBusy_eq {s : LoopState} (h : isBusy s = false) : s ≠ .busy := by intro e; subst e; cases h
theorem allLt_mem {n : Nat} : ∀ (l : List Nat), allLt n l = true → ∀ t ∈ l, t < n
  | [], _, t, h => by cases h
  | x :: l, h, t, ht => by
    have h : cnd (Nat.ble (Nat.succ x) n) (allLt n l) false = true := h
    cases hb : Nat.ble (Nat.succ x) n with
    | false => rw [hb] at h; cases h
    | true =>
      rw [hb, cnd_t] at h
      rcases List.mem_cons.1 ht with rfl | ht
      · exact ble_le hb
      · exact allLt_mem l h t ht
theorem xCond_acc {x : AV} {f g : Out} (hx : Acc P W nt w0 E R h Q (x.onBool .no fun b => cnd b f g)) : ∃ b, x = .bool b ∧ Acc P W nt w0 E R h Q (if b = true then f else g) := by
  cases x with
  | bool b => refine ⟨b, rfl, ?_⟩; cases b <;> exact hx
  | _ => exact hx.elim
end
section
variable {P : Program}
theorem callE_not {f : Nat} {s : S} {l : List AV} {h : H} {T : RC → Prop} (hT : ¬ T .no) (x : T (callE P f s l h)) : extA P f = none ∧ T (s.call f l h) := by
  unfold callE at x
  cases he : extA P f with
  | none => rw [he] at x; exact ⟨rfl, x⟩
  | some e => rw [he] at x; exact absurd x hT
theorem enter_run {f : Nat} (he : extA P f = none) (args : Array Value) (w : World) : (callFunc f args).run P w = .ok (.enter f args) w := by
  unfold extA at he
  split at he
  · rename_i fn hf
    split at he
    · rename_i c hb
      cases hn : (fn.name == "runtime.NumGoroutine") with
      | true => rw [hn] at he; cases he
      | false =>
        have h1 : fn.name ≠ "runtime.NumGoroutine" := by simpa using hn
        simp [callFunc, hf, h1, hb]
    · cases he
  · cases he
/-- a jump that was left behind -/
theorem jump_run {x : FC} {w0 : World} {E : Env} {R : Nat → Prop} {h : H} {Q : Exit → Act → World → Prop} {a : A} {ds : List ADef} {act : Act} {w : World} {n : Nat} {r : Option Nat} (pe : Option Code) (g : Good P E R x.W x.nt h w0 w a ds act) (acc : Acc P x.W x.nt w0 E R h Q (jumpF pe a ds h)) :
    match pe with | none => Q .normal act w | some c => c.wpIn (FW r) n P Q act w := by
  have st := Step.refl E R h
  cases pe with
  | none => exact acc E R act w st g
  | some c =>
    cases c with
    | ret => exact wpIn_ret (acc E R act w st g)
    | exit i => exact wpIn_exit (acc E R act w st g)
    | goto l => exact wpIn_goto (acc E R act w st g)
    | _ => exact acc.elim
theorem range_run {s : S} (sok : SOk P s) {fn n : Nat} {x : FC} (hx : fnC P fn = some x) {w0 : World} {E : Env} {R : Nat → Prop} {h : H} {Q : Exit → Act → World → Prop} {a : A} {ds : List ADef} {act : Act} {w : World} {f : Operand} {ps : Array Nat} {asg body : Code}
    (g : Good P E R x.W x.nt h w0 w a ds act) (hps : allLt x.nt ps.toList = true) (acc : Acc P x.W x.nt w0 E R h Q (rangeF P fn (cd1 x.W [] f).out ps.toList asg body s a ds h)) : (Code.rangeFunc f ps asg body).wpIn (FW none) n P Q act w := by
  have rx : Rel E R ((cd1 x.W [] f).out [] a) (act.eval f) := look_cd1 (look_start g.slots) f
  unfold rangeF at acc
  generalize (cd1 x.W [] f).out [] a = v at rx acc
  cases v with
  | fn gf fi ca =>
    obtain ⟨⟨o1, o2⟩, rx⟩ := rx rfl
    have acc : Acc P x.W x.nt w0 E R h Q ((callE P gf s (appL fi (.ref 2 (Nat.succ h.n) :: ca)) ((h.new .dfr).new (.loop .ready none fn a ps.toList asg body h.n))).on .no (fun _ _ => .no) fun _ h' =>
      onLoop (h'.get (Nat.succ h.n)) .no fun st pe fn tm ps asg body df => cnd (isBusy st) .no
      (jumpF pe a (.coll h.n :: ds) (h'.set (Nat.succ h.n) (.loop .exhausted pe fn tm ps asg body df)))) := acc
    refine wpIn_rangeFunc fun fn' _ => ?_
    -- two blocks
    obtain ⟨E1, hE1⟩ : ∃ E1, E1 = E.upd h.n w.heap.size 0 0 0 := ⟨_, rfl⟩
    have ag1 : ∀ j, j ≠ h.n → E.Agree E1 j := fun j hj => by rw [hE1]; exact upd_agree E h.n _ _ _ _ j hj
    have hb1 : E1.blk h.n = w.heap.size := by rw [hE1]; simp [Env.upd]
    have hn0 : ¬ R h.n := fun hc => Nat.lt_irrefl _ (g.inv.dom _ hc)
    have gr1 : Grew w (w.alloc (.deferred (some []))) (.deferred (some [])) := Grew.alloc _ _
    have i1 : Inv P E1 (fun j => R j ∨ j = h.n) (h.new .dfr) w0 (w.alloc (.deferred (some []))) := seq_new g.inv gr1 ag1 hb1 (by show _ = _; rw [hb1]; exact gr1.at)
    have s1 : Step E R h E1 (fun j => R j ∨ j = h.n) (h.new .dfr) := step_new g.inv ag1
    obtain ⟨E2, hE2⟩ : ∃ E2, E2 = E1.upd (h.n + 1) (w.heap.size + 1) 0 0 0 := ⟨_, rfl⟩
    have ag2 : ∀ j, j ≠ h.n + 1 → E1.Agree E2 j := fun j hj => by rw [hE2]; exact upd_agree E1 (h.n + 1) _ _ _ _ j hj
    have hb2 : E2.blk (h.n + 1) = w.heap.size + 1 := by rw [hE2]; simp [Env.upd]
    obtain ⟨lp, hlp⟩ : ∃ lp : Loop, lp = { state := .ready, pending := none, fn := fn', tmps := act.tmps, params := ps, assign := asg, body, defers := w.heap.size } := ⟨_, rfl⟩
    have gr2 : Grew (w.alloc (.deferred (some []))) ((w.alloc (.deferred (some []))).alloc (.loop lp)) (.loop lp) := Grew.alloc _ _
    have hn1 : (h.new .dfr).n = h.n + 1 := new_n _ _
    have hbE : E2.blk h.n = w.heap.size := by rw [(ag2 h.n (by omega)).blk, hb1]
    have i2 : Inv P E2 (fun j => (R j ∨ j = h.n) ∨ j = h.n + 1) ((h.new .dfr).new (.loop .ready none fn a ps.toList asg body h.n)) w0 ((w.alloc (.deferred (some []))).alloc (.loop lp)) := by
      have := seq_new (ob := .loop .ready none fn a ps.toList asg body h.n) (E' := E2) i1 gr2 (by rw [hn1]; exact ag2) (by rw [hn1, hb2]; simp) ?_
      · rwa [hn1] at this
      · rw [hn1]
        refine ⟨x, act.tmps, fn', hx, ?_, g.nt, fun t ht => Nat.lt_of_lt_of_le (allLt_mem _ hps t ht) g.nt, ?_, .inl (.inr rfl)⟩
        · exact fun t ht => (g.slots t ht).mono (fun _ h => .inl (.inl h)) fun j hj => by
            have := g.inv.dom j hj
            have x1 := ag1 j (by omega)
            have x2 := ag2 j (by omega)
            exact ⟨x2.blk.trans x1.blk, x2.base.trans x1.base, x2.xc.trans x1.xc, x2.num.trans x1.num⟩
        · rw [hb2]
          have := gr2.at
          rw [World.size_alloc] at this
          rw [this, hlp, hbE]
    have s2 : Step E1 (fun j => R j ∨ j = h.n) (h.new .dfr) E2 (fun j => (R j ∨ j = h.n) ∨ j = h.n + 1) ((h.new .dfr).new (.loop .ready none fn a ps.toList asg body h.n)) := by
      have := step_new (ob := .loop .ready none fn a ps.toList asg body h.n) (E' := E2) i1 (by rw [hn1]; exact ag2)
      rwa [hn1] at this
    have s12 := s1.trans s2
    have hrun := run_enterLoop_outer (P := P) (w := w) fn' act.tmps ps asg body
    have hargs : ArgsRel E2 (fun j => (R j ∨ j = h.n) ∨ j = h.n + 1) (appL fi (.ref 2 (Nat.succ h.n) :: ca)) (concs E fi ++ (.func (.yield (w.heap.size + 1)) #[] #[] :: concs E ca)) := by
      rw [appL_eq]
      have c1 := concs_agree s12.env fi o1
      have c2 := concs_agree s12.env ca o2
      rw [← c1, ← c2]
      refine (list_rel (Ons.mono s12.real fi o1)).app ?_
      have r1 : ArgsRel E2 (fun j => (R j ∨ j = h.n) ∨ j = h.n + 1) [.ref 2 (Nat.succ h.n)] [.func (.yield (w.heap.size + 1)) #[] #[]] := by
        refine ⟨rfl, fun i v v' hv hv' => ?_⟩
        cases i with
        | zero =>
          injection hv with hv
          injection hv' with hv'
          subst hv hv'
          refine fun _ => ⟨⟨by decide, .inr rfl⟩, ?_⟩
          show _ = Value.func (.yield (E2.blk (h.n + 1))) #[] #[]
          rw [hb2]
        | succ i => cases hv
      exact r1.app (list_rel (Ons.mono s12.real ca o2))
    refine ⟨w.heap.size + 1, [{ target := .collected w.heap.size, args := #[] }], (w.alloc (.deferred (some []))).alloc (.loop lp), { target := .fn (.func gf) (concs E ca).toArray, args := (concs E fi ++ [Value.func (.yield (w.heap.size + 1)) #[] #[]]).toArray }, (w.alloc (.deferred (some []))).alloc (.loop lp), gf, (concs E fi ++ (Value.func (.yield (w.heap.size + 1)) #[] #[] :: concs E ca)).toArray, (w.alloc (.deferred (some []))).alloc (.loop lp), ?_, ?_, fun _ _ => trivial, ?_, fun hd => (by cases hd), ?_⟩
    · show (Instr.enterLoop fn' act.tmps ps asg body none).run P w = _
      rw [hrun, hlp]
    · simp only [resolve, rx, conc, Deferred.ofValue, Sem.run_pure]
      congr 2
      apply Array.ext'
      have hcv : ∀ v, act.eval (.const v) = v := fun _ => rfl
      simp [hcv]
    · simp only [invoke]
      obtain ⟨hext, _⟩ := callE_not (T := fun r => Acc P x.W x.nt w0 E R h Q (r.on .no (fun _ _ => .no) fun _ h' =>
        onLoop (h'.get (Nat.succ h.n)) .no fun st pe fn tm ps asg body df => cnd (isBusy st) .no
        (jumpF pe a (.coll h.n :: ds) (h'.set (Nat.succ h.n) (.loop .exhausted pe fn tm ps asg body df))))) (fun h => h) acc
      rw [show (concs E fi ++ [Value.func (.yield (w.heap.size + 1)) #[] #[]]).toArray ++ (concs E ca).toArray = (concs E fi ++ (Value.func (.yield (w.heap.size + 1)) #[] #[] :: concs E ca)).toArray by simp]
      exact enter_run hext _ _
    · obtain ⟨hext, acc⟩ := callE_not (T := fun r => Acc P x.W x.nt w0 E R h Q (r.on .no (fun _ _ => .no) fun _ h' =>
        onLoop (h'.get (Nat.succ h.n)) .no fun st pe fn tm ps asg body df => cnd (isBusy st) .no
        (jumpF pe a (.coll h.n :: ds) (h'.set (Nat.succ h.n) (.loop .exhausted pe fn tm ps asg body df))))) (fun h => h) acc
      refine callsIn_FW (sok.1 gf _ _ _ E2 _ w0 _ _ i2 hargs ?_)
      generalize s.call gf (appL fi (.ref 2 (Nat.succ h.n) :: ca)) ((h.new .dfr).new (.loop .ready none fn a ps.toList asg body h.n)) = out at acc
      cases out with
      | no => exact acc.elim
      | pan v h' => exact acc.elim
      | ret v h' =>
        intro E3 R3 w3 v3 s3 i3 _
        have acc : Acc P x.W x.nt w0 E R h Q (onLoop (h'.get (Nat.succ h.n)) .no fun st pe fn tm ps asg body df => cnd (isBusy st) .no
          (jumpF pe a (.coll h.n :: ds) (h'.set (Nat.succ h.n) (.loop .exhausted pe fn tm ps asg body df)))) := acc
        cases ho : h'.get (Nat.succ h.n) with
        | none => rw [ho] at acc; exact acc.elim
        | some ob =>
          cases ob with
          | loop st pe fn3 tm3 ps3 asg3 body3 df3 =>
            rw [ho] at acc
            have acc : Acc P x.W x.nt w0 E R h Q (cnd (isBusy st) .no (jumpF pe a (.coll h.n :: ds) (h'.set (Nat.succ h.n) (.loop .exhausted pe fn3 tm3 ps3 asg3 body3 df3)))) := acc
            cases hb : isBusy st with
            | true => rw [hb] at acc; exact acc.elim
            | false =>
              rw [hb, cnd_f] at acc
              have hl3 := s3.real (h.n + 1) (.inr rfl)
              have hd3 := s3.real h.n (.inl (.inr rfl))
              obtain ⟨x3, tmps3, fn4, j1, j2, j3, j4, j5, j6⟩ := i3.obj (h.n + 1) _ hl3 ho
              have hbl : E3.blk (h.n + 1) = w.heap.size + 1 := by rw [(s3.env (h.n + 1) (.inr rfl)).blk, hb2]
              have hbd : E3.blk h.n = w.heap.size := by rw [(s3.env h.n (.inl (.inr rfl))).blk, hbE]
              rw [hbl] at j5
              refine ⟨pe, _, run_endLoop (P := P) j5 (isBusy_eq hb), ?_⟩
              have hlt := (Array.getElem?_eq_some_iff.1 j5).1
              have i4 : Inv P E3 R3 (h'.set (h.n + 1) (.loop .exhausted pe fn3 tm3 ps3 asg3 body3 df3)) w0 (w3.putObj (w.heap.size + 1) (.loop { state := .exhausted, pending := pe, fn := fn4, tmps := tmps3, params := ps3.toArray, assign := asg3, body := body3, defers := E3.blk df3 })) := by
                refine inv_put i3 hl3 ho (by rw [hbl]; exact turn_putObj) ⟨x3, tmps3, fn4, j1, j2, j3, j4, ?_, j6⟩
                rw [hbl, World.putObj_heap_same hlt]
              have s4 : Step E3 R3 h' E3 R3 (h'.set (h.n + 1) (.loop .exhausted pe fn3 tm3 ps3 asg3 body3 df3)) := step_put _ hl3
              have s14 := s12.trans (s3.trans s4)
              have g4 : Good P E3 R3 x.W x.nt (h'.set (h.n + 1) (.loop .exhausted pe fn3 tm3 ps3 asg3 body3 df3)) w0 (w3.putObj (w.heap.size + 1) (.loop { state := .exhausted, pending := pe, fn := fn4, tmps := tmps3, params := ps3.toArray, assign := asg3, body := body3, defers := E3.blk df3 })) a (.coll h.n :: ds) { act with defers := [{ target := .collected w.heap.size, args := #[] }] ++ act.defers } :=
                ⟨i4, g.slots.step s14, g.nt, .cons ⟨by rw [hbd], hd3⟩ (g.ds.step s14)⟩
              have jr := jump_run (r := none) (n := n) pe g4 (acc.step s14)
              cases pe with
              | none => exact jr
              | some c => exact jr
          | _ => rw [ho] at acc; exact acc.elim
  | _ => exact acc.elim
end
end Go.Proofs.YtccadcefhfdmgaaGreatDoor.Ev
namespace Go.Proofs.YtccadcefhfdmgaaGreatDoor.Ev
open Go
section
variable {P : Program}
theorem code_run (hm : P.follows .mixedOrders = true) {s : S} (sok : SOk P s) {cc : Nat → Code → Bx CF} (hcc : RoundsOk P cc) {rd : Bool} {r : Option Nat} {fn : Nat} {x : FC} (hx : fnC P fn = some x) (hrd : rd = false → r = none) {w0 : World} : ∀ (c : Code) (n : Nat) (Q : Exit → Act → World → Prop) (E : Env) (R : Nat → Prop) (h : H) (w : World) (a : A) (ds : List ADef) (act : Act),
    Good P E R x.W x.nt h w0 w a ds act → Acc P x.W x.nt w0 E R h Q ((cC P cc rd fn x.nt x.W c).out s a ds h) → c.wpIn (FW r) n P Q act w
  | .skip, n, Q, E, R, h, w, a, ds, act, g, acc => wpIn_skip (acc E R act w (Step.refl E R h) g)
  | .label _, n, Q, E, R, h, w, a, ds, act, g, acc => wpIn_label (acc E R act w (Step.refl E R h) g)
  | .exit i, n, Q, E, R, h, w, a, ds, act, g, acc => wpIn_exit (acc E R act w (Step.refl E R h) g)
  | .ret, n, Q, E, R, h, w, a, ds, act, g, acc => wpIn_ret (acc E R act w (Step.refl E R h) g)
  | .goto l, n, Q, E, R, h, w, a, ds, act, g, acc => acc.elim
  | .refuse y, n, Q, E, R, h, w, a, ds, act, g, acc => acc.elim
  | .seq y z, n, Q, E, R, h, w, a, ds, act, g, acc => by
    simp only [cC, onB_eq, Bx.out_mk] at acc
    exact wpIn_seq (code_run hm sok hcc hx hrd y n _ E R h w a ds act g (acc_norm acc fun a' ds' h' E' R' act' w' st g' acc' => code_run hm sok hcc hx hrd z n Q E' R' h' w' a' ds' act' g' acc'))
  | .cond c y z, n, Q, E, R, h, w, a, ds, act, g, acc => by
    simp only [cC, onB_eq, Bx.out_mk] at acc
    have rx : Rel E R ((cd1 x.W [] c).out [] a) (act.eval c) := look_cd1 (look_start g.slots) c
    obtain ⟨b, hb, acc⟩ := xCond_acc acc
    rw [hb] at rx
    refine wpIn_cond rx.bool ?_
    cases b with
    | true => exact code_run hm sok hcc hx hrd y n Q E R h w a ds act g acc
    | false => exact code_run hm sok hcc hx hrd z n Q E R h w a ds act g acc
  | .block i y, n, Q, E, R, h, w, a, ds, act, g, acc => by
    simp only [cC, onB_eq, Bx.out_mk] at acc
    exact wpIn_block (code_run hm sok hcc hx hrd y n _ E R h w a ds act g (acc_block acc))
  | .scope y, n, Q, E, R, h, w, a, ds, act, g, acc => by
    simp only [cC, onB_eq, Bx.out_mk] at acc
    exact wpIn_scope (code_run hm sok hcc hx hrd y n _ E R h w a ds act g (acc_scope acc))
  | .loop y, n, Q, E, R, h, w, a, ds, act, g, acc => by
    simp only [cC, onB_eq, Bx.out_mk] at acc
    replace acc : Acc P x.W x.nt w0 E R h Q (loopF (cC P cc rd fn x.nt x.W y).out s s.n a ds h) := acc
    refine wpIn_loop_rounds s.n ?_
    generalize s.n = m at acc
    have ih := code_run hm sok hcc hx hrd (w0 := w0) y
    clear code_run
    revert E R h w a ds act
    induction m with
    | zero => intro E R h w a ds act g acc; exact acc.elim
    | succ m ihm =>
      intro E R h w a ds act g acc
      rw [roundsIn_succ]
      exact ih n _ E R h w a ds act g (acc_norm acc fun a' ds' h' E' R' act' w' st g' acc' => ihm E' R' h' w' a' ds' act' g' acc')
  | .region id ops d, n, Q, E, R, h, w, a, ds, act, g, acc => by
    simp only [cC] at acc
    cases d with
    | true => exact draw_run hm sok hcc hrd g acc
    | false => exact reg_run sok hcc hrd g acc
  | .rangeFunc f ps asg body, n, Q, E, R, h, w, a, ds, act, g, acc => by
    simp only [cC] at acc
    cases hp : allLt x.nt ps.toList with
    | false => rw [hp] at acc; exact acc.elim
    | true =>
      rw [hp, cnd_t] at acc
      cases rd with
      | true => exact acc.elim
      | false =>
        rw [cnd_f, onB_eq, Bx.out_mk] at acc
        have hr := hrd rfl
        subst hr
        exact range_run sok hx g hp acc
theorem roundsOk_ccP (hm : P.follows .mixedOrders = true) : RoundsOk P (ccP P) := by
  intro fn c x hx s sok l n E R h w0 w a act Q g acc
  have e : (ccP P fn c).out = (cC P cc0 true fn x.nt x.W c).out := by simp only [ccP, hx]
  rw [e] at acc
  exact code_run hm sok roundsOk_cc0 hx (fun h => by cases h) c n Q E R h w a [] act g acc
end
end Go.Proofs.YtccadcefhfdmgaaGreatDoor.Ev
namespace Go.Proofs.YtccadcefhfdmgaaGreatDoor.Ev
open Go
section
variable {P : Program}
theorem fnC_some {f : Nat} {x : FC} (h : fnC P f = some x) : ∃ fn c, P.funcs[f]? = some fn ∧ fn.body = some c ∧ x.nt = fn.ntmps ∧ x.body = c ∧ x.res = fn.results.toList := by
  unfold fnC at h
  split at h
  · cases h
  · rename_i fn hf
    split at h
    · cases h
    · rename_i c hb
      injection h with h
      subst h
      exact ⟨fn, c, hf, hb, rfl, rfl, rfl⟩
/-! what a function answers -/
def resS (tmps : Array Value) : ResultVar → Sem Value
  | .tmp t => pure (tmps.getD t undef)
  | .cell a t => do loadVar t (← asAddr (tmps.getD a undef))
theorem resB_run {E : Env} {R : Nat → Prop} {W : Tr Bool} {h : H} {w0 w : World} {a : A} {tmps : Array Value} (inv : Inv P E R h w0 w) (hs : ActOk E R W a tmps) : ∀ (l : List ResultVar) (vs : List AV), resW W l = true → (resB P l).out a h = some vs →
    (l.mapM (resS tmps)).run P w = .ok (concs E vs) w ∧ Ons R vs
  | [], vs, _, hv => by
    injection hv with hv
    subst hv
    exact ⟨rfl, trivial⟩
  | .tmp t :: l, vs, hw, hv => by
    have hw : cnd (memW W t) (resW W l) false = true := hw
    cases hm : memW W t with
    | false => rw [hm] at hw; cases hw
    | true =>
      rw [hm, cnd_t] at hw
      simp only [resB, onB_eq, Bx.out_mk] at hv
      obtain ⟨hk, hv⟩ := cnd_some (show cnd ((getS t).out a).known (onO ((resB P l).out a h) none fun m => some ((getS t).out a :: m)) none = some vs from hv)
      obtain ⟨m, h1, h2⟩ := onO_some hv
      injection h2 with h2
      subst h2
      obtain ⟨r1, r2⟩ := resB_run inv hs l m hw h1
      obtain ⟨o1, o2⟩ := hs t hm hk
      refine ⟨?_, o1, r2⟩
      rw [List.mapM_cons]
      rw [run_b (x := conc E ((getS t).out a)) (w' := w) (by simp only [resS, o2]; rfl), run_b r1]
      rfl
  | .cell p t :: l, vs, hw, hv => by
    have hw : cnd (memW W p) (resW W l) false = true := hw
    cases hm : memW W p with
    | false => rw [hm] at hw; cases hw
    | true =>
      rw [hm, cnd_t] at hw
      unfold resB at hv
      split at hv
      · rename_i n hn
        simp only [onB_eq, Bx.out_mk] at hv
        obtain ⟨i, o, hp, h1⟩ := onPtr_some (show ((getS p).out a).onPtr none (fun i o => onO ((ldB n (isAggT P t)).out h i o) none fun v => onO ((resB P l).out a h) none fun m => some (v :: m)) = some vs from hv)
        obtain ⟨v, h2, h3⟩ := onO_some h1
        obtain ⟨m, h4, h5⟩ := onO_some h3
        injection h5 with h5
        subst h5
        obtain ⟨r1, r2⟩ := resB_run inv hs l m hw h4
        have rp := hs p hm
        rw [hp] at rp
        obtain ⟨rp, hi⟩ := rp.ptr
        obtain ⟨l1, l2⟩ := loadVar_of inv hn hi h2
        refine ⟨?_, l2, r2⟩
        rw [List.mapM_cons]
        rw [run_b (x := conc E v) (w' := w) (by
          simp only [resS, rp, asAddr]
          rw [run_b (Sem.run_pure P w _)]
          exact l1), run_b r1]
        rfl
      · cases hv
theorem resV_rel {E : Env} {R : Nat → Prop} {vs : List AV} (h : Ons R vs) : (if h : (concs E vs).toArray.size = 1 then (concs E vs).toArray[0] else Value.tuple (concs E vs).toArray) = conc E (resV vs) ∧ (resV vs).On R := by
  match vs, h with
  | [], h => exact ⟨rfl, trivial⟩
  | [v], h => exact ⟨rfl, h.1⟩
  | v :: u :: l, h =>
    have e : resV (v :: u :: l) = .agg true (v :: u :: l) := rfl
    rw [e]
    refine ⟨?_, h⟩
    have : ¬ (concs E (v :: u :: l)).toArray.size = 1 := by simp [concs]
    rw [dif_neg this]
    rfl
theorem res_run {E : Env} {R : Nat → Prop} {W : Tr Bool} {h : H} {w0 w : World} {a : A} {tmps : Array Value} {fn : Func} {vs : List AV} (inv : Inv P E R h w0 w) (hs : ActOk E R W a tmps) (hw : resW W fn.results.toList = true) (hv : (resB P fn.results.toList).out a h = some vs) :
    (results fn tmps).run P w = .ok (conc E (resV vs)) w ∧ (resV vs).On R := by
  obtain ⟨r1, r2⟩ := resB_run inv hs _ vs hw hv
  obtain ⟨r3, r4⟩ := resV_rel (E := E) r2
  refine ⟨?_, r4⟩
  have e : results fn tmps = (fn.results.mapM (resS tmps) >>= fun vs => pure (if h : vs.size = 1 then vs[0] else .tuple vs)) := by
    unfold results
    congr 1
  have e2 : (fn.results.mapM (resS tmps)).run P w = .ok (concs E vs).toArray w := by
    rw [← Array.toArray_toList (xs := fn.results), List.mapM_toArray]
    rw [map_eq_pure_bind, run_b r1]; rfl
  rw [e, run_b e2, ← r3]
  rfl
/-! arguments laid out -/
theorem argsA_get (t : Nat) : ∀ (l : List AV) (i : Nat) (a : A), (∃ v, i ≤ t ∧ l[t - i]? = some v ∧ (getS t).out (argsA l i a) = v) ∨ ((getS t).out (argsA l i a) = (getS t).out a) 
  | [], i, a => .inr rfl
  | v :: l, i, a => by
    have e : argsA (v :: l) i a = argsA l (i + 1) ((setS i).out v a) := by
      show onB (setS i) (fun s => stN (Nat.succ i) fun i => argsA l i (s v a)) = _
      rw [onB_eq, stN_eq]
    rw [e]
    rcases argsA_get t l (i + 1) ((setS i).out v a) with ⟨u, h1, h2, h3⟩ | h
    · exact .inl ⟨u, by omega, by rw [show t - i = (t - (i + 1)) + 1 by omega]; exact h2, h3⟩
    · rw [h]
      rcases get_set t i v a with h4 | ⟨h4, h5⟩
      · exact .inr h4
      · subst h4
        exact .inl ⟨v, Nat.le_refl _, by rw [Nat.sub_self]; rfl, h5⟩
theorem argsA_ok {E : Env} {R : Nat → Prop} {W : Tr Bool} {l : List AV} {vs : List Value} (n : Nat) (h : ArgsRel E R l vs) : ActOk E R W (argsA l 0 nA) (vs.toArray ++ Array.replicate n undef) := by
  intro t _
  rcases argsA_get t l 0 nA with ⟨v, _, h2, h3⟩ | h1
  · rw [h3]
    rw [Nat.sub_zero] at h2
    have hl : t < vs.length := by rw [← h.1]; exact (List.getElem?_eq_some_iff.1 h2).1
    have : (vs.toArray ++ Array.replicate n undef).getD t undef = vs[t] := by
      rw [Array.getD_eq_getD_getElem?, Array.getElem?_append_left (by simpa using hl)]
      simp [hl]
    rw [this]
    exact h.2 t v _ h2 (List.getElem?_eq_getElem hl)
  · rw [h1, get_nA]; exact Rel.bad E R _
theorem enter_good {E : Env} {R : Nat → Prop} {h : H} {w0 w : World} {l : List AV} {vs : List Value} {x : FC} (inv : Inv P E R h w0 w) (ar : ArgsRel E R l vs) : Good P E R x.W x.nt h w0 w (argsA l 0 nA) [] { tmps := vs.toArray ++ Array.replicate (x.nt - vs.toArray.size) undef, defers := [] } :=
  ⟨inv, argsA_ok _ ar, by simp; omega, .nil⟩
theorem Post.step {w0 : World} {E E' : Env} {R R' : Nat → Prop} {h h' : H} {T : Ending → World → Prop} {r : RC} (s : Step E R h E' R' h') (x : Post P w0 E R h T r) : Post P w0 E' R' h' T r := by
  cases r with
  | ret v h2 => exact fun E2 R2 w2 v' st i r => x E2 R2 w2 v' (s.trans st) i r
  | pan v h2 => exact fun E2 R2 w2 v' st i r => x E2 R2 w2 v' (s.trans st) i r
  | no => exact x
/-- a block that is given up -/
theorem inv_drop {E : Env} {R : Nat → Prop} {h : H} {w0 w w' : World} {i : Nat} {o : AO} (inv : Inv P E R h w0 w) (hi : R i) (hg : h.get i = some o) (ht : Turn (E.blk i) w w') : Inv P E R (h.del i) w0 w' := by
  have hlt : i < 65536 := by
    rw [H.get_eq] at hg
    split at hg
    · assumption
    · cases hg
  have hget : ∀ j p, (h.del i).get j = some p → j ≠ i ∧ h.get j = some p := by
    intro j p hp
    rw [H.del, put_get] at hp
    split at hp
    · cases hp
    · rename_i hc; exact ⟨fun e => hc ⟨e, hlt⟩, hp⟩
  refine ⟨inv.dom, fun j hj => ?_, fun j p hj hp => inv.low j p hj (hget j p hp).2, fun j k p q hj hk hp hq he => inv.inj j k p q hj hk (hget j p hp).2 (hget k q hq).2 he, fun j p hj hp => ?_, ?_⟩
  · have hj : h.n ≤ j := hj
    have := inv.dom i hi
    rw [H.del, put_get, if_neg (by omega)]
    exact inv.top j hj
  · obtain ⟨h1, h2⟩ := hget j p hp
    exact objOk_step (fun i hi => ⟨rfl, rfl, rfl, rfl⟩) (fun _ h => h) hj (ht.rest _ fun e => h1 (inv.inj j i p o hj hi h2 hg e)) (inv.obj j p hj h2)
  · exact inv.bel.trans ⟨ht.os, ht.tape, ht.output, by rw [ht.size]; exact Nat.le_refl _, fun k hk => ht.rest k fun e => by have := inv.low i o hi hg; omega⟩
end
end Go.Proofs.YtccadcefhfdmgaaGreatDoor.Ev
namespace Go.Proofs.YtccadcefhfdmgaaGreatDoor.Ev
open Go
section
variable {P : Program}
theorem leaves_ok {s : S} (sok : SOk P s) {fn : Func} {W : Tr Bool} {a : A} {T : Ending → World → Prop} {w0 : World} {tmps : Array Value} (hw : resW W fn.results.toList = true) : ∀ (ds : List ADef) (defers : List Deferred) (E : Env) (R : Nat → Prop) (h : H) (w : World), DefsOk E R ds defers → Inv P E R h w0 w → ActOk E R W a tmps →
    Post P w0 E R h T (onO (outA P s ds h) .no fun h => onO ((resB P fn.results.toList).out a h) .no fun l => .ret (resV l) h) → LeavesInM (FW none) 0 P fn tmps T defers .returning w
  | [], defers, E, R, h, w, hd, inv, hs, hp => by
    cases hd
    have hp : Post P w0 E R h T (onO ((resB P fn.results.toList).out a h) .no fun l => .ret (resV l) h) := hp
    cases hv : (resB P fn.results.toList).out a h with
    | none => rw [hv] at hp; exact hp.elim
    | some vs =>
      rw [hv] at hp
      obtain ⟨r1, r2⟩ := res_run inv hs hw hv
      exact ⟨_, r1, hp E R w _ (Step.refl E R h) inv (Rel.of r2)⟩
  | .coll i :: ds, defers, E, R, h, w, hd, inv, hs, hp => by
    cases hd with
    | @cons _ d _ defers h1 h2 =>
      obtain ⟨ht, hi⟩ := h1
      have hp : Post P w0 E R h T (onO (onDfr (h.get i) none (outA P s ds (h.del i))) .no fun h => onO ((resB P fn.results.toList).out a h) .no fun l => .ret (resV l) h) := hp
      cases ho : h.get i with
      | none => rw [ho] at hp; exact hp.elim
      | some o =>
        cases o with
        | dfr =>
          rw [ho] at hp
          have hheap : w.heap[E.blk i]? = some (.deferred (some [])) := inv.obj i _ hi ho
          have inv2 := inv_drop inv hi ho (turn_putObj (o := .deferred none))
          have st : Step E R h E R (h.del i) := step_put none hi
          refine ⟨by simp, .inl ⟨E.blk i, _, ht, run_takeDeferred hheap, ?_⟩⟩
          exact leaves_ok sok hw ds defers E R (h.del i) _ h2 inv2 hs (Post.step st hp)
        | _ => rw [ho] at hp; exact hp.elim
  | .fn f args :: ds, defers, E, R, h, w, hd, inv, hs, hp => by
    cases hd with
    | @cons _ d _ defers h1 h2 =>
      obtain ⟨fst, cap, ht, ha, hon, hcc⟩ := h1
      have hp : Post P w0 E R h T (onO (onO (extA P f) ((s.dcall f args h).on none (fun _ _ => none) fun _ h => outA P s ds h) fun _ => none) .no fun h => onO ((resB P fn.results.toList).out a h) .no fun l => .ret (resV l) h) := hp
      cases he : extA P f with
      | some e => rw [he] at hp; exact hp.elim
      | none =>
        rw [he, onO_n] at hp
        cases hc : s.dcall f args h with
        | no => rw [hc] at hp; exact hp.elim
        | pan v h' => rw [hc] at hp; exact hp.elim
        | ret v h' =>
          rw [hc] at hp
          have hp : Post P w0 E R h T (onO (outA P s ds h') .no fun h => onO ((resB P fn.results.toList).out a h) .no fun l => .ret (resV l) h) := hp
          refine ⟨by simp, .inr ⟨fun hd => (by cases hd), .func f, cap.toArray, f, (concs E args).toArray, ht, ?_, fun _ _ => trivial, ?_⟩⟩
          · rw [ht, ha]
            simp only [invoke]
            rw [show fst.toArray ++ cap.toArray = (concs E args).toArray by rw [← hcc]; simp]
            exact enter_run he _ _
          · have hcall := sok.2 f args h (concs E args) E R w0 w (fun w' => LeavesInM (FW none) 0 P fn tmps T defers .returning w') .returning v h' inv (list_rel hon) hc fun E' R' w' st' inv' =>
              leaves_ok sok hw ds defers E' R' h' w' (h2.step st') inv' (hs.step st') (Post.step st' hp)
            refine CallsDIn.mono hcall fun e u' w' hx => ?_
            obtain ⟨rfl, hx⟩ := hx
            cases e with
            | returned v => exact hx
            | panicked c => exact hx.elim
            | outgrown => exact hx.elim
/-- a function that is called as a deferred one -/
theorem dcall_run (hm : P.follows .mixedOrders = true) {s : S} (sok : SOk P s) : DcallsOk P (dcallF P s) := by
  intro f l h vs E R w0 w T u v h' inv ar hc hT
  unfold dcallF fnD at hc
  rw [onB_eq] at hc
  split at hc
  · rename_i x hx
    obtain ⟨fn, c, hf, hb, hnt, hbody, hres⟩ := fnC_some hx
    cases hw : resW x.W x.res with
    | false => rw [hw] at hc; cases hc
    | true =>
      rw [hw, cnd_t] at hc
      simp only [onB_eq, Bx.out_mk] at hc
      have g := enter_good (x := x) inv ar
      rw [hnt] at g
      refine callsDIn_of_wp hf hb trivial ?_
      rw [← hbody]
      refine code_run (rd := false) (r := none) hm sok (roundsOk_ccP hm) hx (fun _ => rfl) x.body 0 _ E R h w _ [] _ (by rw [hnt]; exact g) ?_
      have hend : ∀ (a' : A) (ds' : List ADef) (h2 : H), endD (resB P x.res).out a' ds' h2 = .ret v h' → ∀ (E' : Env) (R' : Nat → Prop) (act' : Act) (w' : World), Step E R h E' R' h2 → Good P E' R' x.W x.nt h2 w0 w' a' ds' act' →
          act'.defers = [] ∧ ∃ v, (results fn act'.tmps).run P w' = .ok v w' ∧ (fun e w' => match e with | .returned _ => T w' | _ => False : Ending → World → Prop) (.returned v) w' := by
        intro a' ds' h2 he E' R' act' w' st g'
        cases ds' with
        | cons d ds' => cases he
        | nil =>
          have he : onO ((resB P x.res).out a' h2) RC.no (fun l => RC.ret (resV l) h2) = RC.ret v h' := he
          cases hv : (resB P x.res).out a' h2 with
          | none => rw [hv] at he; cases he
          | some vs =>
            rw [hv] at he
            injection he with he1 he2
            subst he2
            rw [hres] at hv hw
            obtain ⟨r1, r2⟩ := res_run g'.inv g'.slots hw hv
            exact ⟨defs_nil g'.ds, _, r1, hT E' R' w' st g'.inv⟩
      have hc : ((cC P (ccP P) false f x.nt x.W x.body).out s (argsA l 0 nA) [] h).on .no (fun a ds h => endD (resB P x.res).out a ds h) (fun _ _ _ _ => .no) (fun _ _ _ _ => .no) (fun a ds h => endD (resB P x.res).out a ds h) (fun _ _ _ _ => .no) = .ret v h' := hc
      generalize (cC P (ccP P) false f x.nt x.W x.body).out s (argsA l 0 nA) [] h = out at hc
      cases out with
      | norm a' ds' h2 => exact fun E' R' act' w' st g' => hend a' ds' h2 hc E' R' act' w' st g'
      | ret a' ds' h2 => exact fun E' R' act' w' st g' => hend a' ds' h2 hc E' R' act' w' st g'
      | exit i a' ds' h2 => cases hc
      | goto i a' ds' h2 => cases hc
      | pan i a' ds' h2 => cases hc
      | no => cases hc
  · cases hc
end
end Go.Proofs.YtccadcefhfdmgaaGreatDoor.Ev
namespace Go.Proofs.YtccadcefhfdmgaaGreatDoor.Ev
open Go
section
variable {P : Program}
/-- the frame below, while it panics: what it panics with, or that this was caught -/
def Caught (E : Env) (R : Nat → Prop) (v : AV) (pv : Value) (m : FrameMode) : Prop :=
  ((∃ t u, v = .ifc t u) ∧ Rel E R v pv ∧ m = .panicking [{ v := pv, recovered := false }]) ∨ (v = .nil 4 ∧ m = .panicking [{ v := pv, recovered := true }])
theorem Caught.step {E E' : Env} {R R' : Nat → Prop} {h h' : H} {v : AV} {pv : Value} {m : FrameMode} (s : Step E R h E' R' h') (x : Caught E R v pv m) : Caught E' R' v pv m := by
  rcases x with ⟨h1, h2, h3⟩ | h1
  · exact .inl ⟨h1, h2.step s, h3⟩
  · exact .inr h1
/-- what the deferred function has done -/
def RGood (P : Program) (W : Tr Bool) (nt : Nat) (w0 : World) (pv : Value) (c0 : Frame) (cs0 : List Frame) (E : Env) (R : Nat → Prop) (v : AV) (a : A) (h : H) (act : Act) (cs : List Frame) (w : World) : Prop :=
  ∃ m, cs = { c0 with mode := m } :: cs0 ∧ Caught E R v pv m ∧ Good P E R W nt h w0 w a [] act
theorem rgR_run {n nt : Nat} {W : Tr Bool} {ops : Array Oper} {w0 : World} {pv : Value} {c0 : Frame} {cs0 : List Frame} {Q : Exit → Act → List Frame → World → Prop} : ∀ (l : List Oper) (k : Nat), (∀ j, l[j]? = ops[k + j]?) → ∀ (pre : List PE) (v : AV) (e : List AV) (a : A) (h : H) (r : AV × A × H), rgR P nt W ops l pre v e a h = some r → (∀ u, ¬ Srcs pre u) →
    ∀ (E : Env) (R : Nat → Prop) (act : Act) (cs : List Frame) (w : World), RGood P W nt w0 pv c0 cs0 E R v a h act cs w → Look E R W pre e a act.tmps →
    (∀ (E' : Env) (R' : Nat → Prop) (act' : Act) (cs' : List Frame) (w' : World), Step E R h E' R' r.2.2 → RGood P W nt w0 pv c0 cs0 E' R' r.1 r.2.1 r.2.2 act' cs' w' → Q .normal act' cs' w') → wpOpsSIn (FW none) n P ops Q (List.range' k l.length) act cs w
  | [], k, _, pre, v, e, a, h, r, hr, _, E, R, act, cs, w, g, lk, hQ => by
    injection hr with hr
    subst hr
    exact hQ E R act cs w (Step.refl E R h) g
  | o :: l, k, hops, pre, v, e, a, h, r, hr, hs, E, R, act, cs, w, g, lk, hQ => by
    have ho : ops[k]? = some o := by simpa using (hops 0).symm
    have hops' : ∀ j, l[j]? = ops[k + 1 + j]? := fun j => by
      have := hops (j + 1)
      rw [List.getElem?_cons_succ] at this
      rw [this, show k + 1 + j = k + (j + 1) by omega]
    unfold rgR at hr
    obtain ⟨q, hq, hr⟩ := onO_some hr
    split at hr
    · cases hr
    · rename_i hg
      obtain ⟨hlt, hr⟩ := cnd_some hr
      rw [onB_eq] at hr
      obtain ⟨m, hcs, hcau, hgood⟩ := g
      have hop := cOp_ok (cdOk_cd1 pre) (fun c r m ho hc => cInv_ok ho hc) hq
      have hor : OpsRel E R (cd1 W pre) e a act.eval o.op.operands.toList := fun x _ => look_cd1 lk x
      have hwant : Region.wanted o (yielded ops act.tmps) = true := by simp only [Region.wanted, hg]
      have next : ∀ (u : AV) (v2 : AV) (h' : H) (E' : Env) (R' : Nat → Prop) (m' : FrameMode) (w' : World) (u' : Value), rgR P nt W ops l (.val o.dst :: pre) v2 (u :: e) ((putB W o.dst).out u a) h' = some r → Step E R h E' R' h' → Inv P E' R' h' w0 w' → Caught E' R' v2 pv m' → Rel E' R' u u' →
          wpOpsSIn (FW none) n P ops Q (List.range' (k + 1) l.length) (act.put o.dst u') ({ c0 with mode := m' } :: cs0) w' := by
        intro u v2 h' E' R' m' w' u' hr' st inv' hc' hu
        refine rgR_run l (k + 1) hops' _ _ _ _ _ _ hr' (fun x hx => hs x (srcs_val hx)) E' R' _ _ _ ⟨m', rfl, hc', good_put hgood st inv' (.inl ⟨rfl, rfl⟩) hu hlt⟩ (look_put' (act' := act) lk st rfl hu fun t ht => ⟨Nat.lt_of_lt_of_le (ltT_lt hlt t ht) hgood.nt, hs t⟩) fun E2 R2 a2 c2 w2 st2 g2 => hQ E2 R2 a2 c2 w2 (st.trans st2) g2
      rw [List.length_cons, List.range'_succ]
      simp only [wpOpsSIn, ho, hwant, if_true]
      refine ⟨fun _ _ => trivial, ?_⟩
      split at hr
      · -- recover
        obtain ⟨c, hoc, hcc, hca⟩ := hop
        have hrun : (execOp act.eval o).run P w = .ok .recover w := by
          simp only [execOp, hoc, resolve, hcc]
          rw [run_b (Sem.run_pure P w _)]
          rfl
        rw [hrun, hcs]
        rcases hcau with ⟨⟨t, u, rfl⟩, hrel, rfl⟩ | ⟨rfl, rfl⟩
        · simp only [recoverD]
          exact next (.ifc t u) (.nil 4) h E R _ w pv hr (Step.refl E R h) hgood.inv (.inr ⟨rfl, rfl⟩) hrel
        · simp only [recoverD]
          exact next (.nil 4) (.nil 4) h E R _ w .nilIface hr (Step.refl E R h) hgood.inv (.inr ⟨rfl, rfl⟩) (fun _ => ⟨by show 4 ≤ 4; omega, rfl⟩)
      · rename_i f
        obtain ⟨u, hu, hr⟩ := onO_some hr
        obtain ⟨u', h1, h2⟩ := hop E R h w0 w e a act.eval u hgood.inv hor hu
        rw [h1, hcs]
        exact next u v h E R m w u' hr (Step.refl E R h) hgood.inv hcau h2
      · rename_i f
        obtain ⟨⟨u, ob⟩, hu, hr⟩ := onO_some hr
        obtain ⟨u', x, w', E', h1, h2, h3, h4, h5, h6⟩ := hop E R h w0 w e a act.eval h.n u ob hgood.inv hor hu fun hc => Nat.lt_irrefl _ (hgood.inv.dom _ hc)
        rw [h1, hcs]
        have st := step_new (ob := ob) hgood.inv h3
        exact next u v (h.new ob) E' _ m w' u' hr st (seq_new hgood.inv h2 h3 h4 h6) (hcau.step st) h5
      · rename_i f
        obtain ⟨⟨u, h'⟩, hu, hr⟩ := onO_some hr
        obtain ⟨nx, w', E', R', h1, h2, h3, h4⟩ := hop E R h w0 w e a act.eval u h' hgood.inv hor hu
        rw [h1, hcs]
        rcases h2 with ⟨rfl, rfl⟩ | ⟨u', rfl, h5⟩
        · exact next und v h' E' R' m w' undef hr h4 h3 (hcau.step h4) (und_rel E' R')
        · exact next u v h' E' R' m w' u' hr h4 h3 (hcau.step h4) h5
      · cases hr
theorem cR_run {n nt : Nat} {W : Tr Bool} {w0 : World} {pv : Value} {c0 : Frame} {cs0 : List Frame} : ∀ (c : Code) (Q : Exit → Act → List Frame → World → Prop) (v : AV) (a : A) (h : H) (r : AV × A × H), cR P nt W c v a h = some r →
    ∀ (E : Env) (R : Nat → Prop) (act : Act) (cs : List Frame) (w : World), RGood P W nt w0 pv c0 cs0 E R v a h act cs w →
    (∀ (E' : Env) (R' : Nat → Prop) (act' : Act) (cs' : List Frame) (w' : World), Step E R h E' R' r.2.2 → RGood P W nt w0 pv c0 cs0 E' R' r.1 r.2.1 r.2.2 act' cs' w' → Q .normal act' cs' w') → c.wpSIn (FW none) n P Q act cs w
  | .skip, Q, v, a, h, r, hr, E, R, act, cs, w, g, hQ => by
    injection hr with hr
    subst hr
    exact wpSIn_of_wpIn rfl (wpIn_skip (hQ E R act cs w (Step.refl E R h) g))
  | .seq x y, Q, v, a, h, r, hr, E, R, act, cs, w, g, hQ => by
    obtain ⟨r1, h1, h2⟩ := onO_some (show onO (cR P nt W x v a h) none (fun r => cR P nt W y r.1 r.2.1 r.2.2) = some r from hr)
    refine wpSIn_seq (cR_run x _ v a h r1 h1 E R act cs w g fun E' R' act' cs' w' st g' => ?_)
    exact cR_run y Q r1.1 r1.2.1 r1.2.2 r h2 E' R' act' cs' w' g' fun E2 R2 a2 c2 w2 st2 g2 => hQ E2 R2 a2 c2 w2 (st.trans st2) g2
  | .cond c x y, Q, v, a, h, r, hr, E, R, act, cs, w, g, hQ => by
    simp only [cR, onB_eq] at hr
    obtain ⟨m, hcs, hcau, hgood⟩ := g
    have rx : Rel E R ((cd1 W [] c).out [] a) (act.eval c) := look_cd1 (look_start hgood.slots) c
    obtain ⟨b, hb, hr⟩ := onBool_some hr
    rw [hb] at rx
    refine wpSIn_cond rx.bool ?_
    cases b with
    | true => exact cR_run x Q v a h r hr E R act cs w ⟨m, hcs, hcau, hgood⟩ hQ
    | false => exact cR_run y Q v a h r hr E R act cs w ⟨m, hcs, hcau, hgood⟩ hQ
  | .region id ops d, Q, v, a, h, r, hr, E, R, act, cs, w, g, hQ => by
    cases d with
    | true => cases hr
    | false =>
      have hr : rgR P nt W ops ops.toList [] v [] a h = some r := hr
      refine wpSIn_region ?_
      rw [List.range_eq_range', ← Array.length_toList]
      have hg := g
      obtain ⟨m, hcs, hcau, hgood⟩ := g
      exact rgR_run ops.toList 0 (by simp) [] v [] a h r hr (fun u ⟨z, hz⟩ => by cases hz) E R act cs w hg (look_start hgood.slots) hQ
  | .label _, Q, v, a, h, r, hr, E, R, act, cs, w, g, hQ => by cases hr
  | .exit _, Q, v, a, h, r, hr, E, R, act, cs, w, g, hQ => by cases hr
  | .ret, Q, v, a, h, r, hr, E, R, act, cs, w, g, hQ => by cases hr
  | .goto _, Q, v, a, h, r, hr, E, R, act, cs, w, g, hQ => by cases hr
  | .refuse _, Q, v, a, h, r, hr, E, R, act, cs, w, g, hQ => by cases hr
  | .block _ _, Q, v, a, h, r, hr, E, R, act, cs, w, g, hQ => by cases hr
  | .scope _, Q, v, a, h, r, hr, E, R, act, cs, w, g, hQ => by cases hr
  | .loop _, Q, v, a, h, r, hr, E, R, act, cs, w, g, hQ => by cases hr
  | .rangeFunc _ _ _ _, Q, v, a, h, r, hr, E, R, act, cs, w, g, hQ => by cases hr
/-- a deferred function that catches the panic -/
theorem catch_run {f : Nat} {x : FC} (hx : fnC P f = some x) (hres : x.res = []) {E : Env} {R : Nat → Prop} {h : H} {w0 w : World} {l : List AV} {vs : List Value} {v : AV} {pv : Value} {r : AV × A × H} (inv : Inv P E R h w0 w) (ar : ArgsRel E R l vs) (hi : ∃ t u, v = .ifc t u) (hv : Rel E R v pv)
    (hr : cR P x.nt x.W x.body v (argsA l 0 nA) h = some r) (hn : isNil4 r.1 = true) (T : World → Prop) (hT : ∀ (E' : Env) (R' : Nat → Prop) (w' : World), Step E R h E' R' r.2.2 → Inv P E' R' r.2.2 w0 w' → T w') :
    CallsDIn (FW none) 0 P f vs.toArray (.panicking [{ v := pv, recovered := false }]) w fun e u' w' => u' = .panicking [{ v := pv, recovered := true }] ∧ match e with | .returned _ => T w' | _ => False := by
  obtain ⟨fn, c, hf, hb, hnt, hbody, hr2⟩ := fnC_some hx
  refine callsDIn_of_wpSIn hf hb trivial fun c0 cs0 hm => ?_
  rw [← hbody, ← hnt]
  have hmode : c0 = { c0 with mode := .panicking [{ v := pv, recovered := false }] } := by rw [← hm]
  refine cR_run (w0 := w0) (pv := pv) (c0 := c0) (cs0 := cs0) x.body _ v _ h r hr E R _ _ w ⟨_, by rw [← hmode], .inl ⟨hi, hv, rfl⟩, enter_good inv ar⟩ fun E' R' act' cs' w' st g' => ?_
  obtain ⟨m, hcs, hcau, hgood⟩ := g'
  have hm4 : m = .panicking [{ v := pv, recovered := true }] := by
    rcases hcau with ⟨⟨t, u, he⟩, _, _⟩ | ⟨_, h⟩
    · rw [he] at hn; cases hn
    · exact h
  have hrs : (results fn act'.tmps).run P w' = .ok (.tuple #[]) w' := by
    have : fn.results = #[] := by
      rw [hres] at hr2
      exact Array.toList_eq_nil_iff.1 hr2.symm
    simp [results, this]
  exact ⟨defs_nil hgood.ds, m, hcs, _, hrs, hm4, hT E' R' w' st hgood.inv⟩
end
end Go.Proofs.YtccadcefhfdmgaaGreatDoor.Ev
namespace Go.Proofs.YtccadcefhfdmgaaGreatDoor.Ev
open Go
section
variable {P : Program}
/-- contracts of functions that are not walked -/
def IOk (P : Program) (I : Nat → Option (S → List AV → H → RC)) : Prop := ∀ (f : Nat) (g : S → List AV → H → RC), I f = some g → ∀ s, SOk P s → ∀ (l : List AV) (h : H) (vs : List Value) (E : Env) (R : Nat → Prop) (w0 w : World) (T : Ending → World → Prop),
  Inv P E R h w0 w → ArgsRel E R l vs → Post P w0 E R h T (g s l h) → CallsIn (FW none) 0 P f vs.toArray w T
theorem pan_ok {fn : Func} {W : Tr Bool} {a : A} {T : Ending → World → Prop} {w0 : World} {tmps : Array Value} (hw : resW W fn.results.toList = true) {v : AV} {pv : Value} {ds : List ADef} {defers : List Deferred} {E : Env} {R : Nat → Prop} {h : H} {w : World} (hd : DefsOk E R ds defers) (inv : Inv P E R h w0 w) (hs : ActOk E R W a tmps) (hv : Rel E R v pv)
    (hp : Post P w0 E R h T (panA P (resB P fn.results.toList).out a v ds h)) : LeavesInM (FW none) 0 P fn tmps T defers (.panicking [{ v := pv, recovered := false }]) w := by
  cases ds with
  | nil =>
    cases hd
    exact hp E R w pv (Step.refl E R h) inv hv
  | cons d ds =>
    cases d with
    | coll i => cases ds <;> exact hp.elim
    | fn g args =>
      cases ds with
      | cons d' ds' => exact hp.elim
      | nil =>
        cases hd with
        | @cons _ d _ defers h1 h2 =>
          cases h2
          obtain ⟨fst, cap, ht, ha, hon, hcc⟩ := h1
          cases v with
          | ifc t u =>
            have hp : Post P w0 E R h T (onO (extA P g) (onO (fnC P g) .no fun x => lcase x.res (onO (cR P x.nt x.W x.body (.ifc t u) (argsA args 0 nA) h) .no fun r => cnd (isNil4 r.1)
              (onO ((resB P fn.results.toList).out a r.2.2) .no fun l => .ret (resV l) r.2.2) .no) fun _ _ => .no) fun _ => .no) := hp
            cases he : extA P g with
            | some e => rw [he] at hp; exact hp.elim
            | none =>
              rw [he, onO_n] at hp
              cases hx : fnC P g with
              | none => rw [hx] at hp; exact hp.elim
              | some x =>
                rw [hx, onO_s] at hp
                cases hres : x.res with
                | cons y l => rw [hres] at hp; exact hp.elim
                | nil =>
                  rw [hres, lcase_nil] at hp
                  cases hr : cR P x.nt x.W x.body (.ifc t u) (argsA args 0 nA) h with
                  | none => rw [hr] at hp; exact hp.elim
                  | some r =>
                    rw [hr, onO_s] at hp
                    cases hn : isNil4 r.1 with
                    | false => rw [hn] at hp; exact hp.elim
                    | true =>
                      rw [hn, cnd_t] at hp
                      refine ⟨by simp, .inr ⟨fun hd => (by cases hd), .func g, cap.toArray, g, (concs E args).toArray, ht, ?_, fun _ _ => trivial, ?_⟩⟩
                      · rw [ht, ha]
                        simp only [invoke]
                        rw [show fst.toArray ++ cap.toArray = (concs E args).toArray by rw [← hcc]; simp]
                        exact enter_run he _ _
                      · have hcall := catch_run (P := P) hx hres inv (list_rel hon) ⟨t, u, rfl⟩ hv hr hn (fun w' => LeavesInM (FW none) 0 P fn tmps T [] .returning w') fun E' R' w' st inv' => ?_
                        · refine CallsDIn.mono hcall fun e u' w' hx => ?_
                          obtain ⟨rfl, hx⟩ := hx
                          cases e with
                          | returned v => exact hx
                          | panicked c => exact hx.elim
                          | outgrown => exact hx.elim
                        · cases hvs : (resB P fn.results.toList).out a r.2.2 with
                          | none => rw [hvs] at hp; exact hp.elim
                          | some vs =>
                            rw [hvs] at hp
                            obtain ⟨r1, r2⟩ := res_run inv' (hs.step st) hw hvs
                            exact ⟨_, r1, hp E' R' w' _ st inv' (Rel.of r2)⟩
          | _ => exact hp.elim
/-- a function whose body is known -/
theorem body_run (hm : P.follows .mixedOrders = true) {s : S} (sok : SOk P s) {f : Nat} {x : FC} (hx : fnC P f = some x) (hw : resW x.W x.res = true) {l : List AV} {h : H} {vs : List Value} {E : Env} {R : Nat → Prop} {w0 w : World} {T : Ending → World → Prop} (inv : Inv P E R h w0 w) (ar : ArgsRel E R l vs)
    (hp : Post P w0 E R h T (bodyF P (cC P (ccP P) false f x.nt x.W x.body).out (resB P x.res).out s l h)) : CallsIn (FW none) 0 P f vs.toArray w T := by
  obtain ⟨fn, c, hf, hb, hnt, hbody, hres⟩ := fnC_some hx
  have g := enter_good (x := x) inv ar
  rw [hnt] at g
  refine callsIn_of_wp_marks hf hb trivial ?_
  rw [← hbody]
  refine code_run (rd := false) (r := none) hm sok (roundsOk_ccP hm) hx (fun _ => rfl) x.body 0 _ E R h w _ [] _ (by rw [hnt]; exact g) ?_
  rw [hres] at hw hp
  have hret : ∀ (a' : A) (ds' : List ADef) (h2 : H), Post P w0 E R h T (retA P (resB P fn.results.toList).out s a' ds' h2) → ∀ (E' : Env) (R' : Nat → Prop) (act' : Act) (w' : World), Step E R h E' R' h2 → Good P E' R' x.W x.nt h2 w0 w' a' ds' act' → LeavesInM (FW none) 0 P fn act'.tmps T act'.defers .returning w' :=
    fun a' ds' h2 hp E' R' act' w' st g' => leaves_ok sok hw ds' act'.defers E' R' h2 w' g'.ds g'.inv g'.slots (Post.step st hp)
  have hp : Post P w0 E R h T (((cC P (ccP P) false f x.nt x.W x.body).out s (argsA l 0 nA) [] h).on .no (fun a ds h => retA P (resB P fn.results.toList).out s a ds h) (fun _ _ _ _ => .no) (fun _ _ _ _ => .no) (fun a ds h => retA P (resB P fn.results.toList).out s a ds h) fun v a ds h => panA P (resB P fn.results.toList).out a v ds h) := hp
  generalize (cC P (ccP P) false f x.nt x.W x.body).out s (argsA l 0 nA) [] h = out at hp
  cases out with
  | norm a' ds' h2 => exact fun E' R' act' w' st g' => hret a' ds' h2 hp E' R' act' w' st g'
  | ret a' ds' h2 => exact fun E' R' act' w' st g' => hret a' ds' h2 hp E' R' act' w' st g'
  | exit i a' ds' h2 => exact hp.elim
  | goto i a' ds' h2 => exact hp.elim
  | pan v a' ds' h2 => exact fun E' R' act' w' v' st g' hr => pan_ok hw g'.ds g'.inv g'.slots hr (Post.step st hp)
  | no => exact hp.elim
theorem callF_ok (hm : P.follows .mixedOrders = true) {I : Nat → Option (S → List AV → H → RC)} (hI : IOk P I) {s : S} (sok : SOk P s) : CallsOk P (callF P I s) := by
  intro f l h vs E R w0 w T inv ar hp
  unfold callF fnB at hp
  rw [onB_eq] at hp
  split at hp
  · rename_i g hg
    exact hI f g hg s sok l h vs E R w0 w T inv ar hp
  · split at hp
    · rename_i x hx
      cases hw : resW x.W x.res with
      | false => rw [hw] at hp; exact hp.elim
      | true =>
        rw [hw, cnd_t] at hp
        simp only [onB_eq, Bx.out_mk] at hp
        exact body_run hm sok hx hw inv ar hp
    · exact hp.elim
theorem ev_ok (hm : P.follows .mixedOrders = true) {I : Nat → Option (S → List AV → H → RC)} (hI : IOk P I) : ∀ n, SOk P (ev P I n)
  | 0 => ⟨fun f l h vs E R w0 w T _ _ hp => hp.elim, fun f l h vs E R w0 w T u v h' _ _ hc _ => by cases hc⟩
  | n + 1 => ⟨callF_ok hm hI (ev_ok hm hI n), dcall_run hm (ev_ok hm hI n)⟩
end
end Go.Proofs.YtccadcefhfdmgaaGreatDoor.Ev
namespace Go.Proofs.YtccadcefhfdmgaaGreatDoor.Ev
open Go
noncomputable section
/-! states written out -/
def snapH (n : Nat) (l : List (Nat × AO)) : H := ⟨lrec l nH fun x _ t => onB (setO x.1) fun s => s (some x.2) t, n⟩
def frameOf (l : List (Nat × AV)) : A := lrec l nA fun x _ a => onB (setS x.1) fun s => s x.2 a
def eqOL (x y : Option (List AV)) : Bool := onO x (onO y true fun _ => false) fun l => onO y false fun m => eqVs l m
def eqTr (t : Tr (List AV)) : Tr (List AV) → Bool := Tr.rec (motive := fun _ => Tr (List AV) → Bool) (fun u => u.on true fun _ _ _ => false) (fun v _ _ il ir u => u.on false fun v' l' r' => cnd (eqOL v v') (cnd (il l') (ir r') false) false) t
def eqRw (r s : Row) : Bool := r.on (fun l => s.on (fun m => eqVs l m) fun _ _ _ _ => false) fun t n c z => s.on (fun _ => false) fun t' n' c' z' => cnd (eqTr t t') (cnd (Nat.beq n n') (cnd (Nat.beq c c') (eqVs z z') false) false) false
def eqEs (l : List (AV × AV × Nat)) : List (AV × AV × Nat) → Bool := lrec l (fun m => lcase m true fun _ _ => false) fun x _ ih m => lcase m false fun y m => cnd (eqV x.1 y.1) (cnd (eqV x.2.1 y.2.1) (cnd (Nat.beq x.2.2 y.2.2) (ih m) false) false) false
def eqAO (x : AO) (y : Option AO) : Bool := onCells (some x) (onMap (some x) false fun es c => onMap y false fun es' c' => cnd (eqEs es es') (Nat.beq c c') false) fun r s => onCells y false fun r' s' => cnd (Nat.beq s s') (eqRw r r') false
def chkA' (a : A) (l : List (Nat × AV)) : Bool := lrec l true fun x _ ih => cnd (eqV x.2 (onB (getS x.1) fun g => g a)) ih false
def chkO (h : H) (l : List (Nat × AO)) : Bool := lrec l true fun x _ ih => cnd (eqAO x.2 (h.get x.1)) ih false
def chkS (fr : List (Nat × AV)) (n : Nat) (objs : List (Nat × AO)) (o : Out) : Bool := o.on false (fun a ds h => nilD ds false (cnd (Nat.beq h.n n) (cnd (chkA' a fr) (chkO h objs) false) false)) (fun _ _ _ _ => false) (fun _ _ _ _ => false) (fun _ _ _ => false) fun _ _ _ _ => false
/-- so many parts of a code, one behind the other -/
def runK (P : Program) (fn nt : Nat) (W : Tr Bool) : Nat → Code → S → A → List ADef → H → Out
  | 0, _, _, a, ds, h => .norm a ds h
  | k + 1, .seq y z, s, a, ds, h => ((cC P (ccP P) false fn nt W y).out s a ds h).onNorm (runK P fn nt W k z s)
  | _ + 1, _, _, _, _, _ => .no
def dropC : Nat → Code → Code
  | k + 1, .seq _ z => dropC k z
  | _, c => c
/-- how a function ends -/
def finF (P : Program) (res : ResF) (s : S) (o : Out) : RC := o.on .no (fun a ds h => retA P res s a ds h) (fun _ _ _ _ => .no) (fun _ _ _ _ => .no) (fun a ds h => retA P res s a ds h) fun v a ds h => panA P res a v ds h
def isTrueR (r : RC) : Bool := r.on false (fun _ _ => false) fun v _ => v.onBool false fun b => b
def isPtrR (r : RC) : Bool := r.on false (fun _ _ => false) fun v _ => v.onPtr false fun _ _ => true
end
section
variable {P : Program}
theorem eqTr_eq : ∀ (t u : Tr (List AV)), eqTr t u = true → t = u
  | .e, u, h => by cases u <;> first | rfl | cases h
  | .n v l r, u, h => by
    cases u with
    | e => cases h
    | n v' l' r' =>
      have h : cnd (eqOL v v') (cnd (eqTr l l') (eqTr r r') false) false = true := h
      cases h1 : eqOL v v' with
      | false => rw [h1] at h; cases h
      | true =>
        rw [h1, cnd_t] at h
        cases h2 : eqTr l l' with
        | false => rw [h2] at h; cases h
        | true =>
          rw [h2, cnd_t] at h
          rw [eqTr_eq l l' h2, eqTr_eq r r' h]
          have : v = v' := by
            cases v with
            | none =>
              cases v' with
              | none => rfl
              | some m => cases h1
            | some l =>
              cases v' with
              | none => cases h1
              | some m => rw [eqVs_eq l m h1]
          rw [this]
theorem cnd_both {a b : Bool} (h : cnd a b false = true) : a = true ∧ b = true := by
  cases a with
  | true => exact ⟨rfl, h⟩
  | false => cases h
theorem eqRw_eq {r s : Row} (h : eqRw r s = true) : r = s := by
  cases r with
  | sm l =>
    cases s with
    | sm m => rw [eqVs_eq l m h]
    | big t n c z => cases h
  | big t n c z =>
    cases s with
    | sm m => cases h
    | big t' n' c' z' =>
      obtain ⟨h1, h⟩ := cnd_both (show cnd (eqTr t t') (cnd (Nat.beq n n') (cnd (Nat.beq c c') (eqVs z z') false) false) false = true from h)
      obtain ⟨h2, h⟩ := cnd_both h
      obtain ⟨h3, h⟩ := cnd_both h
      rw [eqTr_eq _ _ h1, beq_e h2, beq_e h3, eqVs_eq _ _ h]
theorem eqEs_eq : ∀ (l m : List (AV × AV × Nat)), eqEs l m = true → l = m
  | [], m, h => by cases m <;> first | rfl | cases h
  | x :: l, m, h => by
    cases m with
    | nil => cases h
    | cons y m =>
      obtain ⟨h1, h⟩ := cnd_both (show cnd (eqV x.1 y.1) (cnd (eqV x.2.1 y.2.1) (cnd (Nat.beq x.2.2 y.2.2) (eqEs l m) false) false) false = true from h)
      obtain ⟨h2, h⟩ := cnd_both h
      obtain ⟨h3, h⟩ := cnd_both h
      rw [eqEs_eq l m h]
      obtain ⟨a, b, c⟩ := x
      obtain ⟨d, e, f⟩ := y
      have e1 : a = d := eqV_eq _ _ h1
      have e2 : b = e := eqV_eq _ _ h2
      have e3 : c = f := beq_e h3
      rw [e1, e2, e3]
theorem eqAO_eq {x : AO} {y : Option AO} (h : eqAO x y = true) : y = some x := by
  cases x with
  | cells r sp =>
    cases y with
    | none => cases h
    | some y =>
      cases y with
      | cells r' sp' =>
        obtain ⟨h1, h⟩ := cnd_both (show cnd (Nat.beq sp sp') (eqRw r r') false = true from h)
        rw [beq_e h1, eqRw_eq h]
      | _ => cases h
  | map es c =>
    cases y with
    | none => cases h
    | some y =>
      cases y with
      | map es' c' =>
        obtain ⟨h1, h⟩ := cnd_both (show cnd (eqEs es es') (Nat.beq c c') false = true from h)
        rw [eqEs_eq _ _ h1, beq_e h]
      | _ => cases h
  | iter m a b c => cases h
  | loop => cases h
  | dfr => cases h
theorem snapH_get (n : Nat) : ∀ (l : List (Nat × AO)) (i : Nat) (o : AO), (snapH n l).get i = some o → (i, o) ∈ l
  | [], i, o, h => by
    exfalso
    rw [H.get_eq] at h
    split at h
    · have : (sel2 (i % 256)).out ((sel2 (i / 256)).out nH) = (none : Option AO) := by
        rw [show nH = rep16 (rep16 (rep16 (rep16 none))) from rfl, sel2_rep _ (by omega), sel2_rep _ (by omega)]
      have h : (sel2 (i % 256)).out ((sel2 (i / 256)).out nH) = some o := h
      rw [this] at h; cases h
    · cases h
  | (j, p) :: l, i, o, h => by
    have e : snapH n ((j, p) :: l) = ⟨(setO j).out (some p) (snapH n l).t, n⟩ := by
      show (⟨onB (setO j) fun s => s (some p) (snapH n l).t, n⟩ : H) = _
      rw [onB_eq]
    rw [e, getO_set j i (some p) (snapH n l).t n n] at h
    split at h
    · rename_i hc
      injection h with h
      rw [hc.1, h]; exact List.mem_cons_self ..
    · exact List.mem_cons_of_mem _ (snapH_get n l i o h)
theorem frameOf_get (t : Nat) : ∀ (l : List (Nat × AV)), (∃ v, (t, v) ∈ l ∧ (getS t).out (frameOf l) = v) ∨ (getS t).out (frameOf l) = bad
  | [] => .inr (get_nA t)
  | (u, v) :: l => by
    have e : frameOf ((u, v) :: l) = (setS u).out v (frameOf l) := by
      show onB (setS u) (fun s => s v (frameOf l)) = _
      rw [onB_eq]
    rw [e]
    rcases get_set t u v (frameOf l) with h | ⟨h1, h2⟩
    · rw [h]
      rcases frameOf_get t l with ⟨x, h1, h2⟩ | h1
      · exact .inl ⟨x, List.mem_cons_of_mem _ h1, h2⟩
      · exact .inr h1
    · subst h1
      exact .inl ⟨v, List.mem_cons_self .., h2⟩
theorem chkA_mem {a : A} : ∀ (l : List (Nat × AV)), chkA' a l = true → ∀ x ∈ l, x.2 = (getS x.1).out a
  | [], _, x, h => by cases h
  | y :: l, h, x, hx => by
    obtain ⟨h1, h2⟩ := cnd_both (show cnd (eqV y.2 (onB (getS y.1) fun g => g a)) (chkA' a l) false = true from h)
    rw [onB_eq] at h1
    rcases List.mem_cons.1 hx with rfl | hx
    · exact eqV_eq _ _ h1
    · exact chkA_mem l h2 x hx
theorem chkO_mem {h : H} : ∀ (l : List (Nat × AO)), chkO h l = true → ∀ x ∈ l, h.get x.1 = some x.2
  | [], _, x, h => by cases h
  | y :: l, h1, x, hx => by
    obtain ⟨h2, h3⟩ := cnd_both (show cnd (eqAO y.2 (h.get y.1)) (chkO h l) false = true from h1)
    rcases List.mem_cons.1 hx with rfl | hx
    · exact eqAO_eq h2
    · exact chkO_mem l h3 x hx
theorem inv_less {E : Env} {R : Nat → Prop} {h h' : H} {w0 w : World} (inv : Inv P E R h w0 w) (hn : h'.n = h.n) (hs : ∀ i o, h'.get i = some o → h.get i = some o) : Inv P E R h' w0 w := by
  refine ⟨fun i hi => by rw [hn]; exact inv.dom i hi, fun i hi => ?_, fun i o hi ho => inv.low i o hi (hs i o ho), fun i j o p hi hj ho hp he => inv.inj i j o p hi hj (hs i o ho) (hs j p hp) he, fun i o hi ho => inv.obj i o hi (hs i o ho), inv.bel⟩
  cases hg : h'.get i with
  | none => rfl
  | some o =>
    have := hs i o hg
    rw [inv.top i (by omega)] at this
    cases this
/-- a state of a function at a place between two parts of its code -/
def At (P : Program) (x : FC) (w0 : World) (fr : List (Nat × AV)) (n : Nat) (objs : List (Nat × AO)) (act : Act) (w : World) : Prop := ∃ E R, Good P E R x.W x.nt (snapH n objs) w0 w (frameOf fr) [] act
theorem at_of {x : FC} {w0 : World} {E : Env} {R : Nat → Prop} {fr : List (Nat × AV)} {n : Nat} {objs : List (Nat × AO)} {a : A} {h : H} {act : Act} {w : World} (g : Good P E R x.W x.nt h w0 w a [] act) (hn : h.n = n) (ha : chkA' a fr = true) (ho : chkO h objs = true) : At P x w0 fr n objs act w := by
  refine ⟨E, R, inv_less g.inv hn.symm fun i o hg => ?_, fun t ht => ?_, g.nt, g.ds⟩
  · have := chkO_mem objs ho (i, o) (snapH_get n objs i o hg)
    exact this
  · rcases frameOf_get t fr with ⟨v, h1, h2⟩ | h1
    · have this : v = (getS t).out a := chkA_mem fr ha (t, v) h1
      rw [h2, this]
      exact g.slots t ht
    · rw [h1]; exact Rel.bad E R _
theorem runK_run (hm : P.follows .mixedOrders = true) {s : S} (sok : SOk P s) {fn : Nat} {x : FC} (hx : fnC P fn = some x) {w0 : World} {n : Nat} {Q : Exit → Act → World → Prop} : ∀ (k : Nat) (c : Code) (E : Env) (R : Nat → Prop) (h : H) (w : World) (a : A) (ds : List ADef) (act : Act),
    Good P E R x.W x.nt h w0 w a ds act → Acc P x.W x.nt w0 E R h (Exit.then (fun act' w' => (dropC k c).wpIn (FW none) n P Q act' w') Q) (runK P fn x.nt x.W k c s a ds h) → c.wpIn (FW none) n P Q act w
  | 0, c, E, R, h, w, a, ds, act, g, acc => acc E R act w (Step.refl E R h) g
  | k + 1, c, E, R, h, w, a, ds, act, g, acc => by
    cases c with
    | seq y z =>
      have acc : Acc P x.W x.nt w0 E R h (Exit.then (fun act' w' => (dropC k z).wpIn (FW none) n P Q act' w') Q) (((cC P (ccP P) false fn x.nt x.W y).out s a ds h).onNorm (runK P fn x.nt x.W k z s)) := acc
      have acc2 := acc_norm (N := fun act' w' => z.wpIn (FW none) n P Q act' w') acc fun a' ds' h' E' R' act' w' st g' acc' => runK_run hm sok hx k z E' R' h' w' a' ds' act' g' acc'
      refine wpIn_seq (code_run (rd := false) (r := none) hm sok (roundsOk_ccP hm) hx (fun _ => rfl) y n _ E R h w a ds act g ?_)
      generalize (cC P (ccP P) false fn x.nt x.W y).out s a ds h = out at acc2
      cases out <;> exact acc2
    | _ => exact acc.elim
/-- one stage -/
theorem stage_run (hm : P.follows .mixedOrders = true) {s : S} (sok : SOk P s) {fn : Nat} {x : FC} (hx : fnC P fn = some x) {w0 : World} {n : Nat} {Q : Exit → Act → World → Prop} {k : Nat} {c c' : Code} {fr fr' : List (Nat × AV)} {m m' : Nat} {objs objs' : List (Nat × AO)} {act : Act} {w : World}
    (hc : dropC k c = c') (hk : chkS fr' m' objs' (runK P fn x.nt x.W k c s (frameOf fr) [] (snapH m objs)) = true) (g : At P x w0 fr m objs act w) (next : ∀ act' w', At P x w0 fr' m' objs' act' w' → c'.wpIn (FW none) n P Q act' w') : c.wpIn (FW none) n P Q act w := by
  obtain ⟨E, R, g⟩ := g
  refine runK_run hm sok hx k c E R _ w _ [] act g ?_
  rw [hc]
  generalize runK P fn x.nt x.W k c s (frameOf fr) [] (snapH m objs) = out at hk
  cases out with
  | norm a ds h =>
    have hk : nilD ds false (cnd (Nat.beq h.n m') (cnd (chkA' a fr') (chkO h objs') false) false) = true := hk
    cases ds with
    | cons d ds => cases hk
    | nil =>
      obtain ⟨h1, hk⟩ := cnd_both (show cnd (Nat.beq h.n m') (cnd (chkA' a fr') (chkO h objs') false) false = true from hk)
      obtain ⟨h2, h3⟩ := cnd_both hk
      exact fun E' R' act' w' st g' => next act' w' (at_of g' (beq_e h1) h2 h3)
  | _ => cases hk
end
end Go.Proofs.YtccadcefhfdmgaaGreatDoor.Ev
namespace Go.Proofs.YtccadcefhfdmgaaGreatDoor.Ev
open Go
section
variable {P : Program}
theorem fin_acc {s : S} (sok : SOk P s) {fn : Func} {x : FC} {w0 : World} {E : Env} {R : Nat → Prop} {h : H} {T : Ending → World → Prop} {out : Out} (hw : resW x.W fn.results.toList = true)
    (hp : Post P w0 E R h T (finF P (resB P fn.results.toList).out s out)) : Acc P x.W x.nt w0 E R h (bodyPostM (FW none) 0 P fn T) out := by
  have hret : ∀ (a' : A) (ds' : List ADef) (h2 : H), Post P w0 E R h T (retA P (resB P fn.results.toList).out s a' ds' h2) → ∀ (E' : Env) (R' : Nat → Prop) (act' : Act) (w' : World), Step E R h E' R' h2 → Good P E' R' x.W x.nt h2 w0 w' a' ds' act' → LeavesInM (FW none) 0 P fn act'.tmps T act'.defers .returning w' :=
    fun a' ds' h2 hp E' R' act' w' st g' => leaves_ok sok hw ds' act'.defers E' R' h2 w' g'.ds g'.inv g'.slots (Post.step st hp)
  cases out with
  | norm a' ds' h2 => exact fun E' R' act' w' st g' => hret a' ds' h2 hp E' R' act' w' st g'
  | ret a' ds' h2 => exact fun E' R' act' w' st g' => hret a' ds' h2 hp E' R' act' w' st g'
  | exit i a' ds' h2 => exact hp.elim
  | goto i a' ds' h2 => exact hp.elim
  | pan v a' ds' h2 => exact fun E' R' act' w' v' st g' hr => pan_ok hw g'.ds g'.inv g'.slots hr (Post.step st hp)
  | no => exact hp.elim
theorem inv_empty (E : Env) (w : World) : Inv P E (fun _ => False) (snapH 0 []) w w := by
  have hg : ∀ (i : Nat) (o : AO), (snapH 0 []).get i = some o → False := fun i o h => by have := snapH_get 0 [] i o h; cases this
  refine ⟨fun i hi => hi.elim, fun i _ => ?_, fun i o hi => hi.elim, fun i j o p hi => hi.elim, fun i o hi => hi.elim, RowKit.Below.refl _ w⟩
  cases h : (snapH 0 []).get i with
  | none => rfl
  | some o => exact (hg i o h).elim
/-- a function without parameters, from its start -/
theorem start_run {f : Nat} {x : FC} (hx : fnC P f = some x) {w : World} {T : Ending → World → Prop}
    (h : ∀ (fn : Func) (act : Act), P.funcs[f]? = some fn → x.res = fn.results.toList → At P x w [] 0 [] act w → x.body.wpIn (FW none) 0 P (bodyPostM (FW none) 0 P fn T) act w) : CallsIn (FW none) 0 P f #[] w T := by
  obtain ⟨fn, c, hf, hb, hnt, hbody, hres⟩ := fnC_some hx
  refine callsIn_of_wp_marks hf hb trivial ?_
  rw [← hbody]
  refine h fn _ hf hres ?_
  have g := enter_good (x := x) (l := []) (vs := []) (inv_empty (P := P) ⟨fun _ => 0, fun _ => 0, fun _ => 0, fun _ => 0⟩ w) ⟨rfl, fun i v v' h => by cases h⟩
  rw [hnt] at g
  exact ⟨_, _, ⟨g.inv, g.slots, by rw [hnt]; exact g.nt, g.ds⟩⟩
/-- the last stage -/
theorem last_run (hm : P.follows .mixedOrders = true) {s : S} (sok : SOk P s) {f : Nat} {x : FC} (hx : fnC P f = some x) {fn : Func} (hres : x.res = fn.results.toList) (hw : resW x.W x.res = true) {w0 : World} {T : Ending → World → Prop} {c : Code} {fr : List (Nat × AV)} {m : Nat} {objs : List (Nat × AO)} {act : Act} {w : World}
    (g : At P x w0 fr m objs act w) (hp : ∀ (E : Env) (R : Nat → Prop), Post P w0 E R (snapH m objs) T (finF P (resB P x.res).out s ((cC P (ccP P) false f x.nt x.W c).out s (frameOf fr) [] (snapH m objs)))) : c.wpIn (FW none) 0 P (bodyPostM (FW none) 0 P fn T) act w := by
  obtain ⟨E, R, g⟩ := g
  rw [hres] at hw hp
  exact code_run (rd := false) (r := none) hm sok (roundsOk_ccP hm) hx (fun _ => rfl) c 0 _ E R _ w _ [] act g (fin_acc sok hw (hp E R))
theorem isTrueR_eq {r : RC} (h : isTrueR r = true) : ∃ h', r = .ret (.bool true) h' := by
  cases r with
  | ret v h' =>
    cases v with
    | bool b =>
      have h : b = true := h
      subst h
      exact ⟨h', rfl⟩
    | _ => cases h
  | _ => cases h
theorem isPtrR_eq {r : RC} (h : isPtrR r = true) : ∃ i o h', r = .ret (.ptr i o) h' := by
  cases r with
  | ret v h' =>
    cases v with
    | ptr i o => exact ⟨i, o, h', rfl⟩
    | _ => cases h
  | _ => cases h
theorem inv_below {E : Env} {R : Nat → Prop} {h : H} {w0 w w' : World} (inv : Inv P E R h w0 w) (b : RowKit.Below w.heap.size w w') : Inv P E R h w0 w' :=
  ⟨inv.dom, inv.top, inv.low, inv.inj, fun i o hi ho => objOk_step (fun _ _ => ⟨rfl, rfl, rfl, rfl⟩) (fun _ h => h) hi (b.block _ (objOk_lt (inv.obj i o hi ho))) (inv.obj i o hi ho), inv.bel.trans (b.mono inv.bel.size)⟩
end
end Go.Proofs.YtccadcefhfdmgaaGreatDoor.Ev
