/- The evaluator is sound: what it answers the program does. No condition beyond what each theorem states. -/
import Derived.Test.YtccadcefhfdmgaaGreatDoorEvD
import Derived.Laws.StructEq
import Derived.Laws.NewFold
namespace Go.Proofs.YtccadcefhfdmgaaGreatDoor.Ev
open Go
theorem szT_of {P : Program} {t : TypeId} {d : TypeDesc} (h : P.underlying t = some d) : ∃ n, szT P t = some n := by
  unfold szT
  rw [h]
  unfold Program.underlying at h
  cases hi : P.info? t with
  | none => rw [hi] at h; cases h
  | some i => exact ⟨i.size, rfl⟩
section
variable {P : Program} {w : World} {E : Env} {R : Nat → Prop}
def EqOk (P : Program) (E : Env) (R : Nat → Prop) (w : World) (d : Nat) (t : TypeId) (f : AV → AV → Option Bool) : Prop :=
  ∀ (x y : AV) (b : Bool), x.On R → y.On R → f x y = some b → ∀ D, d ≤ D → (Op.equalIn D t (conc E x) (conc E y)).run P w = .ok b w
theorem eqNil_some {t : Nat} {x y : AV} {b : Bool} (h : eqNil t x y = some b) : (x = .nil t ∧ y = .nil t ∧ b = true) ∨ (x = .nil t ∧ notNil t y = some b) ∨ (y = .nil t ∧ notNil t x = some b) := by
  have key : (∃ u, x = .nil u) ∨ ((∀ u, x ≠ .nil u) ∧ y.onNil none (fun u => cnd (Nat.beq u t) (notNil t x) none) = some b) := by
    cases x <;> first | exact .inl ⟨_, rfl⟩ | exact .inr ⟨(fun _ e => by cases e), h⟩
  rcases key with ⟨u, rfl⟩ | ⟨_, h⟩
  · obtain ⟨h1, h2⟩ := cnd_some (show cnd (Nat.beq u t) (y.onNil (notNil t y) fun u => cnd (Nat.beq u t) (some true) none) none = some b from h)
    have h1 := beq_e h1
    subst h1
    cases y <;> first | exact .inr (.inl ⟨rfl, h2⟩) | skip
    rename_i v
    obtain ⟨h3, h4⟩ := cnd_some (show cnd (Nat.beq v u) (some true) none = some b from h2)
    have h3 := beq_e h3
    subst h3
    injection h4 with h4
    exact .inl ⟨rfl, rfl, h4.symm⟩
  · obtain ⟨u, rfl, h1⟩ := onNil_some h
    obtain ⟨h2, h3⟩ := cnd_some h1
    have h2 := beq_e h2
    subst h2
    exact .inr (.inr ⟨rfl, h3⟩)
theorem notNil_some {t : Nat} {x : AV} {b : Bool} (h : notNil t x = some b) : b = false ∧ ((t = 0 ∧ ∃ i o, x = .ptr i o) ∨ (t = 1 ∧ ∃ i o l c e, x = .sl i o l c e) ∨ (t = 3 ∧ ∃ f p q, x = .fn f p q) ∨ (t = 2 ∧ ∃ i, x = .ref 0 i) ∨ (t = 3 ∧ ∃ i, x = .ref 2 i)) := by
  cases x <;> try (cases h; done)
  case ptr i o =>
    obtain ⟨h1, h2⟩ := cnd_some (show cnd (Nat.beq t 0) (some false) none = some b from h)
    injection h2 with h2; exact ⟨h2.symm, .inl ⟨beq_e h1, i, o, rfl⟩⟩
  case sl i o l c e =>
    obtain ⟨h1, h2⟩ := cnd_some (show cnd (Nat.beq t 1) (some false) none = some b from h)
    injection h2 with h2; exact ⟨h2.symm, .inr (.inl ⟨beq_e h1, i, o, l, c, e, rfl⟩)⟩
  case fn f p q =>
    obtain ⟨h1, h2⟩ := cnd_some (show cnd (Nat.beq t 3) (some false) none = some b from h)
    injection h2 with h2; exact ⟨h2.symm, .inr (.inr (.inl ⟨beq_e h1, f, p, q, rfl⟩))⟩
  case ref u i =>
    have h' : cnd (Nat.beq u 0) (cnd (Nat.beq t 2) (some false) none) (cnd (Nat.beq u 2) (cnd (Nat.beq t 3) (some false) none) none) = some b := h
    cases h0 : Nat.beq u 0 with
    | true =>
      rw [h0, cnd_t] at h'
      obtain ⟨h1, h2⟩ := cnd_some h'
      injection h2 with h2; exact ⟨h2.symm, .inr (.inr (.inr (.inl ⟨beq_e h1, i, by rw [beq_e h0]⟩)))⟩
    | false =>
      rw [h0, cnd_f] at h'
      obtain ⟨h1, h2⟩ := cnd_some h'
      obtain ⟨h3, h4⟩ := cnd_some h2
      injection h4 with h4; exact ⟨h4.symm, .inr (.inr (.inr (.inr ⟨beq_e h3, i, by rw [beq_e h1]⟩)))⟩
/-- two values of which one at least is nil -/
theorem eqNil_ok {k : Nat} {t : TypeId} {d : Nat} (hk : (k = 0 ∧ ∃ u, P.underlying t = some (.pointer u)) ∨ (k = 1 ∧ ∃ u, P.underlying t = some (.slice u)) ∨ (k = 2 ∧ ∃ u v, P.underlying t = some (.map u v)) ∨ (k = 3 ∧ ∃ a b c, P.underlying t = some (.func a b c))) :
    EqOk P E R w (d + 1) t (eqNil k) := by
  intro x y b hx hy h D hD
  obtain ⟨D, rfl⟩ : ∃ D', D = D' + 1 := ⟨D - 1, by omega⟩
  rcases hk with ⟨rfl, u, hu⟩ | ⟨rfl, u, hu⟩ | ⟨rfl, u, v, hu⟩ | ⟨rfl, p, q, r, hu⟩ <;>
    rcases eqNil_some h with ⟨rfl, rfl, rfl⟩ | ⟨rfl, h1⟩ | ⟨rfl, h1⟩ <;> try
    (obtain ⟨rfl, h2⟩ := notNil_some h1
     rcases h2 with ⟨h3, i, o, rfl⟩ | ⟨h3, i, o, l, c, e, rfl⟩ | ⟨h3, f, p, q, rfl⟩ | ⟨h3, i, rfl⟩ | ⟨h3, i, rfl⟩ <;> try (cases h3; done))
  all_goals simp [Op.equalIn, run_underlying hu, conc]
theorem aeq_ok : ∀ (d : Nat) (t : TypeId), EqOk P E R w d t (aeqX (eqT P d t)).out
  | 0, t => by intro x y b _ _ h; cases h
  | d + 1, t => by
    have ih := aeq_ok d
    have hbad : ∀ e : EqT, e = .bad → EqOk P E R w (d + 1) t (aeqX e).out := by
      rintro e rfl x y b _ _ h; cases h
    unfold eqT
    split
    · rename_i k hu
      intro x y b hx hy h D hD
      obtain ⟨D, rfl⟩ : ∃ D', D = D' + 1 := ⟨D - 1, by omega⟩
      obtain ⟨j, m, rfl, h1⟩ := onInt_some (v := x) h
      obtain ⟨j', n, rfl, h2⟩ := onInt_some h1
      obtain ⟨h3, h4⟩ := cnd_some h2
      have h3 := eqK_eq h3
      subst h3
      injection h4 with h4
      subst h4
      simp [Op.equalIn, run_underlying hu, conc, eqI_eq]
    · rename_i hu
      intro x y b hx hy h D hD
      obtain ⟨D, rfl⟩ : ∃ D', D = D' + 1 := ⟨D - 1, by omega⟩
      obtain ⟨m, rfl, h1⟩ := onBool_some (v := x) h
      obtain ⟨n, rfl, h2⟩ := onBool_some h1
      injection h2 with h4
      subst h4
      simp [Op.equalIn, run_underlying hu, conc]
      cases m <;> cases n <;> rfl
    · rename_i hu
      intro x y b hx hy h D hD
      obtain ⟨D, rfl⟩ : ∃ D', D = D' + 1 := ⟨D - 1, by omega⟩
      obtain ⟨m, rfl, h1⟩ := onStr_some (v := x) h
      obtain ⟨n, rfl, h2⟩ := onStr_some h1
      injection h2 with h4
      subst h4
      simp only [Op.equalIn, Sem.run_bind, run_underlying hu, conc, Result.andThen_ok, Sem.run_pure, beq_toListBytes, strV_toList, eqS_eq m n hx hy]
    · rename_i u hu; exact eqNil_ok (.inl ⟨rfl, u, hu⟩)
    · rename_i u hu; exact eqNil_ok (.inr (.inl ⟨rfl, u, hu⟩))
    · rename_i u v hu; exact eqNil_ok (.inr (.inr (.inl ⟨rfl, u, v, hu⟩)))
    · rename_i u v hu; exact eqNil_ok (.inr (.inr (.inr ⟨rfl, _, _, _, hu⟩)))
    · rename_i fs hu
      cases hs : P.stoodInHeld t with
      | true => exact hbad _ rfl
      | false =>
        intro x y b hx hy h D hD
        obtain ⟨D, rfl⟩ : ∃ D', D = D' + 1 := ⟨D - 1, by omega⟩
        simp only [cond_false, aeqX, onB_eq, Bx.out_mk] at h
        obtain ⟨l, rfl, h1⟩ := onAgg_some (v := x) h
        obtain ⟨m, rfl, h2⟩ := onAgg_some h1
        have hf : P.fieldsOf t = fs := by simp [Program.fieldsOf, hu]
        simp only [conc]
        rw [run_equalIn_struct w D t _ _ (by rw [hf]; exact hu) hs, hf]
        clear hu hf h h1 hbad
        generalize fs.toList = fl at h2
        induction fl generalizing b with
        | nil =>
          have h2 : some true = some b := h2
          injection h2 with h2
          subst h2
          rfl
        | cons f fl ihf =>
          by_cases hn : f.name = "_"
          · have hb : (f.name == "_") = true := by rw [hn]; rfl
            rw [fieldsT, hb, cond_true] at h2
            rw [Op.eqFields, if_neg (fun e => e hn)]
            exact ihf b h2
          · have hb : (f.name == "_") = false := by rw [beq_eq_false_iff_ne]; exact hn
            rw [fieldsT, hb, cond_false] at h2
            simp only [aeqXs, onB_eq, Bx.out_mk, aeqF] at h2
            obtain ⟨a1, h3, h4⟩ := onO_some h2
            obtain ⟨a2, h5, h6⟩ := onO_some h4
            obtain ⟨r, h7, h8⟩ := onO_some h6
            have hu : ∃ n, szT P f.type = some n := by
              cases hu : P.underlying f.type with
              | some dd => exact szT_of hu
              | none =>
                exfalso
                have : eqT P d f.type = .bad := by
                  cases d with
                  | zero => rfl
                  | succ d => unfold eqT; rw [hu]
                rw [this] at h7
                cases h7
            obtain ⟨n, hu⟩ := hu
            rw [hu] at h3 h5
            obtain ⟨h9, h10⟩ := part_of (w := w) (E := E) hu hx h3
            obtain ⟨h11, h12⟩ := part_of (w := w) (E := E) hu hy h5
            rw [Op.eqFields, if_pos hn, run_b h9, run_b h11, run_b (ih f.type a1 a2 r h10 h12 h7 D (by omega))]
            cases r with
            | true => exact ihf b h8
            | false =>
              have h8 : some false = some b := h8
              injection h8 with h8
              subst h8
              rfl
    · exact hbad _ rfl
end
end Go.Proofs.YtccadcefhfdmgaaGreatDoor.Ev
namespace Go.Proofs.YtccadcefhfdmgaaGreatDoor.Ev
open Go
section
variable {P : Program} {o : Oper} {cd : Operand → Bx Od}
theorem guard_agg {op : BinOp} {t : TypeId} {x y : Operand} {a b : Value} {w : World} (h1 : a ≠ .nilIface) (h2 : P.eqGuardType P.depth t = false) : (eqGuard op t x y a b).run P w = .ok () w := by
  unfold eqGuard
  cases op <;> simp <;> (cases a <;> simp at h1 ⊢) <;> (cases b <;> simp [h2])
inductive Plain : Value → Prop
  | bool (b : Bool) : Plain (.bool b)
  | ptr (a : Option Addr) : Plain (.pointer a)
  | slice (a : Option Addr) (l c : Nat) : Plain (.slice a l c)
  | map (a : Option Nat) : Plain (.map a)
  | nf : Plain .nilFunc
  | fn (f : Fn) (a b : Array Value) : Plain (.func f a b)
  | agg (l : Array Value) : Plain (.agg l)
theorem plain_eql {t : TypeId} {x y : Value} (h : Plain x) : binOp .eql t x y = (do pure (.bool (← Op.equal t x y))) := by
  cases h <;> cases y <;> rfl
theorem plain_neq {t : TypeId} {x y : Value} (h : Plain x) : binOp .neq t x y = (do pure (.bool (!(← Op.equal t x y)))) := by
  cases h <;> cases y <;> rfl
theorem plain_ne {x : Value} (h : Plain x) : x ≠ .nilIface := by cases h <;> simp
theorem eqT_int {d : Nat} {t : TypeId} (h : eqT P d t = .int) : ∃ k, P.underlying t = some (.int k) := by
  cases d with
  | zero => cases h
  | succ d =>
    unfold eqT at h
    split at h <;> first | exact ⟨_, by assumption⟩ | cases h | (cases hs : P.stoodInHeld t <;> rw [hs] at h <;> cases h)
theorem eqT_str {d : Nat} {t : TypeId} (h : eqT P d t = .str) : P.underlying t = some .string := by
  cases d with
  | zero => cases h
  | succ d =>
    unfold eqT at h
    split at h <;> first | assumption | cases h | (cases hs : P.stoodInHeld t <;> rw [hs] at h <;> cases h)
theorem eqT_nil {d k : Nat} {t : TypeId} (h : eqT P d t = .nil k) : k < 4 := by
  cases d with
  | zero => cases h
  | succ d =>
    unfold eqT at h
    split at h <;> first | (injection h with h; subst h; decide) | cases h | (cases hs : P.stoodInHeld t <;> rw [hs] at h <;> cases h)
theorem plain_nil {E : Env} {k : Nat} (h : k < 4) : Plain (conc E (.nil k)) := by
  rcases k with _ | _ | _ | _ | k
  · exact .ptr _
  · exact .slice _ _ _
  · exact .map _
  · exact .nf
  · omega
theorem known_nil {k : Nat} (h : k < 4) : (AV.nil k).known = true := ble_t (by omega)
/-- where equality says something -/
theorem aeq_plain {t : TypeId} {x y : AV} {b : Bool} {E : Env} {d : Nat} (h : (aeqX (eqT P d t)).out x y = some b) (hi : ∀ k, P.underlying t ≠ some (.int k)) (hs : P.underlying t ≠ some .string) :
    Plain (conc E x) ∧ x.known = true ∧ y.known = true := by
  generalize he : eqT P d t = e at h
  cases e with
  | int => obtain ⟨k, hk⟩ := eqT_int he; exact absurd hk (hi k)
  | str => exact absurd (eqT_str he) hs
  | bad => cases h
  | bool =>
    obtain ⟨m, rfl, h1⟩ := onBool_some (v := x) h
    obtain ⟨n, rfl, h2⟩ := onBool_some h1
    exact ⟨.bool _, rfl, rfl⟩
  | st fs =>
    simp only [aeqX, onB_eq, Bx.out_mk] at h
    obtain ⟨m, rfl, h1⟩ := onAgg_some (v := x) h
    obtain ⟨n, rfl, h2⟩ := onAgg_some h1
    exact ⟨.agg _, rfl, rfl⟩
  | nil k =>
    have hk := eqT_nil he
    rcases eqNil_some h with ⟨rfl, rfl, _⟩ | ⟨rfl, h1⟩ | ⟨rfl, h1⟩
    · exact ⟨plain_nil hk, known_nil hk, known_nil hk⟩
    · obtain ⟨_, h2⟩ := notNil_some h1
      refine ⟨plain_nil hk, known_nil hk, ?_⟩
      rcases h2 with ⟨_, _, _, rfl⟩ | ⟨_, _, _, _, _, _, rfl⟩ | ⟨_, _, _, _, rfl⟩ | ⟨_, _, rfl⟩ | ⟨_, _, rfl⟩ <;> rfl
    · obtain ⟨_, h2⟩ := notNil_some h1
      refine ⟨?_, ?_, known_nil hk⟩
      · rcases h2 with ⟨_, _, _, rfl⟩ | ⟨_, _, _, _, _, _, rfl⟩ | ⟨_, _, _, _, rfl⟩ | ⟨_, _, rfl⟩ | ⟨_, _, rfl⟩
        · exact .ptr _
        · exact .slice _ _ _
        · exact .fn _ _ _
        · exact .map _
        · exact .fn _ _ _
      · rcases h2 with ⟨_, _, _, rfl⟩ | ⟨_, _, _, _, _, _, rfl⟩ | ⟨_, _, _, _, rfl⟩ | ⟨_, _, rfl⟩ | ⟨_, _, rfl⟩ <;> rfl
theorem ok_eql {t yt : TypeId} {x y : Operand} (ho : o.op = .binOp .eql t x y yt) (hg : P.eqGuardType P.depth t = false) (hi : ∀ k, P.underlying t ≠ some (.int k)) (hs : P.underlying t ≠ some .string) :
    ValOk P o cd (qEql (aeqX (eqT P 6 t)).out (cd x).out (cd y).out) := by
  intro E R h w0 w e a ρ v inv rel hq
  rw [ho] at rel
  obtain ⟨b, h1, h2⟩ := onO_some hq
  rw [rB_eq, Option.some.injEq] at h2
  subst h2
  obtain ⟨h3, h4, h5⟩ := aeq_plain (E := E) h1 hi hs
  obtain ⟨h6, h7⟩ := rel x (by simp [Op.operands]) h4
  obtain ⟨h8, h9⟩ := rel y (by simp [Op.operands]) h5
  refine ⟨_, bin_of ho ?_ ?_, Rel.of (v := .bool b) trivial⟩
  · rw [h7]; exact guard_agg (plain_ne h3) hg
  · rw [h7, h9, plain_eql h3, Op.equal, run_b (aeq_ok 6 t _ _ b h6 h8 h1 _ (by decide))]; rfl
theorem ok_neq {t yt : TypeId} {x y : Operand} (ho : o.op = .binOp .neq t x y yt) (hg : P.eqGuardType P.depth t = false) (hi : ∀ k, P.underlying t ≠ some (.int k)) (hs : P.underlying t ≠ some .string) :
    ValOk P o cd (qNeq (aeqX (eqT P 6 t)).out (cd x).out (cd y).out) := by
  intro E R h w0 w e a ρ v inv rel hq
  rw [ho] at rel
  obtain ⟨b, h1, h2⟩ := onO_some hq
  rw [rB_eq, notB_eq, Option.some.injEq] at h2
  subst h2
  obtain ⟨h3, h4, h5⟩ := aeq_plain (E := E) h1 hi hs
  obtain ⟨h6, h7⟩ := rel x (by simp [Op.operands]) h4
  obtain ⟨h8, h9⟩ := rel y (by simp [Op.operands]) h5
  refine ⟨_, bin_of ho ?_ ?_, Rel.of (v := .bool !b) trivial⟩
  · rw [h7]; exact guard_agg (plain_ne h3) hg
  · rw [h7, h9, plain_neq h3, Op.equal, run_b (aeq_ok 6 t _ _ b h6 h8 h1 _ (by decide))]; rfl
/-! slices -/
theorem odO_none : odO cd none = none := rfl
theorem odO_some (x : Operand) : odO cd (some x) = some (cd x).out := by simp only [odO, onB_eq]
theorem bnd_run {x : Operand} {E : Env} {R : Nat → Prop} {e : List AV} {a : A} {ρ : Operand → Value} {w : World} {d y n : Nat} {code : BoundsCode} (hr : Rel E R ((cd x).out e a) (ρ x)) (h : bnd d (odO cd (some x)) e a = some n) (hn : n ≤ y) :
    (Instr.sliceBound (ρ x) y code).run P w = .ok n w := by
  rw [odO_some] at h
  obtain ⟨k, m, hx, h1⟩ := onN_some (show ((cd x).out e a).onN none some = some n from h)
  injection h1 with h1
  subst h1
  rw [hx] at hr
  rw [Instr.sliceBound, hr.int, run_b asInt_run]
  simp [hn]
theorem bounds_run {lo hi : Option Operand} {E : Env} {R : Nat → Prop} {e : List AV} {a : A} {ρ : Operand → Value} {w : World} {isS : Bool} {len cap l g : Nat}
    (hl : ∀ x, lo = some x → Rel E R ((cd x).out e a) (ρ x)) (hh : ∀ x, hi = some x → Rel E R ((cd x).out e a) (ρ x)) (h1 : bnd 0 (odO cd lo) e a = some l) (h2 : bnd len (odO cd hi) e a = some g) (h3 : l ≤ g) (h4 : g ≤ cap) :
    (Instr.sliceBounds isS len cap (lo.map ρ) (hi.map ρ) none).run P w = .ok (l, g, cap) w := by
  rw [Instr.sliceBounds]
  cases hi with
  | none =>
    injection h2 with h2
    subst h2
    cases lo with
    | none => injection h1 with h1; subst h1; simp
    | some x => simp [bnd_run (P := P) (w := w) (hl x rfl) h1 h3]
  | some y =>
    cases lo with
    | none => injection h1 with h1; subst h1; simp [bnd_run (P := P) (w := w) (hh y rfl) h2 h4]
    | some x => simp [bnd_run (P := P) (w := w) (hl x rfl) h1 h3, bnd_run (P := P) (w := w) (hh y rfl) h2 h4]
theorem ok_slA {t el : TypeId} {x : Operand} {lo hi : Option Operand} {n s : Nat} (ho : o.op = .slice t x lo hi none) (ht : P.underlying t = some (.array n el)) (hs : szT P el = some s) :
    ValOk P o cd (qSlA n s (cd x).out (odO cd lo) (odO cd hi)) := by
  intro E R h w0 w e a ρ v inv rel hq
  rw [ho] at rel
  obtain ⟨i, c, hx, q1⟩ := onPtr_some hq
  obtain ⟨l, q2, q3⟩ := onO_some q1
  obtain ⟨g, q4, q5⟩ := onO_some q3
  obtain ⟨q6, q7⟩ := cnd_some q5
  obtain ⟨q8, q9⟩ := cnd_some q7
  have q6 := ble_le q6
  have q8 := ble_le q8
  have rx := rel x (by simp [Op.operands]); rw [hx] at rx; obtain ⟨rx, hl⟩ := rx.ptr
  have hb := bounds_run (P := P) (w := w) (isS := false) (fun y hy => rel y (by simp [Op.operands, hy])) (fun y hy => rel y (by simp [Op.operands, hy])) q2 q4 q6 q8
  have run : ∀ v', (Instr.sliceAt t (ρ x) (lo.map ρ) (hi.map ρ) none).run P w = .ok v' w → (execOp ρ o).run P w = .ok (.value v') w := by
    intro v' h1
    simp only [execOp, ho]
    exact run_v h1
  cases hnl : Nat.beq n l with
  | true =>
    have e1 := beq_e hnl
    rw [hnl, cnd_t, Option.some.injEq] at q9
    subst q9
    refine ⟨_, run _ ?_, Rel.of (v := .sl i c 0 0 true) hl⟩
    rw [Instr.sliceAt, run_b (run_U ht)]
    simp only [rx, Instr.sureAddr]
    rw [run_b (Sem.run_pure P w _), run_b hb]
    simp only []
    rw [run_b (run_S hs)]
    have e2 : g = l := by omega
    simp [conc, e1, e2]
  | false =>
    have e1 := beq_ne hnl
    rw [hnl, cnd_f, stN_eq, stN_eq, stN_eq, Option.some.injEq] at q9
    subst q9
    refine ⟨_, run _ ?_, Rel.of (v := .sl i (Nat.add c (Nat.mul l s)) (Nat.sub g l) (Nat.sub n l) true) hl⟩
    rw [Instr.sliceAt, run_b (run_U ht)]
    simp only [rx, Instr.sureAddr]
    rw [run_b (Sem.run_pure P w _), run_b hb]
    simp only []
    rw [run_b (run_S hs)]
    simp [conc, e1, addr_add, Nat.add_assoc]
end
end Go.Proofs.YtccadcefhfdmgaaGreatDoor.Ev
namespace Go.Proofs.YtccadcefhfdmgaaGreatDoor.Ev
open Go
/-- an operation that only looks, and may name a place of its own -/
def GhoOk (P : Program) (o : Oper) (cd : Operand → Bx Od) (f : List AV → A → H → Nat → Option (AV × Bool)) : Prop :=
  ∀ (E : Env) (R : Nat → Prop) (h : H) (w0 w : World) (e : List AV) (a : A) (ρ : Operand → Value) (nid : Nat) (v : AV) (g : Bool), Inv P E R h w0 w → OpsRel E R cd e a ρ o.op.operands.toList → f e a h nid = some (v, g) →
    ∃ v', (execOp ρ o).run P w = .ok (.value v') w ∧ (g = false → Rel E R v v') ∧ (g = true → ¬ R nid → ∃ E' : Env, (∀ j, j ≠ nid → E.Agree E' j) ∧ Rel E' (fun j => R j ∨ j = nid) v v')
def Env.upd (E : Env) (i : Nat) (b c x : Nat) (n : Int) : Env :=
  ⟨fun j => if j = i then b else E.blk j, fun j => if j = i then c else E.base j, fun j => if j = i then x else E.xc j, fun j => if j = i then n else E.num j⟩
theorem upd_agree (E : Env) (i b c x : Nat) (n : Int) (j : Nat) (h : j ≠ i) : E.Agree (E.upd i b c x n) j := by
  constructor <;> simp [Env.upd, h]
section
variable {P : Program} {o : Oper} {cd : Operand → Bx Od}
theorem cap_le {ex : Bool} {c x : Nat} : c ≤ (if ex then c else c + x) := by cases ex <;> simp
theorem ok_slS {t el : TypeId} {x : Operand} {lo hi : Option Operand} {s : Nat} (ho : o.op = .slice t x lo hi none) (ht : P.underlying t = some (.slice el)) (hs : szT P el = some s) :
    GhoOk P o cd (qSlS s (cd x).out (odO cd lo) (odO cd hi)) := by
  intro E R h w0 w e a ρ nid v gh inv rel hq
  rw [ho] at rel
  have rx := rel x (by simp [Op.operands])
  have run : ∀ v', (Instr.sliceAt t (ρ x) (lo.map ρ) (hi.map ρ) none).run P w = .ok v' w → (execOp ρ o).run P w = .ok (.value v') w := by
    intro v' h1
    simp only [execOp, ho]
    exact run_v h1
  have stp : ∀ (ad : Option Addr) (len cap l g : Nat), ρ x = .slice ad len cap → bnd 0 (odO cd lo) e a = some l → bnd len (odO cd hi) e a = some g → l ≤ g → g ≤ cap →
      (execOp ρ o).run P w = .ok (.value (.slice (if cap = l then ad else ad.map (·.add (l * s))) (g - l) (cap - l))) w := by
    intro ad len cap l g h1 h2 h3 h4 h5
    refine run _ ?_
    have hb := bounds_run (P := P) (w := w) (isS := true) (fun y hy => rel y (by simp [Op.operands, hy])) (fun y hy => rel y (by simp [Op.operands, hy])) h2 h3 h4 h5
    rw [Instr.sliceAt, run_b (run_U ht)]
    simp only []
    rw [Instr.slice, run_b (run_U ht), h1]
    simp only []
    rw [run_b hb]
    simp only []
    rw [run_b (run_S hs)]
    rfl
  rcases onSl_some hq with ⟨hx, q1⟩ | ⟨i, c, n, cp, ex, hx, q1⟩
  · rw [hx] at rx
    have rx : ρ x = .slice none 0 0 := (rx rfl).2
    obtain ⟨l, q2, q3⟩ := onO_some q1
    obtain ⟨g, q4, q5⟩ := onO_some q3
    obtain ⟨q6, q7⟩ := cnd_some q5
    obtain ⟨q8, q9⟩ := cnd_some q7
    have q6 := beq_e q6
    have q8 := beq_e q8
    subst q6 q8
    rw [Option.some.injEq, Prod.mk.injEq] at q9
    obtain ⟨rfl, rfl⟩ := q9
    refine ⟨_, stp none 0 0 0 0 rx q2 q4 (Nat.le_refl _) (Nat.le_refl _), fun _ => ?_, fun h => by cases h⟩
    exact Rel.of (v := .nil 1) (by show 1 ≤ 4; decide)
  · rw [hx] at rx
    obtain ⟨rx, hl⟩ := rx.sl
    obtain ⟨l, q2, q3⟩ := onO_some q1
    obtain ⟨g, q4, q5⟩ := onO_some q3
    obtain ⟨q6, q7⟩ := cnd_some q5
    obtain ⟨q8, q9⟩ := cnd_some q7
    have q6 := ble_le q6
    have q8 := ble_le q8
    have hrun := stp _ n _ l g rx q2 q4 q6 (Nat.le_trans q8 cap_le)
    rw [stN_eq, stN_eq] at q9
    have es1 : Nat.sub g l = g - l := rfl
    have es2 : Nat.sub cp l = cp - l := rfl
    rw [es1, es2] at q9
    cases hc0 : Nat.beq (cp - l) 0 with
    | false =>
      have hc0 := beq_ne hc0
      rw [beq_false_of_ne' hc0, cnd_f, stN_eq, Option.some.injEq, Prod.mk.injEq] at q9
      obtain ⟨rfl, rfl⟩ := q9
      refine ⟨_, hrun, fun _ => ?_, fun h => by cases h⟩
      have : ∀ z, z = conc E (.sl i (c + l * s) (g - l) (cp - l) ex) → Rel E R (.sl i (c + l * s) (g - l) (cp - l) ex) z := by rintro z rfl; exact Rel.of hl
      refine this _ ?_
      simp only [conc]
      cases ex with
      | true => simp only [if_true]; rw [if_neg (by omega)]; simp [addr_add, Nat.add_assoc]
      | false =>
        simp only [Bool.false_eq_true, if_false]
        rw [if_neg (by omega)]
        simp [addr_add, Nat.add_assoc]; omega
    | true =>
      have hc1 := beq_e hc0
      rw [hc0, cnd_t] at q9
      cases ex with
      | true =>
        rw [cnd_t, Option.some.injEq, Prod.mk.injEq] at q9
        obtain ⟨rfl, rfl⟩ := q9
        refine ⟨_, hrun, fun _ => ?_, fun h => by cases h⟩
        have e1 : cp = l := by omega
        have e2 : g = l := by omega
        have : ∀ z, z = conc E (.sl i c 0 0 true) → Rel E R (.sl i c 0 0 true) z := by rintro z rfl; exact Rel.of hl
        refine this _ ?_
        simp [conc, e1, e2]
      | false =>
        rw [cnd_f] at q9
        cases hl0 : Nat.beq l 0 with
        | true =>
          have e0 := beq_e hl0
          subst e0
          rw [hl0, cnd_t, Option.some.injEq, Prod.mk.injEq] at q9
          obtain ⟨rfl, rfl⟩ := q9
          refine ⟨_, hrun, fun _ => ?_, fun h => by cases h⟩
          have : ∀ z, z = conc E (.sl i c (g - 0) (cp - 0) false) → Rel E R (.sl i c (g - 0) (cp - 0) false) z := by rintro z rfl; exact Rel.of hl
          refine this _ ?_
          simp [conc, Addr.add]
        | false =>
          have e0 := beq_ne hl0
          rw [hl0, cnd_f, Option.some.injEq, Prod.mk.injEq] at q9
          obtain ⟨rfl, rfl⟩ := q9
          refine ⟨_, hrun, (fun h => by cases h), fun _ hn => ?_⟩
          have e1 : cp = l := by omega
          have e2 : g = l := by omega
          subst e1 e2
          refine ⟨E.upd nid (E.blk i) (if E.xc i = 0 then E.base i + c else E.base i + c + g * s) (E.xc i) 0, fun j hj => upd_agree E nid _ _ _ _ j hj, fun _ => ⟨.inr rfl, ?_⟩⟩
          by_cases hz : E.xc i = 0 <;> simp [conc, Env.upd, hz, addr_add]
theorem ok_slT {t : TypeId} {x : Operand} {lo hi : Option Operand} (ho : o.op = .slice t x lo hi none) (ht : P.underlying t = some .string) : ValOk P o cd (qSlT (cd x).out (odO cd lo) (odO cd hi)) := by
  intro E R h w0 w e a ρ v inv rel hq
  rw [ho] at rel
  have rx := rel x (by simp [Op.operands])
  obtain ⟨m, hx, q1⟩ := onStr_some hq
  rw [hx] at rx
  obtain ⟨rx, hm⟩ := rx.str
  obtain ⟨l, q2, q3⟩ := onO_some q1
  obtain ⟨g, q4, q5⟩ := onO_some q3
  obtain ⟨q6, q7⟩ := cnd_some q5
  obtain ⟨q8, q9⟩ := cnd_some q7
  have q6 := ble_le q6
  have q8 := ble_le q8
  rw [lenL_eq] at q4 q8
  rw [takeL_eq, dropL_eq, Option.some.injEq] at q9
  subst q9
  refine ⟨_, ?_, Rel.of (v := .str _) fun b hb => hm b (List.mem_of_mem_drop (List.mem_of_mem_take hb))⟩
  simp only [execOp, ho]
  refine run_v ?_
  have hb := bounds_run (P := P) (w := w) (lo := lo) (hi := hi) (isS := false) (cap := (strV m).size) (len := (strV m).size) (fun y hy => rel y (by simp [Op.operands, hy])) (fun y hy => rel y (by simp [Op.operands, hy])) q2 (by rw [strV_size]; exact q4) q6 (by rw [strV_size]; exact q8)
  rw [Instr.sliceAt, run_b (run_U ht)]
  simp only []
  rw [Instr.slice, run_b (run_U ht), rx]
  simp only [Option.map_none, Option.isSome_none, Bool.false_eq_true, if_false]
  rw [run_b hb]
  simp only [Sem.run_pure, conc]
  congr 2
  apply ByteArray.ext
  simp only [strV, ByteArray.data_extract]
  apply Array.ext'
  simp [List.map_take, List.map_drop]
theorem ok_sl3 {t el : TypeId} {x hi mx : Operand} {lo : Option Operand} {s : Nat} (ho : o.op = .slice t x lo (some hi) (some mx)) (ht : P.underlying t = some (.slice el)) (hs : szT P el = some s) :
    ValOk P o cd (qSl3 s (cd x).out (odO cd lo) (cd hi).out (cd mx).out) := by
  intro E R h w0 w e a ρ v inv rel hq
  rw [ho] at rel
  have rx := rel x (by simp [Op.operands])
  have rh := rel hi (by simp [Op.operands])
  have rm := rel mx (by simp [Op.operands])
  rcases onSl_some hq with ⟨_, h0⟩ | ⟨i, c, n, cp, ex, hx, q1⟩
  · cases h0
  rw [hx] at rx
  obtain ⟨rx, hl⟩ := rx.sl
  obtain ⟨l, q2, q3⟩ := onO_some q1
  obtain ⟨k1, g, hg, q4⟩ := onN_some q3
  obtain ⟨k2, m, hm, q5⟩ := onN_some q4
  rw [hg] at rh; have rh := rh.int
  rw [hm] at rm; have rm := rm.int
  obtain ⟨q6, q7⟩ := cnd_some q5
  obtain ⟨q8, q9⟩ := cnd_some q7
  obtain ⟨q10, q11⟩ := cnd_some q9
  have q6 := ble_le q6
  have q8 := ble_le q8
  have q10 := ble_le q10
  have hC : m ≤ (if ex then cp else cp + E.xc i) := Nat.le_trans q10 cap_le
  have hb : (Instr.sliceBounds true n (if ex then cp else cp + E.xc i) (lo.map ρ) (some (ρ hi)) (some (ρ mx))).run P w = .ok (l, g, m) w := by
    generalize (if ex then cp else cp + E.xc i) = C at hC
    rw [Instr.sliceBounds]
    have b1 : (Instr.sliceBound (ρ mx) C .slice3Acap).run P w = .ok m w := by rw [Instr.sliceBound, rm, run_b asInt_run]; simp [hC]
    have b2 : (Instr.sliceBound (ρ hi) m .slice3B).run P w = .ok g w := by rw [Instr.sliceBound, rh, run_b asInt_run]; simp [q8]
    cases lo with
    | none => injection q2 with q2; subst q2; simp [b1, b2]
    | some y => simp [b1, b2, bnd_run (P := P) (w := w) (rel y (by simp [Op.operands])) q2 q6]
  have run : ∀ v', (Instr.sliceAt t (ρ x) (lo.map ρ) (some (ρ hi)) (some (ρ mx))).run P w = .ok v' w → (execOp ρ o).run P w = .ok (.value v') w := by
    intro v' h1
    simp only [execOp, ho]
    exact run_v h1
  have hrun := run (.slice (if m = l then some ⟨E.blk i, E.base i + c, none⟩ else (some ⟨E.blk i, E.base i + c, none⟩ : Option Addr).map (·.add (l * s))) (g - l) (m - l)) (by
    rw [Instr.sliceAt, run_b (run_U ht)]
    simp only []
    rw [Instr.slice, run_b (run_U ht), rx]
    simp only []
    rw [run_b hb]
    simp only []
    rw [run_b (run_S hs)]
    rfl)
  cases hml : Nat.beq m l with
  | true =>
    have e1 := beq_e hml
    rw [hml, cnd_t, Option.some.injEq] at q11
    subst q11
    refine ⟨_, hrun, ?_⟩
    have : ∀ z, z = conc E (.sl i c 0 0 true) → Rel E R (.sl i c 0 0 true) z := by rintro z rfl; exact Rel.of hl
    refine this _ ?_
    have e2 : g = l := by omega
    simp [conc, e1, e2]
  | false =>
    have e1 := beq_ne hml
    rw [hml, cnd_f, stN_eq, stN_eq, stN_eq, Option.some.injEq] at q11
    subst q11
    refine ⟨_, hrun, ?_⟩
    have : ∀ z, z = conc E (.sl i (c + l * s) (g - l) (m - l) true) → Rel E R (.sl i (c + l * s) (g - l) (m - l) true) z := by rintro z rfl; exact Rel.of hl
    refine this _ ?_
    simp [conc, e1, addr_add, Nat.add_assoc]
theorem ok_sub {t yt : TypeId} {x y : Operand} (ho : o.op = .binOp .sub t x y yt) : GhoOk P o cd (qSub (cd x).out (cd y).out) := by
  intro E R h w0 w e a ρ nid v gh inv rel hq
  rw [ho] at rel
  have rx := rel x (by simp [Op.operands])
  have ry := rel y (by simp [Op.operands])
  have key : (∃ k m n, (cd x).out e a = .int k m ∧ (cd y).out e a = .int k n ∧ v = .int k (wrapA k (Int.sub m n)) ∧ gh = false) ∨ (∃ i j, (cd x).out e a = .ref 1 i ∧ (cd y).out e a = .ref 1 j ∧ v = .ref 1 nid ∧ gh = true) := by
    change AV.onInt ((cd x).out e a) _ _ = some (v, gh) at hq
    generalize (cd x).out e a = u at hq
    cases u with
    | int k m =>
      left
      obtain ⟨j, n, hn, q1⟩ := onInt_some (show ((cd y).out e a).onInt none (fun j n => cnd (eqK k j) (stI (wrapA k (Int.sub m n)) fun n => some (AV.int k n, false)) none) = some (v, gh) from hq)
      obtain ⟨q2, q3⟩ := cnd_some q1
      have q2 := eqK_eq q2
      subst q2
      rw [stI_eq, Option.some.injEq, Prod.mk.injEq] at q3
      exact ⟨k, m, n, rfl, hn, q3.1.symm, q3.2.symm⟩
    | ref t1 i =>
      right
      obtain ⟨q1, q2⟩ := cnd_some (show cnd (Nat.beq t1 1) (((cd y).out e a).onRef none fun u _ => cnd (Nat.beq u 1) (some (.ref 1 nid, true)) none) none = some (v, gh) from hq)
      have q1 := beq_e q1
      subst q1
      rcases onRef_some q2 with ⟨t2, j, hj, q3⟩ | ⟨q3, _⟩
      · obtain ⟨q4, q5⟩ := cnd_some q3
        have q4 := beq_e q4
        subst q4
        rw [Option.some.injEq, Prod.mk.injEq] at q5
        exact ⟨i, j, rfl, hj, q5.1.symm, q5.2.symm⟩
      · cases q3
    | _ => cases hq
  rcases key with ⟨k, m, n, hx, hy, rfl, rfl⟩ | ⟨i, j, hx, hy, rfl, rfl⟩
  · rw [hx] at rx; have rx := rx.int
    rw [hy] at ry; have ry := ry.int
    refine ⟨.int k (wrapA k (Int.sub m n)), bin_of ho (by rw [rx]; exact guard_run (by simp) (by simp)) ?_, fun _ => Rel.of (v := .int k _) trivial, fun h => by cases h⟩
    rw [rx, ry, wrapA_eq]
    simp [binOp, Op.intArith]
    rfl
  · rw [hx] at rx; obtain ⟨⟨_, hi⟩, rx⟩ := rx rfl
    rw [hy] at ry; obtain ⟨⟨_, hj⟩, ry⟩ := ry rfl
    have rx : ρ x = .int .i64 (E.num i) := rx
    have ry : ρ y = .int .i64 (E.num j) := ry
    refine ⟨.int .i64 (IntKind.i64.wrap (E.num i - E.num j)), bin_of ho (by rw [rx]; exact guard_run (by simp) (by simp)) ?_, (fun h => by cases h), fun _ hn => ?_⟩
    · rw [rx, ry]
      simp [binOp, Op.intArith]
    · refine ⟨E.upd nid 0 0 0 (IntKind.i64.wrap (E.num i - E.num j)), fun k hk => upd_agree E nid _ _ _ _ k hk, fun _ => ⟨⟨by decide, .inr rfl⟩, ?_⟩⟩
      simp [conc, Env.upd]
end
end Go.Proofs.YtccadcefhfdmgaaGreatDoor.Ev
namespace Go.Proofs.YtccadcefhfdmgaaGreatDoor.Ev
open Go
theorem eqS_same : ∀ (l m : List Nat), eqS l m = true → l = m
  | [], [], _ => rfl
  | [], _ :: _, h => by cases h
  | _ :: _, [], h => by cases h
  | a :: l, b :: m, h => by
    have h' : cnd (Nat.beq a b) (eqS l m) false = true := h
    cases hb : Nat.beq a b with
    | false => rw [hb] at h'; cases h'
    | true => rw [hb, cnd_t] at h'; rw [beq_e hb, eqS_same l m h']
theorem cnd_and {a b : Bool} (h : cnd a b false = true) : a = true ∧ b = true := by
  cases a with
  | false => cases h
  | true => exact ⟨rfl, h⟩
theorem onInt_t {v : AV} {f : IntKind → Int → Bool} (h : v.onInt false f = true) : ∃ k n, v = .int k n ∧ f k n = true := by cases v <;> first | exact ⟨_, _, rfl, h⟩ | cases h
theorem onBool_t {v : AV} {f : Bool → Bool} (h : v.onBool false f = true) : ∃ k, v = .bool k ∧ f k = true := by cases v <;> first | exact ⟨_, rfl, h⟩ | cases h
theorem onStr_t {v : AV} {f : List Nat → Bool} (h : v.onStr false f = true) : ∃ k, v = .str k ∧ f k = true := by cases v <;> first | exact ⟨_, rfl, h⟩ | cases h
theorem onPtr_t {v : AV} {f : Nat → Nat → Bool} (h : v.onPtr false f = true) : ∃ k n, v = .ptr k n ∧ f k n = true := by cases v <;> first | exact ⟨_, _, rfl, h⟩ | cases h
theorem onRef_t {v : AV} {f : Nat → Nat → Bool} (h : v.onRef false f = true) : ∃ k n, v = .ref k n ∧ f k n = true := by cases v <;> first | exact ⟨_, _, rfl, h⟩ | cases h
theorem onIfc_t {v : AV} {f : Nat → AV → Bool} (h : v.onIfc false f = true) : ∃ k n, v = .ifc k n ∧ f k n = true := by cases v <;> first | exact ⟨_, _, rfl, h⟩ | cases h
theorem onNil_t {v : AV} {f : Nat → Bool} (h : v.onNil false f = true) : ∃ k, v = .nil k ∧ f k = true := by cases v <;> first | exact ⟨_, rfl, h⟩ | cases h
theorem onSlc_t {v : AV} {f : Nat → Nat → Nat → Nat → Bool → Bool} (h : v.onSlc false f = true) : ∃ a b c d e, v = .sl a b c d e ∧ f a b c d e = true := by cases v <;> first | exact ⟨_, _, _, _, _, rfl, h⟩ | cases h
theorem onFn_t {v : AV} {f : Nat → List AV → List AV → Bool} (h : v.onFn false f = true) : ∃ a b c, v = .fn a b c ∧ f a b c = true := by cases v <;> first | exact ⟨_, _, _, rfl, h⟩ | cases h
theorem onAg_t {v : AV} {f : Bool → List AV → Bool} (h : v.onAg false f = true) : ∃ a b, v = .agg a b ∧ f a b = true := by cases v <;> first | exact ⟨_, _, rfl, h⟩ | cases h
mutual
theorem eqV_eq : ∀ (v w : AV), eqV v w = true → v = w
  | .int k a, w, h => by
    rw [eqV] at h
    obtain ⟨j, b, rfl, h1⟩ := onInt_t h
    obtain ⟨h2, h3⟩ := cnd_and h1
    rw [eqI_eq] at h3
    rw [eqK_eq h2, eq_of_beq h3]
  | .bool a, w, h => by
    rw [eqV] at h
    obtain ⟨b, rfl, h1⟩ := onBool_t h
    rw [eqB_eq h1]
  | .str a, w, h => by
    rw [eqV] at h
    obtain ⟨b, rfl, h1⟩ := onStr_t h
    rw [eqS_same _ _ h1]
  | .ptr a b, w, h => by
    rw [eqV] at h
    obtain ⟨c, d, rfl, h1⟩ := onPtr_t h
    obtain ⟨h2, h3⟩ := cnd_and h1
    rw [beq_e h2, beq_e h3]
  | .sl a b c d e, w, h => by
    rw [eqV] at h
    obtain ⟨f, g, i, j, k, rfl, h1⟩ := onSlc_t h
    obtain ⟨h2, h3⟩ := cnd_and h1
    obtain ⟨h4, h5⟩ := cnd_and h3
    obtain ⟨h6, h7⟩ := cnd_and h5
    obtain ⟨h8, h9⟩ := cnd_and h7
    rw [beq_e h2, beq_e h4, beq_e h6, beq_e h8, eqB_eq h9]
  | .nil a, w, h => by
    rw [eqV] at h
    obtain ⟨b, rfl, h1⟩ := onNil_t h
    rw [beq_e h1]
  | .ref a b, w, h => by
    rw [eqV] at h
    obtain ⟨c, d, rfl, h1⟩ := onRef_t h
    obtain ⟨h2, h3⟩ := cnd_and h1
    rw [beq_e h2, beq_e h3]
  | .fn f a b, w, h => by
    rw [eqV] at h
    obtain ⟨g, c, d, rfl, h1⟩ := onFn_t h
    obtain ⟨h2, h3⟩ := cnd_and h1
    obtain ⟨h4, h5⟩ := cnd_and h3
    rw [beq_e h2, eqVs_eq a c h4, eqVs_eq b d h5]
  | .ifc t u, w, h => by
    rw [eqV] at h
    obtain ⟨s, y, rfl, h1⟩ := onIfc_t h
    obtain ⟨h2, h3⟩ := cnd_and h1
    rw [beq_e h2, eqV_eq u y h3]
  | .agg s a, w, h => by
    rw [eqV] at h
    obtain ⟨t, b, rfl, h1⟩ := onAg_t h
    obtain ⟨h2, h3⟩ := cnd_and h1
    rw [eqB_eq h2, eqVs_eq a b h3]
theorem eqVs_eq : ∀ (l m : List AV), eqVs l m = true → l = m
  | [], [], _ => rfl
  | [], b :: m, h => by rw [eqVs] at h; cases h
  | a :: l, [], h => by rw [eqVs] at h; cases h
  | a :: l, b :: m, h => by
    rw [eqVs, lcase_cons] at h
    obtain ⟨h1, h2⟩ := cnd_and h
    rw [eqV_eq a b h1, eqVs_eq l m h2]
end
section
variable {P : Program} {o : Oper} {cd : Operand → Bx Od}
def KeyOk (P : Program) (t : TypeId) (f : AV → AV → Option Bool) (g : AV → Bool) (d : TypeDesc) : Prop :=
  P.underlying t = some d ∧ ((f = aeqInt ∧ ∃ k, d = .int k) ∨ (f = aeqStr ∧ d = .string) ∨ (∃ fs, d = .struct fs ∧ plainF P fs.toList = true ∧ f = (aeqX (eqT P 6 t)).out ∧ g = chkA (chkF (fieldsT P (eqT P 5) fs.toList)).out))
theorem keyT_some {t : TypeId} {x : KT} (h : keyT P t = some x) : ∃ d, KeyOk P t x.eq x.chk d := by
  unfold keyT at h
  split at h
  · rename_i k hk; injection h with h; subst h; exact ⟨_, hk, .inl ⟨rfl, k, rfl⟩⟩
  · rename_i hk; injection h with h; subst h; exact ⟨_, hk, .inr (.inl ⟨rfl, rfl⟩)⟩
  · rename_i fs hk
    cases hp : plainF P fs.toList with
    | false => rw [hp] at h; cases h
    | true =>
      rw [hp, cond_true, onB_eq, onB_eq, Option.some.injEq] at h
      subst h
      exact ⟨_, hk, .inr (.inr ⟨fs, rfl, hp, rfl, rfl⟩)⟩
  · cases h
theorem key_fast {f : AV → AV → Option Bool} {d : TypeDesc} {x y : AV} {b : Bool} {E : Env} {R : Nat → Prop} (hk : (f = aeqInt ∧ ∃ k, d = .int k) ∨ (f = aeqStr ∧ d = .string)) (h : f x y = some b) (hx : x.known = true → x.On R) (hy : y.On R) :
    x.known = true ∧ Instr.sameNow d (conc E x) (conc E y) = some b := by
  rcases hk with ⟨rfl, k, rfl⟩ | ⟨rfl, rfl⟩
  · obtain ⟨j, m, rfl, h1⟩ := onInt_some (v := x) h
    obtain ⟨j', n, rfl, h2⟩ := onInt_some h1
    obtain ⟨h3, h4⟩ := cnd_some h2
    have h3 := eqK_eq h3
    subst h3
    injection h4 with h4
    rw [eqI_eq] at h4
    subst h4
    exact ⟨rfl, by simp [Instr.sameNow, conc]⟩
  · obtain ⟨m, rfl, h1⟩ := onStr_some (v := x) h
    obtain ⟨n, rfl, h2⟩ := onStr_some h1
    injection h2 with h4
    have hx : ∀ b ∈ m, b < 256 := hx rfl
    have hy : ∀ b ∈ n, b < 256 := hy
    have e : (strV m == strV n) = b := by rw [beq_toListBytes, strV_toList, strV_toList, ← eqS_eq m n hx hy, h4]
    exact ⟨rfl, by simp only [Instr.sameNow, conc, e]⟩
theorem findK_fast {f : AV → AV → Option Bool} {d : TypeDesc} {E : Env} {R : Nat → Prop} {k : AV} {k' : Value} (hk : (f = aeqInt ∧ ∃ k, d = .int k) ∨ (f = aeqStr ∧ d = .string)) (rk : Rel E R k k') : ∀ (es : List (AV × AV × Nat)) (i : Nat) (r : Option (Nat × AV)), (∀ x ∈ es, x.1.On R) → findK f k es i = some r →
    Instr.findNow d k' (es.map (concE E)) i = some (r.map fun p => (p.1, conc E p.2))
  | [], i, r, _, h => by
    have h' : some none = some r := h
    injection h' with h'
    subst h'
    rfl
  | x :: es, i, r, ho, h => by
    obtain ⟨b, h1, h2⟩ := onO_some (show onO (f k x.1) none (fun b => cnd b (some (some (i, x.2.1))) (findK f k es (Nat.succ i))) = some r from h)
    obtain ⟨h3, h4⟩ := key_fast (E := E) (R := R) hk h1 (fun hh => (rk hh).1) (ho x (List.mem_cons_self ..))
    have e := (rk h3).2
    subst e
    cases b with
    | true =>
      rw [cnd_t, Option.some.injEq] at h2
      subst h2
      simp only [List.map_cons, Instr.findNow, concE, h4, Option.map_some]
    | false =>
      rw [cnd_f] at h2
      simp only [List.map_cons, Instr.findNow, concE, h4]
      exact findK_fast hk rk es _ r (fun y hy => ho y (List.mem_cons_of_mem _ hy)) h2
theorem findK_slow {t : TypeId} {E : Env} {R : Nat → Prop} {k : AV} {w : World} (hk : k.On R) : ∀ (es : List (AV × AV × Nat)) (i : Nat) (r : Option (Nat × AV)), (∀ x ∈ es, x.1.On R) → findK (aeqX (eqT P 6 t)).out k es i = some r →
    (Instr.findAsking t (conc E k) (es.map (concE E)) i).run P w = .ok (r.map fun p => (p.1, conc E p.2)) w
  | [], i, r, _, h => by
    have h' : some none = some r := h
    injection h' with h'
    subst h'
    rfl
  | x :: es, i, r, ho, h => by
    obtain ⟨b, h1, h2⟩ := onO_some (show onO ((aeqX (eqT P 6 t)).out k x.1) none (fun b => cnd b (some (some (i, x.2.1))) (findK (aeqX (eqT P 6 t)).out k es (Nat.succ i))) = some r from h)
    rw [List.map_cons, Instr.findAsking, Op.equal]
    show (Op.equalIn Op.maxDepth t (conc E k) (conc E x.1) >>= _).run P w = _
    rw [run_b (aeq_ok 6 t k x.1 b hk (ho x (List.mem_cons_self ..)) h1 Op.maxDepth (by decide))]
    cases b with
    | true =>
      rw [cnd_t, Option.some.injEq] at h2
      subst h2
      rfl
    | false =>
      rw [cnd_f] at h2
      exact findK_slow hk es _ r (fun y hy => ho y (List.mem_cons_of_mem _ hy)) h2
theorem findK_at {f : AV → AV → Option Bool} {k : AV} : ∀ (es : List (AV × AV × Nat)) (i : Nat) (p : Nat × AV), findK f k es i = some (some p) → i ≤ p.1 ∧ ∃ x, es[p.1 - i]? = some x ∧ x.2.1 = p.2
  | [], i, p, h => by
    have h' : some none = some (some p) := h
    simp at h'
  | x :: es, i, p, h => by
    obtain ⟨b, h1, h2⟩ := onO_some (show onO (f k x.1) none (fun b => cnd b (some (some (i, x.2.1))) (findK f k es (Nat.succ i))) = some (some p) from h)
    cases b with
    | true =>
      rw [cnd_t, Option.some.injEq, Option.some.injEq] at h2
      subst h2
      exact ⟨Nat.le_refl _, x, by simp, rfl⟩
    | false =>
      rw [cnd_f] at h2
      obtain ⟨h3, y, h4, h5⟩ := findK_at es _ p h2
      refine ⟨by omega, y, ?_, h5⟩
      rw [show p.1 - i = (p.1 - Nat.succ i) + 1 from by omega, List.getElem?_cons_succ]
      exact h4
theorem findKey_run {t : TypeId} {f : AV → AV → Option Bool} {g : AV → Bool} {d : TypeDesc} {E : Env} {R : Nat → Prop} {k : AV} {k' : Value} {es : List (AV × AV × Nat)} {r : Option (Nat × AV)} {w : World} (hk : KeyOk P t f g d) (hg : g k = true) (rk : Rel E R k k')
    (ho : ∀ x ∈ es, x.1.On R) (h : findK f k es 0 = some r) : (Instr.findKey t k' (es.map (concE E))).run P w = .ok (r.map fun p => (p.1, conc E p.2)) w := by
  obtain ⟨hu, hk⟩ := hk
  rw [Instr.findKey, run_b (run_U hu)]
  rcases hk with h1 | h1 | ⟨fs, rfl, hp, rfl, rfl⟩
  · rw [findK_fast (.inl h1) rk es 0 r ho h]; rfl
  · rw [findK_fast (.inr h1) rk es 0 r ho h]; rfl
  · cases es with
    | nil =>
      have h' : some none = some r := h
      injection h' with h'
      subst h'
      rfl
    | cons x es =>
      have e : k.known = true := by
        obtain ⟨a, b, rfl, h2⟩ := onAg_t (v := k) hg
        rfl
      obtain ⟨h1, h2⟩ := rk e
      subst h2
      exact findK_slow h1 (x :: es) 0 r ho h
theorem checkKey_struct {t : TypeId} {fs : Array Field} {E : Env} {R : Nat → Prop} {l : List AV} {em : Bool} (w : World) (m n : Nat) (hm : m = n + 1) (hu : P.underlying t = some (.struct fs)) (hp : plainF P fs.toList = true) (hc : (chkF (fieldsT P (eqT P 5) fs.toList)).out l = true) (hl : Ons R l) :
    (Instr.checkKey em (m + 1) t (.agg (concs E l).toArray)).run P w = .ok () w := by
  simp only [Instr.checkKey, Sem.run_bind, run_underlying hu, Result.andThen_ok]
  rw [← Array.forIn_toList]
  generalize fs.toList = fl at hp hc
  clear hu
  induction fl with
  | nil => rfl
  | cons f fl ih =>
    simp only [List.forIn_cons, Sem.run_bind, Sem.run_ite]
    by_cases hn : f.name = "_"
    · have hb : (f.name == "_") = true := by rw [hn]; rfl
      rw [plainF, hb, cond_true] at hp
      rw [fieldsT, hb, cond_true] at hc
      rw [if_neg (fun e => e hn)]
      exact ih hp hc
    · have hb : (f.name == "_") = false := by rw [beq_eq_false_iff_ne]; exact hn
      rw [plainF, hb, cond_false] at hp
      rw [fieldsT, hb, cond_false] at hc
      simp only [chkF, onB_eq, Bx.out_mk, chkFC] at hc
      cases hv : partA ((szT P f.type).getD 0) (isAggT P f.type) f.offset l with
      | none => rw [hv] at hc; cases hc
      | some v =>
        rw [hv, onO_s] at hc
        have key : ∃ d, P.underlying f.type = some d ∧ plainF P fl = true ∧ ((∃ k, d = .int k) ∨ d = .string ∨ d = .bool) := by
          split at hp
          · rename_i k h1; exact ⟨_, h1, hp, .inl ⟨k, rfl⟩⟩
          · rename_i h1; exact ⟨_, h1, hp, .inr (.inl rfl)⟩
          · rename_i h1; exact ⟨_, h1, hp, .inr (.inr rfl)⟩
          · cases hp
        obtain ⟨d, hu, hp, hd⟩ := key
        obtain ⟨sz, hsz⟩ := szT_of hu
        rw [hsz] at hv
        obtain ⟨h1, h2⟩ := part_of (P := P) (w := w) (E := E) hsz hl hv
        have h3 : (Instr.checkKey em m f.type (conc E v)).run P w = .ok () w := by
          subst hm
          rw [Instr.checkKey, run_b (run_U hu)]
          rcases hd with ⟨k, rfl⟩ | rfl | rfl <;> rfl
        rw [if_pos hn, h1]
        simp only [Result.andThen_ok, h3, Sem.run_pure]
        exact ih hp hc
theorem checkKey_run {t : TypeId} {f : AV → AV → Option Bool} {g : AV → Bool} {d : TypeDesc} {E : Env} {R : Nat → Prop} {k : AV} {k' : Value} {em : Bool} {w : World} (hk : KeyOk P t f g d) (hg : g k = true) (rk : Rel E R k k') : (Instr.checkKey em 10000 t k').run P w = .ok () w := by
  obtain ⟨hu, hk⟩ := hk
  rcases hk with ⟨_, k, rfl⟩ | ⟨_, rfl⟩ | ⟨fs, rfl, hp, rfl, rfl⟩
  · show (Instr.checkKey em (9999 + 1) t k').run P w = .ok () w
    rw [Instr.checkKey, run_b (run_U hu)]; rfl
  · show (Instr.checkKey em (9999 + 1) t k').run P w = .ok () w
    rw [Instr.checkKey, run_b (run_U hu)]; rfl
  · obtain ⟨tp, l, rfl, h1⟩ := onAg_t (v := k) hg
    cases tp with
    | true => cases h1
    | false =>
      obtain ⟨h2, h3⟩ := rk rfl
      subst h3
      exact checkKey_struct w 9999 9998 rfl hu hp h1 h2
theorem okV_some {ok b : Bool} {x v : AV} {E : Env} {R : Nat → Prop} (h : okV ok b x = some v) (hx : x.On R) : v.On R ∧ conc E v = if ok = true then .tuple #[conc E x, .bool b] else conc E x := by
  unfold okV at h
  cases ok with
  | true => rw [cnd_t, Option.some.injEq] at h; subst h; exact ⟨⟨hx, trivial, trivial⟩, rfl⟩
  | false => rw [cnd_f, Option.some.injEq] at h; subst h; exact ⟨hx, rfl⟩
theorem ok_lookup {t kt el : TypeId} {m k : Operand} {ok : Bool} {z : AV} {x : KT} (ho : o.op = .lookup t m k ok) (ht : P.underlying t = some (.map kt el)) (hf : keyT P kt = some x) (hz : zeroT P el = some z) :
    ValOk P o cd (qLk x.eq x.chk z ok (cd m).out (cd k).out) := by
  intro E R h w0 w e a ρ v inv rel hq
  rw [ho] at rel
  have rm := rel m (by simp [Op.operands])
  have rk := rel k (by simp [Op.operands])
  obtain ⟨hg, hq⟩ := cnd_some hq
  obtain ⟨d, hk⟩ := keyT_some hf
  obtain ⟨z1, z2⟩ := run_zero (w := w) E R hz
  have fin : ∀ (es : List (AV × AV × Nat)) (r : Option (Nat × AV)), (∀ x ∈ es, x.1.On R ∧ x.2.1.On R ∧ True) → findK x.eq ((cd k).out e a) es 0 = some r → onO r (okV ok false z) (fun x => okV ok true x.2) = some v → ∀ mm : Sem (Array MapEntry), mm.run P w = .ok (es.map (concE E)).toArray w →
      (mm >>= fun es => do
        Instr.checkKey es.isEmpty 10000 kt (ρ k)
        let (v, ok') ← match ← Instr.findKey kt (ρ k) es.toList with
          | some (_, v) => pure (v, true)
          | none => pure (← zeroValue el, false)
        pure (if ok then .tuple #[v, .bool ok'] else v) : Sem Value).run P w = .ok (conc E v) w ∧ v.On R := by
    intro es r hes hfk hr mm hmm
    have h1 := findKey_run (P := P) (w := w) hk hg rk (fun x hx => (hes x hx).1) hfk
    cases r with
    | none =>
      obtain ⟨h2, h3⟩ := okV_some (E := E) (show okV ok false z = some v from hr) z2
      refine ⟨?_, h2⟩
      rw [run_b hmm, run_b (checkKey_run hk hg rk), run_b h1]
      simp only [Option.map_none]
      rw [run_b z1, run_b (Sem.run_pure P w _), h3]
      rfl
    | some p =>
      obtain ⟨_, x, h4, h5⟩ := findK_at es 0 p hfk
      have hp : p.2.On R := h5 ▸ (hes x (List.mem_of_getElem? h4)).2.1
      obtain ⟨h2, h3⟩ := okV_some (E := E) (show okV ok true p.2 = some v from hr) hp
      refine ⟨?_, h2⟩
      rw [run_b hmm, run_b (checkKey_run hk hg rk), run_b h1]
      simp only [Option.map_some]
      rw [h3]
      rfl
  have done : ∀ X, (Instr.lookup t (ρ m) (ρ k) ok).run P w = .ok (conc E v) w ∧ v.On R → X = conc E v → ∃ v', (execOp ρ o).run P w = .ok (.value v') w ∧ Rel E R v v' := by
    rintro X ⟨h1, h2⟩ rfl
    refine ⟨_, ?_, Rel.of h2⟩
    simp only [execOp, ho]
    exact run_v h1
  rcases onRef_some hq with ⟨u, i, hx, q1⟩ | ⟨q1, _⟩
  · rw [hx] at rm
    obtain ⟨q2, q3⟩ := cnd_some q1
    have q2 := beq_e q2
    subst q2
    obtain ⟨es, c, q4, q5⟩ := onMap_some q3
    obtain ⟨r, q6, q7⟩ := onO_some q5
    obtain ⟨⟨_, hi⟩, rm⟩ := rm rfl
    have rm : ρ m = .map (some (E.blk i)) := rm
    obtain ⟨hm, hes⟩ := inv.obj i _ hi q4
    refine done _ ?_ rfl
    have := fin es r (fun x hx => ⟨(hes x hx).1, (hes x hx).2.1, trivial⟩) q6 q7 (pure (es.map (concE E)).toArray) rfl
    refine ⟨?_, this.2⟩
    rw [Instr.lookup, run_b (run_U ht), rm]
    simp only []
    rw [run_b (getObj_map hm)]
    exact this.1
  · obtain ⟨u, hx, q2⟩ := onNil_some q1
    obtain ⟨q3, q4⟩ := cnd_some q2
    have q3 := beq_e q3
    subst q3
    rw [hx] at rm
    have rm : ρ m = .map none := (rm rfl).2
    refine done _ ?_ rfl
    rw [Instr.lookup, run_b (run_U ht), rm]
    exact fin [] none (fun x hx => by cases hx) rfl q4 _ rfl
theorem entL_some {E : Env} {R : Nat → Prop} : ∀ (es : List (AV × AV × Nat)) (s : Nat) (v : AV), entL es s = some v → (∀ x ∈ es, x.1.On R ∧ x.2.1.On R ∧ True) → ∃ x : AV × AV × Nat, v = .agg true [x.1, x.2.1] ∧ x.1.On R ∧ x.2.1.On R ∧ (es.map (concE E)).find? (fun e => e.born == s) = some (concE E x)
  | [], s, v, h, _ => by cases h
  | x :: es, s, v, h, hes => by
    have h' : cnd (Nat.beq x.2.2 s) (some (AV.agg true [x.1, x.2.1])) (entL es s) = some v := h
    cases hb : Nat.beq x.2.2 s with
    | true =>
      rw [hb, cnd_t, Option.some.injEq] at h'
      have := hes x (List.mem_cons_self ..)
      refine ⟨x, h'.symm, this.1, this.2.1, ?_⟩
      rw [List.map_cons, List.find?_cons]
      have e : ((concE E x).born == s) = true := by rw [beq_iff_eq]; exact beq_e hb
      rw [e]
    | false =>
      rw [hb, cnd_f] at h'
      obtain ⟨y, h1, h2, h3, h4⟩ := entL_some es s v h' (fun y hy => hes y (List.mem_cons_of_mem _ hy)) (E := E)
      refine ⟨y, h1, h2, h3, ?_⟩
      rw [List.map_cons, List.find?_cons]
      have e : ((concE E x).born == s) = false := by rw [beq_eq_false_iff_ne]; exact beq_ne hb
      rw [e]; exact h4
theorem ok_entry {x : Operand} (ho : o.op = .entry x) : ValOk P o cd (qEnt (cd x).out) := by
  intro E R h w0 w e a ρ v inv rel hq
  rw [ho] at rel
  obtain ⟨i, k, hx, q1⟩ := onPtr_some hq
  obtain ⟨q2, q3⟩ := cnd_some q1
  have q2 := beq_e q2
  subst q2
  obtain ⟨mo, since, seen, stp, q4, q5⟩ := onIter_some q3
  obtain ⟨m, q6, q7⟩ := onO_some q5
  subst q6
  cases seen with
  | nil => cases q7
  | cons s seen =>
    obtain ⟨es, c, q8, q9⟩ := onMap_some (show onMap (h.get m) none (fun es c => cnd (Nat.beq c stp) (entL es s) none) = some v from q7)
    obtain ⟨q10, q11⟩ := cnd_some q9
    have q10 := beq_e q10
    subst q10
    have rx := rel x (by simp [Op.operands]); rw [hx] at rx; obtain ⟨rx, hi⟩ := rx.ptr
    obtain ⟨ho1, ho2, ho3⟩ := inv.obj i _ hi q4
    obtain ⟨hm1, hm2⟩ := inv.obj m _ (ho2 m rfl) q8
    obtain ⟨y, h1, h2, h3, h4⟩ := entL_some (E := E) es s v q11 (fun x hx => ⟨(hm2 x hx).1, (hm2 x hx).2.1, trivial⟩)
    subst h1
    refine ⟨_, ?_, Rel.of (v := .agg true [y.1, y.2.1]) ⟨h2, h3, trivial⟩⟩
    rw [ho3] at rx
    simp only [execOp, ho, rx]
    refine run_v ?_
    have g1 : (getObj (E.blk i)).run P w = .ok (.mapIter (some (E.blk m)) since (List.reverse (s :: seen)).toArray c) w := by simp [getObj, Sem.run, ho1]
    have hback : ((s :: seen).reverse.toArray).back? = some s := by simp
    rw [Instr.entry]
    simp only
    rw [run_b g1]
    simp only [hback]
    rw [run_b (getObj_map hm1)]
    simp [h4, conc, concs, concE]
end
end Go.Proofs.YtccadcefhfdmgaaGreatDoor.Ev
namespace Go.Proofs.YtccadcefhfdmgaaGreatDoor.Ev
open Go
section
variable {P : Program} {o : Oper} {cd : Operand → Bx Od}
theorem oneL_iff (l : List AV) : oneL l = true ↔ ∀ v ∈ l, v.one = true := by
  induction l with
  | nil => exact ⟨fun _ v h => (by cases h), fun _ => rfl⟩
  | cons v l ih =>
    show cnd v.one (oneL l) false = true ↔ _
    cases hv : v.one with
    | false => 
      rw [cnd_f]
      exact ⟨fun h => (by cases h), fun h => by rw [h v (List.mem_cons_self ..)] at hv; cases hv⟩
    | true =>
      rw [cnd_t, ih]
      exact ⟨fun h w hw => (List.mem_cons.1 hw).elim (fun e => e ▸ hv) (h w), fun h w hw => h w (List.mem_cons_of_mem _ hw)⟩
theorem one_known {v : AV} (h : v.one = true) : v.known = true := by cases v <;> first | rfl | exact h | cases h
theorem one_conc {E : Env} {v : AV} (h : v.one = true) : (conc E v).oneCell' = true := by
  cases v with
  | nil t =>
    rcases t with _ | _ | _ | _ | t <;> rfl
  | ref t i => rcases t with _ | _ | t <;> rfl
  | agg b l => cases h
  | _ => rfl
theorem conc_cells (E : Env) (v : AV) : (conc E v).cells = (concs E v.cells).toArray := by
  have key : ∀ w : AV, w.one = true → (conc E w).cells = #[conc E w] := by
    intro w hw
    have := one_conc (E := E) hw
    revert this
    generalize conc E w = u
    intro hu
    cases u <;> first | rfl | cases hu
  cases v with
  | agg b l => cases b <;> rfl
  | nil t =>
    rcases t with _ | _ | _ | _ | t <;> rfl
  | ref t i => rcases t with _ | _ | t <;> rfl
  | _ => rfl
/-- the cells of a value, all of them known -/
theorem cells_rel {E : Env} {R : Nat → Prop} {v : AV} {v' : Value} (hr : Rel E R v v') (h1 : oneL v.cells = true) : v' = conc E v ∧ v.On R ∧ Ons R v.cells := by
  have hk : v.known = true := by
    cases v with
    | agg b l => rfl
    | nil t => exact one_known ((oneL_iff _).1 h1 _ (List.mem_cons_self ..))
    | _ => rfl
  obtain ⟨h2, h3⟩ := hr hk
  refine ⟨h3, h2, ?_⟩
  cases v with
  | agg b l =>
    cases b with
    | false => exact h2
    | true => exact ⟨h2, trivial⟩
  | _ => exact ⟨h2, trivial⟩
theorem fold_put (E : Env) : ∀ (m : List AV) (off k : Nat) (l : List AV), ((concs E m).zipIdx k).foldl (fun cs (c, j) => cs.setIfInBounds (off + j) c) (concs E l).toArray = (concs E (putL m (off + k) l)).toArray
  | [], off, k, l => rfl
  | v :: m, off, k, l => by
    show ((concs E m).zipIdx (k + 1)).foldl _ ((concs E l).toArray.setIfInBounds (off + k) (conc E v)) = _
    have e : (concs E l).toArray.setIfInBounds (off + k) (conc E v) = (concs E (setAt v l (off + k))).toArray := by
      rw [setAt_eq, concs_map, concs_map]
      simp [List.map_set]
    rw [e, fold_put E m off (k + 1)]
    rfl
theorem putL_on {R : Nat → Prop} {m l : List AV} {i : Nat} (hm : Ons R m) (hl : Ons R l) : Ons R (putL m i l) := by
  rw [Ons_iff] at hm hl ⊢
  intro v hv
  obtain ⟨j, hj⟩ := List.mem_iff_getElem?.1 hv
  rcases putL_get m i l j v hj with ⟨_, _, h⟩ | ⟨_, h⟩
  · exact hm v (List.mem_of_getElem? h)
  · exact hl v (List.mem_of_getElem? h)
theorem putL_one {m l : List AV} {i : Nat} (hm : oneL m = true) (hl : oneL l = true) : oneL (putL m i l) = true := by
  rw [oneL_iff] at hm hl ⊢
  intro v hv
  obtain ⟨j, hj⟩ := List.mem_iff_getElem?.1 hv
  rcases putL_get m i l j v hj with ⟨_, _, h⟩ | ⟨_, h⟩
  · exact hm v (List.mem_of_getElem? h)
  · exact hl v (List.mem_of_getElem? h)
/-- parts that are laid where they belong -/
inductive Parts (place : Nat → Option (Nat × Nat)) : List (Nat × Operand) → List (Nat × Nat × Operand) → Prop
  | nil : Parts place [] []
  | cons {i off n : Nat} {x : Operand} {ps : List (Nat × Operand)} {qs : List (Nat × Nat × Operand)} : place i = some (off, n) → Parts place ps qs → Parts place ((i, x) :: ps) ((off, n, x) :: qs)
theorem fill_run {place : Nat → Option (Nat × Nat)} {E : Env} {R : Nat → Prop} {e : List AV} {a : A} {ρ : Operand → Value} : ∀ {ps : List (Nat × Operand)} {qs : List (Nat × Nat × Operand)}, Parts place ps qs → (∀ p ∈ ps, Rel E R ((cd p.2).out e a) (ρ p.2)) → ∀ l l' : List AV, Ons R l → (fillB cd qs).out e a l = some l' →
    Instr.fill place (concs E l).toArray (ps.map fun p => (p.1, ρ p.2)) = some (concs E l').toArray ∧ Ons R l' ∧ l'.length = l.length ∧ (oneL l = true → oneL l' = true) := by
  intro ps qs hp
  induction hp with
  | nil =>
    intro _ l l' hl h
    have h' : some l = some l' := h
    injection h' with h'
    subst h'
    exact ⟨rfl, hl, rfl, fun h => h⟩
  | @cons i off n x ps qs hpl hps ih =>
    intro hrel l l' hl h
    simp only [fillB, onB_eq, Bx.out_mk, fillC] at h
    obtain ⟨h1, h2⟩ := cnd_some h
    obtain ⟨h3, h4⟩ := cnd_some h2
    obtain ⟨h5, h6⟩ := cnd_some h4
    have h1 := beq_e h1
    have h5 := ble_le h5
    rw [lenL_eq] at h1 h5
    have hr : Rel E R ((cd x).out e a) (ρ x) := hrel (i, x) (List.mem_cons_self ..)
    obtain ⟨r1, r2, r3⟩ := cells_rel hr h3
    obtain ⟨i1, i2, i3, i4⟩ := ih (fun p hp => hrel p (List.mem_cons_of_mem _ hp)) _ l' (putL_on r3 hl) h6
    refine ⟨?_, i2, by rw [i3, putL_length], fun h => i4 (putL_one h3 h)⟩
    rw [List.map_cons, Instr.fill]
    simp only [hpl, r1, conc_cells]
    have hsz : (concs E ((cd x).out e a).cells).toArray.size = n := by rw [concs_map]; simpa using h1
    have hsl : (concs E l).toArray.size = l.length := by rw [concs_map]; simp
    rw [if_neg (by rw [hsz, hsl]; simp; simpa using h5)]
    rw [← i1]
    congr 1
    have := fold_put E ((cd x).out e a).cells off 0 l
    simpa using this
theorem partsF_parts {pl : List (Nat × Nat)} : ∀ {ps : List (Nat × Operand)} {qs : List (Nat × Nat × Operand)}, partsF pl ps = some qs → Parts (fun i => pl.toArray[i]?) ps qs
  | [], qs, h => by
    have h' : some [] = some qs := h
    injection h' with h'
    subst h'
    exact .nil
  | (i, x) :: ps, qs, h => by
    rw [partsF] at h
    split at h
    · rename_i f m h1 h2
      injection h with h
      subst h
      exact .cons (by simpa using h1) (partsF_parts h2)
    · cases h
theorem partsN_parts (n : Nat) : ∀ (ps : List (Nat × Operand)), Parts (fun i => some (i * n, n)) ps (partsN n ps)
  | [] => .nil
  | (_, _) :: ps => .cons rfl (partsN_parts n ps)
theorem places_run {w : World} : ∀ (fs : List Field) (pl : List (Nat × Nat)), placesF P fs = some pl → (fs.mapM fun f => (do pure (f.offset, ← sizeOf f.type) : Sem (Nat × Nat))).run P w = .ok pl w
  | [], pl, h => by
    have h' : some [] = some pl := h
    injection h' with h'
    subst h'
    rfl
  | f :: fs, pl, h => by
    rw [placesF] at h
    split at h
    · rename_i n m h1 h2
      injection h with h
      subst h
      rw [List.mapM_cons]
      have e : (do pure (f.offset, ← sizeOf f.type) : Sem (Nat × Nat)).run P w = .ok (f.offset, n) w := by rw [run_b (run_S h1)]; rfl
      rw [run_b e, run_b (places_run fs m h2)]
      rfl
    · cases h
theorem rel_parts {ps : Array (Nat × Operand)} {E : Env} {R : Nat → Prop} {e : List AV} {a : A} {ρ : Operand → Value} {t : TypeId} (h : OpsRel E R cd e a ρ (Op.build t ps).operands.toList) : ∀ p ∈ ps.toList, Rel E R ((cd p.2).out e a) (ρ p.2) := by
  intro p hp
  refine h p.2 ?_
  simp only [Op.operands]
  exact List.mem_map_of_mem hp
theorem ok_build {t : TypeId} {ps : Array (Nat × Operand)} {z : AV} {fs : Array Field} {pl : List (Nat × Nat)} {qs : List (Nat × Nat × Operand)} (ho : o.op = .build t ps) (hz : zeroT P t = some z) (ht : P.underlying t = some (.struct fs))
    (hpl : placesF P fs.toList = some pl) (hps : partsF pl ps.toList = some qs) : ValOk P o cd (qBuild z.cells (fillB cd qs).out) := by
  intro E R h w0 w e a ρ v inv rel hq
  rw [ho] at rel
  obtain ⟨l, h1, h2⟩ := onO_some hq
  injection h2 with h2
  subst h2
  obtain ⟨z1, z2⟩ := run_zero (w := w) E R hz
  have z3 : Ons R z.cells := by
    cases z with
    | agg b l => cases b with | false => exact z2 | true => exact ⟨z2, trivial⟩
    | _ => exact ⟨z2, trivial⟩
  obtain ⟨h3, h4, _, _⟩ := fill_run (partsF_parts hps) (rel_parts rel) _ _ z3 h1
  refine ⟨_, ?_, Rel.of (v := .agg false l) h4⟩
  simp only [execOp, ho]
  refine run_v ?_
  rw [Instr.build, run_b z1, run_b (run_U ht)]
  simp only []
  have hm : (fs.mapM fun f => (do pure (f.offset, ← sizeOf f.type) : Sem (Nat × Nat))).run P w = .ok pl.toArray w := by
    rw [Array.mapM_eq_mapM_toList, Sem.run_map, places_run _ _ hpl]; rfl
  rw [run_b hm]
  have e : (ps.map fun x => (x.1, ρ x.2)).toList = ps.toList.map fun p => (p.1, ρ p.2) := by simp
  rw [conc_cells, e, h3]
  rfl
theorem ok_buildA {t el : TypeId} {ps : Array (Nat × Operand)} {z : AV} {n s : Nat} (ho : o.op = .build t ps) (hz : zeroT P t = some z) (ht : P.underlying t = some (.array n el)) (hs : szT P el = some s) :
    ValOk P o cd (qBuild z.cells (fillB cd (partsN s ps.toList)).out) := by
  intro E R h w0 w e a ρ v inv rel hq
  rw [ho] at rel
  obtain ⟨l, h1, h2⟩ := onO_some hq
  injection h2 with h2
  subst h2
  obtain ⟨z1, z2⟩ := run_zero (w := w) E R hz
  have z3 : Ons R z.cells := by
    cases z with
    | agg b l => cases b with | false => exact z2 | true => exact ⟨z2, trivial⟩
    | _ => exact ⟨z2, trivial⟩
  obtain ⟨h3, h4, _, _⟩ := fill_run (partsN_parts s ps.toList) (rel_parts rel) _ _ z3 h1
  refine ⟨_, ?_, Rel.of (v := .agg false l) h4⟩
  simp only [execOp, ho]
  refine run_v ?_
  rw [Instr.build, run_b z1, run_b (run_U ht)]
  simp only []
  rw [run_b (run_S hs)]
  have e : (ps.map fun x => (x.1, ρ x.2)).toList = ps.toList.map fun p => (p.1, ρ p.2) := by simp
  rw [conc_cells, e, h3]
  rfl
end
end Go.Proofs.YtccadcefhfdmgaaGreatDoor.Ev
