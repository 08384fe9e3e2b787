/- The evaluator is sound: what it answers the program does. No condition beyond what each theorem states. -/
import Derived.Test.YtccadcefhfdmgaaGreatDoorEvG
import Derived.TacticsIn
import Derived.RangeFuncRecord
import Derived.Lib.Bytealg
import Derived.Laws.Externs
import Derived.KernelRfl
namespace Go.Proofs.YtccadcefhfdmgaaGreatDoor.Ev
open Go
def FW (r : Option Nat) : Fence := { Fence.wide with round := r }
theorem FW_fn (r : Option Nat) (f : FuncId) : (FW r).fn f := trivial
theorem FW_depth (r : Option Nat) : (FW r).depth = none := rfl
theorem FW_round (r : Option Nat) : (FW r).round = r := rfl
/-! what an operand looks at -/
section
variable {P : Program} {E : Env} {R : Nat → Prop} {W : Tr Bool}
theorem nthB_out : ∀ (n : Nat) (e : List AV), (nthB n).out e = (e[n]?).getD bad
  | 0, e => by cases e <;> rfl
  | n + 1, e => by
    simp only [nthB, onB_eq, Bx.out_mk]
    cases e with
    | nil => rfl
    | cons v e => simp only [nthT, lcase_cons, nthB_out n e, List.getElem?_cons_succ]
theorem odE_out (n : Nat) (e : List AV) (a : A) : (odE n).out e a = (e[n]?).getD bad := by
  simp only [odE, onB_eq, Bx.out_mk, nthB_out]
theorem odS_out (t : Nat) (e : List AV) (a : A) : (odS t).out e a = (getS t).out a := by
  simp only [odS, onB_eq, Bx.out_mk]
theorem odK_out (v : AV) (e : List AV) (a : A) : (odK v).out e a = v := rfl
noncomputable def look0 (W : Tr Bool) (pre : List PE) (t k : Nat) (e : List AV) (a : A) : AV := (look W pre t k).out e a
theorem look_nil (t k : Nat) (e : List AV) (a : A) : look0 W [] t k e a = if memW W t = true then (getS t).out a else bad := by
  unfold look0 look
  cases memW W t with
  | true => rw [cnd_t, odS_out]; rfl
  | false => rfl
theorem look_val_none (l : List PE) (t k : Nat) (e : List AV) (a : A) : look0 W (.val none :: l) t k e a = look0 W l t (k + 1) e a := rfl
theorem look_val (u : Nat) (l : List PE) (t k : Nat) (e : List AV) (a : A) : look0 W (.val (some u) :: l) t k e a = if u = t then (e[k]?).getD bad else look0 W l t (k + 1) e a := by
  show (cnd (Nat.beq u t) (odE k) (look W l t (Nat.succ k))).out e a = _
  by_cases h : u = t
  · subst h; rw [show Nat.beq u u = true from Nat.beq_refl u, cnd_t, odE_out, if_pos rfl]
  · rw [beq_false_of_ne' h, cnd_f, if_neg h]; rfl
noncomputable def aliV (W : Tr Bool) (l : List PE) (x : Operand) (k : Nat) (e : List AV) (a : A) : AV := match x with
  | .tmp v => look0 W l v k e a
  | .const v => (toA v).getD bad
  | .global _ => bad
  | .func f => .fn f [] []
theorem look_ali (u : Nat) (x : Operand) (l : List PE) (t k : Nat) (e : List AV) (a : A) : look0 W (.ali u x :: l) t k e a = if u = t then aliV W l x k e a else look0 W l t k e a := by
  show (cnd (Nat.beq u t) _ (look W l t k)).out e a = _
  by_cases h : u = t
  · subst h; rw [show Nat.beq u u = true from Nat.beq_refl u, cnd_t, if_pos rfl]
    cases x <;> rfl
  · rw [beq_false_of_ne' h, cnd_f, if_neg h]; rfl
theorem look_shift (v : AV) : ∀ (l : List PE) (t k : Nat) (e : List AV) (a : A), look0 W l t (k + 1) (v :: e) a = look0 W l t k e a
  | [], t, k, e, a => by rw [look_nil, look_nil]
  | .val none :: l, t, k, e, a => by rw [look_val_none, look_val_none, look_shift v l]
  | .val (some u) :: l, t, k, e, a => by rw [look_val, look_val, look_shift v l]; simp
  | .ali u x :: l, t, k, e, a => by
    rw [look_ali, look_ali, look_shift v l]
    have : aliV W l x (k + 1) (v :: e) a = aliV W l x k e a := by
      cases x with
      | tmp s => exact look_shift v l s k e a
      | _ => rfl
    rw [this]
/-- slots that a copy ahead looks at -/
def Srcs (l : List PE) (s : Nat) : Prop := ∃ u, PE.ali u (.tmp s) ∈ l
theorem look_put (u : Nat) (v : AV) : ∀ (l : List PE) (t k : Nat) (e : List AV) (a : A), t ≠ u → ¬ Srcs l u → look0 W l t k e ((setS u).out v a) = look0 W l t k e a
  | [], t, k, e, a, ht, _ => by rw [look_nil, look_nil, get_set_ne t u v a ht]
  | .val none :: l, t, k, e, a, ht, hs => by rw [look_val_none, look_val_none, look_put u v l t _ e a ht fun ⟨x, hx⟩ => hs ⟨x, List.mem_cons_of_mem _ hx⟩]
  | .val (some w) :: l, t, k, e, a, ht, hs => by rw [look_val, look_val, look_put u v l t _ e a ht fun ⟨x, hx⟩ => hs ⟨x, List.mem_cons_of_mem _ hx⟩]
  | .ali w x :: l, t, k, e, a, ht, hs => by
    have hs' : ¬ Srcs l u := fun ⟨x, hx⟩ => hs ⟨x, List.mem_cons_of_mem _ hx⟩
    rw [look_ali, look_ali, look_put u v l t _ e a ht hs']
    have : aliV W l x k e ((setS u).out v a) = aliV W l x k e a := by
      cases x with
      | tmp s => exact look_put u v l s k e a (fun h => hs ⟨w, h ▸ List.mem_cons_self ..⟩) hs'
      | _ => rfl
    rw [this]
end
end Go.Proofs.YtccadcefhfdmgaaGreatDoor.Ev
namespace Go.Proofs.YtccadcefhfdmgaaGreatDoor.Ev
open Go
section
variable {P : Program} {E : Env} {R : Nat → Prop} {W : Tr Bool}
def Look (E : Env) (R : Nat → Prop) (W : Tr Bool) (pre : List PE) (e : List AV) (a : A) (tmps : Array Value) : Prop := ∀ t, Rel E R (look0 W pre t 0 e a) (tmps.getD t undef)
theorem look_start {a : A} {tmps : Array Value} (h : ActOk E R W a tmps) : Look E R W [] [] a tmps := by
  intro t
  rw [look_nil]
  split
  · exact h t (by assumption)
  · exact Rel.bad E R _
theorem Look.step {E' : Env} {R' : Nat → Prop} {h h' : H} {pre : List PE} {e : List AV} {a : A} {tmps : Array Value} (x : Look E R W pre e a tmps) (s : Step E R h E' R' h') : Look E' R' W pre e a tmps := fun t => (x t).step s
theorem look_cd1 {pre : List PE} {e : List AV} {a : A} {act : Act} (h : Look E R W pre e a act.tmps) (x : Operand) : Rel E R ((cd1 W pre x).out e a) (act.eval x) := by
  cases x with
  | tmp t => exact h t
  | const v =>
    show Rel E R ((toA v).getD bad) v
    cases hv : toA v with
    | none => exact Rel.bad E R _
    | some u =>
      obtain ⟨h1, h2⟩ := toA_rel E R v u hv
      exact fun _ => ⟨h2, h1.symm⟩
  | global g => exact Rel.bad E R _
  | func f => exact fun _ => ⟨⟨trivial, trivial⟩, rfl⟩
theorem cdOk_cd1 (pre : List PE) : CdOk (cd1 W pre) := fun _ _ _ => rfl
theorem getD_set (ts : Array Value) (u t : Nat) (v : Value) (h : u < ts.size) : (ts.setIfInBounds u v).getD t undef = if t = u then v else ts.getD t undef := by
  simp only [Array.getD_eq_getD_getElem?, Array.getElem?_setIfInBounds]
  by_cases e : u = t
  · subst e; simp [h]
  · rw [if_neg e, if_neg (fun h => e h.symm)]
theorem Look.put {pre : List PE} {e : List AV} {a : A} {tmps : Array Value} {u : Nat} {v : AV} {v' : Value} (x : Look E R W pre e a tmps) (hu : u < tmps.size) (hr : Rel E R v v') (hs : ¬ Srcs pre u) :
    Look E R W (.val (some u) :: pre) (v :: e) ((putB W (some u)).out v a) (tmps.setIfInBounds u v') := by
  intro t
  rw [look_val, getD_set _ _ _ _ hu]
  by_cases h : u = t
  · subst h; rw [if_pos rfl, if_pos rfl]; exact hr
  · rw [if_neg h, if_neg (fun e => h e.symm), look_shift]
    have : look0 W pre t 0 e ((putB W (some u)).out v a) = look0 W pre t 0 e a := by
      show look0 W pre t 0 e ((cnd (memW W u) (setS u) (.mk fun _ a => a)).out v a) = _
      cases memW W u with
      | true => rw [cnd_t]; exact look_put u v pre t 0 e a (fun e => h e.symm) hs
      | false => rfl
    rw [this]; exact x t
theorem Look.put0 {pre : List PE} {e : List AV} {a : A} {tmps : Array Value} {v : AV} (x : Look E R W pre e a tmps) : Look E R W (.val none :: pre) (v :: e) a tmps := by
  intro t
  rw [look_val_none, look_shift]; exact x t
end
end Go.Proofs.YtccadcefhfdmgaaGreatDoor.Ev
namespace Go.Proofs.YtccadcefhfdmgaaGreatDoor.Ev
open Go
section
variable {P : Program}
/-- a deferred call: what stands behind it -/
def DefOk (E : Env) (R : Nat → Prop) : ADef → Deferred → Prop
  | .fn f args, d => ∃ (fst cap : List Value), d.target = .fn (.func f) cap.toArray ∧ d.args = fst.toArray ∧ Ons R args ∧ fst ++ cap = concs E args
  | .coll i, d => d.target = .collected (E.blk i) ∧ R i
inductive DefsOk (E : Env) (R : Nat → Prop) : List ADef → List Deferred → Prop
  | nil : DefsOk E R [] []
  | cons {x : ADef} {d : Deferred} {xs : List ADef} {ds : List Deferred} : DefOk E R x d → DefsOk E R xs ds → DefsOk E R (x :: xs) (d :: ds)
theorem DefsOk.step {E E' : Env} {R R' : Nat → Prop} {h h' : H} {xs : List ADef} {ds : List Deferred} (s : Step E R h E' R' h') (x : DefsOk E R xs ds) : DefsOk E' R' xs ds := by
  induction x with
  | nil => exact .nil
  | @cons x d xs ds h1 _ ih =>
    refine .cons ?_ ih
    cases x with
    | fn f args =>
      obtain ⟨fst, cap, a1, a2, a3, a4⟩ := h1
      exact ⟨fst, cap, a1, a2, Ons.mono s.real args a3, by rw [a4, concs_agree s.env args a3]⟩
    | coll i => exact ⟨by rw [(s.env i h1.2).blk]; exact h1.1, s.real i h1.2⟩
/-- a frame and its world -/
structure Good (P : Program) (E : Env) (R : Nat → Prop) (W : Tr Bool) (nt : Nat) (h : H) (w0 w : World) (a : A) (ds : List ADef) (act : Act) : Prop where
  inv : Inv P E R h w0 w
  slots : ActOk E R W a act.tmps
  nt : nt ≤ act.tmps.size
  ds : DefsOk E R ds act.defers
/-- the post holds of every later state that an outcome stands for -/
def Acc (P : Program) (W : Tr Bool) (nt : Nat) (w0 : World) (E : Env) (R : Nat → Prop) (h : H) (Q : Exit → Act → World → Prop) : Out → Prop
  | .norm a ds h' => ∀ E' R' act' w', Step E R h E' R' h' → Good P E' R' W nt h' w0 w' a ds act' → Q .normal act' w'
  | .exit i a ds h' => ∀ E' R' act' w', Step E R h E' R' h' → Good P E' R' W nt h' w0 w' a ds act' → Q (.exit i) act' w'
  | .goto l a ds h' => ∀ E' R' act' w', Step E R h E' R' h' → Good P E' R' W nt h' w0 w' a ds act' → Q (.goto l) act' w'
  | .ret a ds h' => ∀ E' R' act' w', Step E R h E' R' h' → Good P E' R' W nt h' w0 w' a ds act' → Q .ret act' w'
  | .pan v a ds h' => ∀ E' R' act' w' v', Step E R h E' R' h' → Good P E' R' W nt h' w0 w' a ds act' → Rel E' R' v v' → Q (.panic [{ v := v', recovered := false }]) act' w'
  | .no => False
theorem Acc.step {W : Tr Bool} {nt : Nat} {w0 : World} {E E' : Env} {R R' : Nat → Prop} {h h' : H} {Q : Exit → Act → World → Prop} {o : Out} (s : Step E R h E' R' h') (x : Acc P W nt w0 E R h Q o) : Acc P W nt w0 E' R' h' Q o := by
  cases o with
  | norm a ds h2 => exact fun E2 R2 act w st g => x E2 R2 act w (s.trans st) g
  | exit i a ds h2 => exact fun E2 R2 act w st g => x E2 R2 act w (s.trans st) g
  | goto i a ds h2 => exact fun E2 R2 act w st g => x E2 R2 act w (s.trans st) g
  | ret a ds h2 => exact fun E2 R2 act w st g => x E2 R2 act w (s.trans st) g
  | pan v a ds h2 => exact fun E2 R2 act w v' st g => x E2 R2 act w v' (s.trans st) g
  | no => exact x
end
end Go.Proofs.YtccadcefhfdmgaaGreatDoor.Ev
namespace Go.Proofs.YtccadcefhfdmgaaGreatDoor.Ev
open Go
section
variable {P : Program}
def ArgsRel (E : Env) (R : Nat → Prop) (l : List AV) (vs : List Value) : Prop := l.length = vs.length ∧ ∀ (i : Nat) (v : AV) (v' : Value), l[i]? = some v → vs[i]? = some v' → Rel E R v v'
/-- what is behind a call -/
def Post (P : Program) (w0 : World) (E : Env) (R : Nat → Prop) (h : H) (T : Ending → World → Prop) : RC → Prop
  | .ret v h' => ∀ (E' : Env) (R' : Nat → Prop) (w' : World) (v' : Value), Step E R h E' R' h' → Inv P E' R' h' w0 w' → Rel E' R' v v' → T (.returned v') w'
  | .pan v h' => ∀ (E' : Env) (R' : Nat → Prop) (w' : World) (v' : Value), Step E R h E' R' h' → Inv P E' R' h' w0 w' → Rel E' R' v v' → T (.panicked [{ v := v', recovered := false }]) w'
  | .no => False
def CallsOk (P : Program) (call : Nat → List AV → H → RC) : Prop := ∀ (f : Nat) (l : List AV) (h : H) (vs : List Value) (E : Env) (R : Nat → Prop) (w0 w : World) (T : Ending → World → Prop),
  Inv P E R h w0 w → ArgsRel E R l vs → Post P w0 E R h T (call f l h) → CallsIn (FW none) 0 P f vs.toArray w T
/-- deferred calls -/
def DcallsOk (P : Program) (call : Nat → List AV → H → RC) : Prop := ∀ (f : Nat) (l : List AV) (h : H) (vs : List Value) (E : Env) (R : Nat → Prop) (w0 w : World) (T : World → Prop) (u : FrameMode) (v : AV) (h' : H),
  Inv P E R h w0 w → ArgsRel E R l vs → call f l h = .ret v h' → (∀ (E' : Env) (R' : Nat → Prop) (w' : World), Step E R h E' R' h' → Inv P E' R' h' w0 w' → T w') → CallsDIn (FW none) 0 P f vs.toArray u w fun e u' w' => u' = u ∧ match e with | .returned _ => T w' | _ => False
def SOk (P : Program) (s : S) : Prop := CallsOk P s.call ∧ DcallsOk P s.dcall
theorem callsIn_FW {n m : Nat} {r : Option Nat} {f : FuncId} {args : Array Value} {w : World} {T : Ending → World → Prop} (h : CallsIn (FW none) n P f args w T) : CallsIn (FW r) m P f args w T :=
  ⟨trivial, fun cs _ => h.2 cs fun d hd => by cases hd⟩
theorem Post.mono {w0 : World} {E : Env} {R : Nat → Prop} {h : H} {T T' : Ending → World → Prop} {r : RC} (x : Post P w0 E R h T r) (hT : ∀ e w, T e w → T' e w) : Post P w0 E R h T' r := by
  cases r with
  | ret v h' => exact fun E' R' w' v' a b c => hT _ _ (x E' R' w' v' a b c)
  | pan v h' => exact fun E' R' w' v' a b c => hT _ _ (x E' R' w' v' a b c)
  | no => exact x
/-- one function without a body -/
theorem two_some {args : List AV} {f : AV → AV → Option AV} {v : AV} (h : two args f = some v) : ∃ a b, args = [a, b] ∧ f a b = some v := by
  match args, h with
  | [], h => cases h
  | [a], h => cases h
  | [a, b], h => exact ⟨a, b, rfl, h⟩
  | a :: b :: c :: l, h => cases h
theorem cntL_eq (c : Nat) (hc : c < 256) : ∀ (l : List Nat), (∀ b ∈ l, b < 256) → ∀ n, cntL c l n = n + (l.map UInt8.ofNat).count (UInt8.ofNat c)
  | [], _, n => rfl
  | a :: l, h, n => by
    show cnd (Nat.beq a c) (cntL c l (n + 1)) (cntL c l n) = _
    have hl : ∀ b ∈ l, b < 256 := fun b hb => h b (List.mem_cons_of_mem _ hb)
    have ha := h a (List.mem_cons_self ..)
    rw [List.map_cons, List.count_cons]
    by_cases e : a = c
    · subst e
      rw [show Nat.beq a a = true from Nat.beq_refl a, cnd_t, cntL_eq a hc l hl]
      simp; omega
    · rw [beq_false_of_ne' e, cnd_f, cntL_eq c hc l hl]
      have : (UInt8.ofNat a == UInt8.ofNat c) = false := by
        rw [beq_eq_false_iff_ne]
        intro e2
        have := congrArg UInt8.toNat e2
        rw [UInt8.toNat_ofNat', UInt8.toNat_ofNat', Nat.mod_eq_of_lt (by omega), Nat.mod_eq_of_lt (by omega)] at this
        exact e this
      rw [this]; simp
theorem fndL_eq (c : Nat) (hc : c < 256) : ∀ (l : List Nat), (∀ b ∈ l, b < 256) → ∀ n : Nat, fndL c l n = if Lib.indexByte (l.map UInt8.ofNat) (UInt8.ofNat c) = -1 then -1 else Lib.indexByte (l.map UInt8.ofNat) (UInt8.ofNat c) + n
  | [], _, n => rfl
  | a :: l, h, n => by
    show cnd (Nat.beq a c) (.ofNat n) (fndL c l (n + 1)) = _
    have hl : ∀ b ∈ l, b < 256 := fun b hb => h b (List.mem_cons_of_mem _ hb)
    have ha := h a (List.mem_cons_self ..)
    have hge := Lib.indexByte_ge (l.map UInt8.ofNat) (UInt8.ofNat c)
    rw [List.map_cons]
    unfold Lib.indexByte
    by_cases e : a = c
    · subst e
      rw [show Nat.beq a a = true from Nat.beq_refl a, cnd_t]
      simp
    · rw [beq_false_of_ne' e, cnd_f, fndL_eq c hc l hl]
      have : (UInt8.ofNat a == UInt8.ofNat c) = false := by
        rw [beq_eq_false_iff_ne]
        intro e2
        have := congrArg UInt8.toNat e2
        rw [UInt8.toNat_ofNat', UInt8.toNat_ofNat', Nat.mod_eq_of_lt (by omega), Nat.mod_eq_of_lt (by omega)] at this
        exact e this
      rw [this]
      generalize Lib.indexByte (l.map UInt8.ofNat) (UInt8.ofNat c) = x at hge
      by_cases hx : x = -1
      · subst hx; simp
      · simp only [Bool.false_eq_true, if_false, beq_iff_eq, hx]
        rw [if_neg (by omega)]
        push_cast; omega
end
end Go.Proofs.YtccadcefhfdmgaaGreatDoor.Ev
namespace Go.Proofs.YtccadcefhfdmgaaGreatDoor.Ev
open Go
section
variable {P : Program}
theorem look_count (fn : Func) (h : fn.name = "internal/bytealg.CountString") : Extern.find fn = some Extern.BytealgCount.count := by
  unfold Extern.find
  rw [h]
  have e1 : Extern.allGenericRows.lookup "internal/bytealg.CountString" = none := by kernel_rfl
  have e2 : Extern.allTypedRows.lookup "internal/bytealg.CountString" = none := by kernel_rfl
  have e3 : Extern.allRows.lookup "internal/bytealg.CountString" = some Extern.BytealgCount.count := by kernel_rfl
  simp only [e1, e2, e3]
  rfl
theorem look_index (fn : Func) (h : fn.name = "internal/bytealg.IndexByteString") : Extern.find fn = some Extern.BytealgIndexByte.indexByte := by
  unfold Extern.find
  rw [h]
  have e1 : Extern.allGenericRows.lookup "internal/bytealg.IndexByteString" = none := by kernel_rfl
  have e2 : Extern.allTypedRows.lookup "internal/bytealg.IndexByteString" = none := by kernel_rfl
  have e3 : Extern.allRows.lookup "internal/bytealg.IndexByteString" = some Extern.BytealgIndexByte.indexByte := by kernel_rfl
  simp only [e1, e2, e3]
  rfl
theorem args_two {E : Env} {R : Nat → Prop} {a b : AV} {vs : List Value} (h : ArgsRel E R [a, b] vs) : ∃ x y, vs = [x, y] ∧ Rel E R a x ∧ Rel E R b y := by
  match vs, h.1 with
  | [x, y], _ => exact ⟨x, y, rfl, h.2 0 _ _ rfl rfl, h.2 1 _ _ rfl rfl⟩
theorem strV_data (l : List Nat) : (strV l).data.toList = l.map UInt8.ofNat := by simp [strV]
theorem ofNat_toUInt8 (c : Nat) : ((c : Int).toNat).toUInt8 = UInt8.ofNat c := rfl
theorem ext_run {f : Nat} {e : List AV → Option AV} {E : Env} {R : Nat → Prop} {l : List AV} {v : AV} {vs : List Value} (w : World) (he : extA P f = some e) (ar : ArgsRel E R l vs) (hv : e l = some v) :
    ∃ v', (callFunc f vs.toArray).run P w = .ok (.value v') w ∧ Rel E R v v' := by
  unfold extA at he
  split at he
  · rename_i fn hf
    split at he
    · cases hn : (fn.name == "runtime.NumGoroutine") with
      | true => rw [hn, cond_true] at he; injection he with he; subst he; cases hv
      | false => rw [hn] at he; cases he
    · rename_i hb
      injection he with he
      cases h1 : ((Extern.findNext fn).isNone && !(fn.name == "runtime.NumGoroutine")) with
      | false => rw [h1, cond_false] at he; subst he; cases hv
      | true =>
        rw [h1, cond_true] at he
        rw [Bool.and_eq_true, Bool.not_eq_true'] at h1
        obtain ⟨h2, h3⟩ := h1
        have h2 : Extern.findNext fn = none := Option.isNone_iff_eq_none.1 h2
        have hb' : fn.body.isNone = true := by rw [hb]; rfl
        cases h4 : (fn.name == "internal/bytealg.CountString") with
        | true =>
          rw [h4, cond_true] at he
          subst he
          obtain ⟨a, b, rfl, q1⟩ := two_some hv
          obtain ⟨x, y, rfl, ra, rb⟩ := args_two ar
          obtain ⟨s, rfl, q2⟩ := onStr_some q1
          obtain ⟨k, n, rfl, q3⟩ := onInt_some q2
          obtain ⟨q4, q5⟩ := cnd_some q3
          have q4 := eqK_eq q4
          subst q4
          obtain ⟨c, rfl, q6⟩ := onNat_some q5
          obtain ⟨q7, q8⟩ := cnd_some q6
          have q7 := ble_le q7
          obtain ⟨ra, rs⟩ := ra.str
          have rb := rb.int
          subst ra rb
          rw [rN, stN_eq, Option.some.injEq] at q8
          subst q8
          refine ⟨_, ?_, Rel.of (v := .int .i64 _) trivial⟩
          rw [run_callFunc_extern hf h3 hb' h2 (look_count fn (by simpa using h4))]
          show ((Extern.BytealgCount.count #[.string (strV s), .int .u8 c]).run P w).andThen _ = _
          rw [Lib.run_countString, strV_data, cntL_eq c (by omega) s rs, ofNat_toUInt8]
          simp [Result.andThen, conc, Lib.countByte]
        | false =>
          rw [h4, cond_false] at he
          cases h5 : (fn.name == "internal/bytealg.IndexByteString") with
          | false => rw [h5, cond_false] at he; subst he; cases hv
          | true =>
            rw [h5, cond_true] at he
            subst he
            obtain ⟨a, b, rfl, q1⟩ := two_some hv
            obtain ⟨x, y, rfl, ra, rb⟩ := args_two ar
            obtain ⟨s, rfl, q2⟩ := onStr_some q1
            obtain ⟨k, n, rfl, q3⟩ := onInt_some q2
            obtain ⟨q4, q5⟩ := cnd_some q3
            have q4 := eqK_eq q4
            subst q4
            obtain ⟨c, rfl, q6⟩ := onNat_some q5
            obtain ⟨q7, q8⟩ := cnd_some q6
            have q7 := ble_le q7
            obtain ⟨ra, rs⟩ := ra.str
            have rb := rb.int
            subst ra rb
            rw [rI, stI_eq, Option.some.injEq] at q8
            subst q8
            refine ⟨_, ?_, Rel.of (v := .int .i64 _) trivial⟩
            rw [run_callFunc_extern hf h3 hb' h2 (look_index fn (by simpa using h5))]
            show ((Extern.BytealgIndexByte.indexByte #[.string (strV s), .int .u8 c]).run P w).andThen _ = _
            rw [Lib.run_indexByteString, strV_data, fndL_eq c (by omega) s rs, ofNat_toUInt8]
            simp only [Result.andThen, conc]
            split <;> simp_all
  · injection he with he; subst he; cases hv
/-- a call of a function by its number -/
theorem call_run {s : S} (sok : SOk P s) {f : Nat} {l : List AV} {h : H} {vs : List Value} {E : Env} {R : Nat → Prop} {w0 w : World} {r : Option Nat} {n : Nat} {o : Oper} {a : Act} {next : Act → World → Prop} {Q : Exit → Act → World → Prop} (inv : Inv P E R h w0 w) (ar : ArgsRel E R l vs)
    (hp : Post P w0 E R h (fun e w' => match e with | .returned v => next (a.put o.dst v) w' | .panicked chain => Q (.panic chain) a w' | .outgrown => LetsOut Q) (callN P f s l h)) :
    o.uponIn (FW r) n P a next Q ((callFunc f vs.toArray).run P w) := by
  rw [callN, onB_eq] at hp
  unfold callB at hp
  split at hp
  · rename_i e he
    have hp : Post P w0 E R h _ (onO (e l) .no fun v => .ret v h) := hp
    cases hv : e l with
    | none => rw [hv] at hp; exact hp.elim
    | some v =>
      rw [hv] at hp
      obtain ⟨v', h1, h2⟩ := ext_run w he ar hv
      rw [h1, Oper.uponIn_value]
      exact hp E R w v' (Step.refl E R h) inv h2
  · rename_i he
    have hp : Post P w0 E R h _ (s.call f l h) := hp
    unfold extA at he
    split at he
    · rename_i fn hf
      split at he
      · rename_i c hb
        cases hn : (fn.name == "runtime.NumGoroutine") with
        | true => rw [hn] at he; cases he
        | false =>
          have h1 : fn.name ≠ "runtime.NumGoroutine" := by simpa using hn
          have hrun : (callFunc f vs.toArray).run P w = .ok (.enter f vs.toArray) w := by
            simp [callFunc, hf, h1, hb]
          rw [hrun, Oper.uponIn_enter]
          refine ⟨fun hd => (by cases hd), ?_⟩
          exact callsIn_FW (sok.1 f l h vs E R w0 w _ inv ar (hp.mono fun e w' x => by cases e <;> exact x))
      · cases he
    · cases he
end
end Go.Proofs.YtccadcefhfdmgaaGreatDoor.Ev
namespace Go.Proofs.YtccadcefhfdmgaaGreatDoor.Ev
open Go
section
variable {P : Program}
theorem ActOk.put {E : Env} {R : Nat → Prop} {W : Tr Bool} {a : A} {tmps : Array Value} {u : Nat} {v : AV} {v' : Value} (x : ActOk E R W a tmps) (hu : u < tmps.size) (hr : Rel E R v v') : ActOk E R W ((setS u).out v a) (tmps.setIfInBounds u v') := by
  intro t ht
  rw [getD_set _ _ _ _ hu]
  rcases get_set t u v a with h | ⟨h1, h2⟩
  · rw [h]
    by_cases e : t = u
    · subst e
      rw [if_pos rfl]
      by_cases h6 : t < 256
      · rw [get_set_same t v a h6] at h
        rw [← h]; exact hr
      · have hb : Nat.ble t 255 = false := ble_f (by omega)
        have : (getS t).out a = bad := by simp only [getS, hb, cnd_f, Bx.out_mk]
        rw [this]; exact Rel.bad E R _
    · rw [if_neg e]; exact x t ht
  · rw [h2, if_pos h1]; exact hr
theorem setArgs_ok {E : Env} {R : Nat → Prop} {W : Tr Bool} : ∀ (ps : List Nat) (l : List AV) (vs : List Value) (a a' : A) (tmps : Array Value), ArgsRel E R l vs → ActOk E R W a tmps → (∀ t ∈ ps, t < tmps.size) → setArgs ps l a = some a' →
    ps.length = vs.length ∧ ∃ tmps', (ps.zip vs).foldl (fun tmps x => tmps.setIfInBounds x.1 x.2) tmps = tmps' ∧ ActOk E R W a' tmps' ∧ tmps'.size = tmps.size
  | [], l, vs, a, a', tmps, hr, ha, hp, h => by
    cases l with
    | nil =>
      have : a = a' := by injection h
      subst this
      match vs, hr.1 with
      | [], _ => exact ⟨rfl, tmps, rfl, ha, rfl⟩
    | cons v l => cases h
  | t :: ps, l, vs, a, a', tmps, hr, ha, hp, h => by
    cases l with
    | nil => cases h
    | cons v l =>
      match vs, hr.1 with
      | x :: vs, hlen =>
        have h : onB (setS t) (fun s => setArgs ps l (s v a)) = some a' := h
        rw [onB_eq] at h
        have ht := hp t (List.mem_cons_self ..)
        obtain ⟨h1, tm, h2, h3, h4⟩ := setArgs_ok ps l vs _ a' (tmps.setIfInBounds t x) ⟨by simpa using hlen, fun i u u' hu hu' => hr.2 (i + 1) u u' hu hu'⟩ (ha.put ht (hr.2 0 v x rfl rfl)) (fun u hu => by simpa using hp u (List.mem_cons_of_mem _ hu)) h
        exact ⟨by simp [h1], tm, h2, h3, by simpa using h4⟩
theorem turn_putObj {w : World} {b : Nat} {o : Obj} : Turn b w (w.putObj b o) := ⟨by simp, fun k hk => World.putObj_heap_other hk, rfl, rfl, rfl⟩
/-- codes of rounds -/
def RoundsOk (P : Program) (cc : Nat → Code → Bx CF) : Prop := ∀ (fn : Nat) (c : Code) (x : FC), fnC P fn = some x → ∀ (s : S), SOk P s → ∀ (l n : Nat) (E : Env) (R : Nat → Prop) (h : H) (w0 w : World) (a : A) (act : Act) (Q : Exit → Act → World → Prop),
  Good P E R x.W x.nt h w0 w a [] act → Acc P x.W x.nt w0 E R h Q ((cc fn c).out s a [] h) → c.wpIn (FW (some l)) n P Q act w
theorem roundsOk_cc0 : RoundsOk P cc0 := fun _ _ _ _ _ _ _ _ _ _ _ _ _ _ _ _ _ h => h.elim
theorem defs_nil {E : Env} {R : Nat → Prop} {ds : List Deferred} (h : DefsOk E R [] ds) : ds = [] := by cases h; rfl
theorem nilD_not {ds : List ADef} {x : RC} {T : RC → Prop} (hT : ¬ T .no) (h : T (nilD ds .no x)) : ds = [] ∧ T x := by
  cases ds with
  | nil => exact ⟨rfl, h⟩
  | cons d ds => exact absurd h hT
theorem onLoop_not {T : RC → Prop} (hT : ¬ T .no) {o : Option AO} {f : LoopState → Option Code → Nat → A → List Nat → Code → Code → Nat → RC} (h : T (onLoop o .no f)) : ∃ st pe fn tm ps asg body df, o = some (.loop st pe fn tm ps asg body df) ∧ T (f st pe fn tm ps asg body df) := by
  cases o with
  | none => exact absurd h hT
  | some o =>
    cases o with
    | loop st pe fn tm ps asg body df => exact ⟨_, _, _, _, _, _, _, _, rfl, h⟩
    | _ => exact absurd h hT
theorem cnd_not {T : RC → Prop} (hT : ¬ T .no) {c : Bool} {x : RC} (h : T (cnd c x .no)) : c = true ∧ T x := by
  cases c with
  | true => exact ⟨rfl, h⟩
  | false => exact absurd h hT
theorem isReady_eq {s : LoopState} (h : isReady s = true) : s = .ready := by cases s <;> first | rfl | cases h
theorem finR_ok {E : Env} {R : Nat → Prop} {h : H} {w0 w : World} {E1 : Env} {R1 : Nat → Prop} {h1 : H} {T : Ending → World → Prop} {l : Nat} {jump : Option Code} {st : LoopState} (hst : st = if jump.isNone then .ready else .done) (s : Step E R h E1 R1 h1) (inv : Inv P E1 R1 h1 w0 w) (hl : R l)
    (hp : Post P w0 E R h T (finR l st jump h1)) : ∃ v w', (Instr.endRound (E.blk l) jump).run P w = .ok v w' ∧ T (.returned v) w' := by
  obtain ⟨st0, pe, fn, tm, ps, asg, body, df, ho, hp⟩ := onLoop_not (T := Post P w0 E R h T) (fun h => h) hp
  have hl1 := s.real l hl
  obtain ⟨x, tmps, fn', i1, i2, i3, i4, i5, i6⟩ := inv.obj l _ hl1 ho
  have hb := (s.env l hl).blk
  rw [hb] at i5
  refine ⟨_, _, run_endRound (P := P) jump i5, ?_⟩
  have hlt := (Array.getElem?_eq_some_iff.1 i5).1
  have he : (onO jump true fun _ => false) = jump.isNone := by cases jump <;> rfl
  rw [he] at hp
  refine hp E1 R1 _ (.bool jump.isNone) (s.trans (step_put _ hl1)) (inv_put inv hl1 ho (by rw [hb]; exact turn_putObj) ?_) (fun _ => ⟨trivial, rfl⟩)
  refine ⟨x, tmps, fn', i1, i2, i3, i4, ?_, i6⟩
  rw [hb, World.putObj_heap_same hlt, hst]
theorem round_run {cc : Nat → Code → Bx CF} (hcc : RoundsOk P cc) {s : S} (sok : SOk P s) {i : Nat} {l : List AV} {vs : List Value} {E : Env} {R : Nat → Prop} {h : H} {w0 w : World} {T : Ending → World → Prop} (inv : Inv P E R h w0 w) (ar : ArgsRel E R l vs) (hi : R i)
    (hp : Post P w0 E R h T (roundA cc i s l h)) (r : Option Nat) (n : Nat) :
    ∃ fn tmps asg body, (Instr.yield (E.blk i) vs.toArray).run P w = .ok (.round (E.blk i) fn tmps asg body) w ∧ RoundIn (FW r) n P (E.blk i) fn tmps asg body w T := by
  have hno : ¬ Post P w0 E R h T .no := fun h => h
  obtain ⟨st, pe, fn, tm, ps, asg, body, df, ho, hp⟩ := onLoop_not hno hp
  obtain ⟨hst, hp⟩ := cnd_not hno hp
  have hst := isReady_eq hst
  subst hst
  cases pe with
  | some c => exact hp.elim
  | none =>
    have hp : Post P w0 E R h T (onO (setArgs ps l tm) .no _) := hp
    cases hsa : setArgs ps l tm with
    | none => rw [hsa] at hp; exact hp.elim
    | some a1 =>
      rw [hsa, onO_s, onB_eq] at hp
      obtain ⟨x, tmps, fn', i1, i2, i3, i4, i5, i6⟩ := inv.obj i _ hi ho
      obtain ⟨k1, tm2, k2, k3, k4⟩ := setArgs_ok ps l vs tm a1 tmps ar i2 i4 hsa
      refine ⟨fn', tm2, asg, body, ?_, ?_⟩
      · rw [run_yield (P := P) i5 (by simp [k1]), ← k2]
        simp only [List.zip_toArray, List.foldl_toArray']
      · refine roundIn_of_wpIn trivial ?_
        show asg.wpIn (FW (some (E.blk i))) n P _ { tmps := tm2, defers := [] } w
        have g1 : Good P E R x.W x.nt h w0 w a1 [] { tmps := tm2, defers := [] } := ⟨inv, k3, by rw [k4]; exact i3, .nil⟩
        refine hcc fn asg x i1 s sok _ n E R h w0 w a1 _ _ g1 ?_
        generalize (cc fn asg).out s a1 [] h = out at hp
        cases out with
        | norm a2 ds h2 =>
          have hp : Post P w0 E R h T (nilD ds .no _) := hp
          obtain ⟨rfl, hp⟩ := nilD_not hno hp
          intro E1 R1 act1 w1 s1 g2
          have hi1 := s1.real i hi
          have hb1 := (s1.env i hi).blk
          obtain ⟨st, pe, fn2, tm3, ps2, asg2, body2, df2, ho2, hp⟩ := onLoop_not hno hp
          obtain ⟨hst, hp⟩ := cnd_not hno hp
          have hst := isReady_eq hst
          subst hst
          rw [onB_eq] at hp
          obtain ⟨x2, tmps2, fn3, j1, j2, j3, j4, j5, j6⟩ := g2.inv.obj i _ hi1 ho2
          rw [hb1] at j5
          refine ⟨_, run_beginRound (P := P) j5 rfl, ?_⟩
          have hlt := (Array.getElem?_eq_some_iff.1 j5).1
          have inv3 : Inv P E1 R1 (h2.set i (.loop .busy pe fn2 tm3 ps2 asg2 body2 df2)) w0 (w1.putObj (E.blk i) (.loop { state := .busy, pending := pe, fn := fn3, tmps := tmps2, params := ps2.toArray, assign := asg2, body := body2, defers := E1.blk df2 })) := by
            refine inv_put g2.inv hi1 ho2 (by rw [hb1]; exact turn_putObj) ⟨x2, tmps2, fn3, j1, j2, j3, j4, ?_, j6⟩
            rw [hb1, World.putObj_heap_same hlt]
          have s3 : Step E1 R1 h2 E1 R1 (h2.set i (.loop .busy pe fn2 tm3 ps2 asg2 body2 df2)) := step_put _ hi1
          have s13 := s1.trans s3
          show body.wpIn (FW (some (E.blk i))) n P _ act1 _
          refine hcc fn body x i1 s sok _ n E1 R1 _ w0 _ a2 _ _ ⟨inv3, g2.slots, g2.nt, g2.ds⟩ ?_
          generalize (cc fn body).out s a2 [] (h2.set i (.loop .busy pe fn2 tm3 ps2 asg2 body2 df2)) = out2 at hp
          cases out2 with
          | norm a3 ds3 h3 =>
            have hp : Post P w0 E R h T (nilD ds3 .no _) := hp
            obtain ⟨rfl, hp⟩ := nilD_not hno hp
            intro E4 R4 act4 w4 s4 g4
            exact finR_ok rfl (s13.trans s4) g4.inv hi hp
          | exit k a3 ds3 h3 =>
            have hp : Post P w0 E R h T (nilD ds3 .no _) := hp
            obtain ⟨rfl, hp⟩ := nilD_not hno hp
            intro E4 R4 act4 w4 s4 g4
            exact finR_ok rfl (s13.trans s4) g4.inv hi hp
          | goto k a3 ds3 h3 =>
            have hp : Post P w0 E R h T (nilD ds3 .no _) := hp
            obtain ⟨rfl, hp⟩ := nilD_not hno hp
            intro E4 R4 act4 w4 s4 g4
            exact finR_ok rfl (s13.trans s4) g4.inv hi hp
          | ret a3 ds3 h3 =>
            have hp : Post P w0 E R h T (nilD ds3 .no _) := hp
            obtain ⟨rfl, hp⟩ := nilD_not hno hp
            intro E4 R4 act4 w4 s4 g4
            exact finR_ok rfl (s13.trans s4) g4.inv hi hp
          | pan v a3 ds3 h3 => exact hp.elim
          | no => exact hp.elim
        | exit k a2 ds h2 => exact hp.elim
        | goto k a2 ds h2 => exact hp.elim
        | ret a2 ds h2 => exact hp.elim
        | pan v a2 ds h2 => exact hp.elim
        | no => exact hp.elim
end
end Go.Proofs.YtccadcefhfdmgaaGreatDoor.Ev
namespace Go.Proofs.YtccadcefhfdmgaaGreatDoor.Ev
open Go
section
variable {P : Program}
def DStep (E : Env) (R : Nat → Prop) (ds : List ADef) (act : Act) (ds' : List ADef) (act' : Act) : Prop :=
  (ds' = ds ∧ act' = act) ∨ ∃ x d, ds' = x :: ds ∧ act' = { act with defers := d :: act.defers } ∧ DefOk E R x d
theorem DStep.tmps {E : Env} {R : Nat → Prop} {ds ds' : List ADef} {act act' : Act} (h : DStep E R ds act ds' act') : act'.tmps = act.tmps := by
  rcases h with ⟨_, rfl⟩ | ⟨x, d, _, rfl, _⟩ <;> rfl
theorem DStep.defs {E : Env} {R : Nat → Prop} {ds ds' : List ADef} {act act' : Act} (h : DStep E R ds act ds' act') (x : DefsOk E R ds act.defers) : DefsOk E R ds' act'.defers := by
  rcases h with ⟨rfl, rfl⟩ | ⟨y, d, rfl, rfl, hd⟩
  · exact x
  · exact .cons hd x
theorem cOp_defer {cd : Operand → Bx Od} {o : Oper} {q : Op'} (h : cOp P cd o = some q) (c : Call) (ho : o.op = .defer c) : ∃ f l, q = .dfr f l := by
  unfold cOp at h
  rw [ho] at h
  simp only at h
  split at h
  · rw [onB_eq] at h; exact ⟨_, _, on1_some h⟩
  · cases h
theorem und_rel (E : Env) (R : Nat → Prop) : Rel E R und undef := fun _ => ⟨trivial, rfl⟩
theorem fin_eq (a : A) (ds : List ADef) (k : KF) (r : RC) : (∃ v h, r = .pan v h ∧ fin a ds k r = .pan v a ds h) ∨ (∃ v h, r = .ret v h ∧ fin a ds k r = k v ds h) ∨ (r = .no ∧ fin a ds k r = .no) := by
  cases r with
  | ret v h => exact .inr (.inl ⟨v, h, rfl, rfl⟩)
  | pan v h => exact .inl ⟨v, h, rfl, rfl⟩
  | no => exact .inr (.inr ⟨rfl, rfl⟩)
theorem skip_step {E E' : Env} {R : Nat → Prop} {h : H} {w0 w : World} (inv : Inv P E R h w0 w) (hag : ∀ j, j ≠ h.n → E.Agree E' j) : Step E R h E' (fun j => R j ∨ j = h.n) (h.skip 1) ∧ Inv P E' (fun j => R j ∨ j = h.n) (h.skip 1) w0 w := by
  have hn : ¬ R h.n := fun hc => Nat.lt_irrefl _ (inv.dom _ hc)
  refine ⟨⟨by rw [skip_n]; omega, fun i hi => hag i (by have := inv.dom i hi; omega), fun i hi => .inl hi, fun i hi hn => ⟨fun hc => ?_, skip_get _ _ _⟩⟩, inv_gho inv hn hag (by rw [skip_n]; omega) (by rw [skip_get]; exact inv.top _ (Nat.le_refl _)) (fun j _ => skip_get _ _ _) (by rw [skip_n]; omega) fun i hi => ?_⟩
  · rcases hc with hc | hc
    · exact hn hc
    · omega
  · rw [skip_n] at hi; rw [skip_get]; exact inv.top i (by omega)
theorem list_rel {E : Env} {R : Nat → Prop} {l : List AV} (h : Ons R l) : ArgsRel E R l (concs E l) := by
  rw [concs_map]
  refine ⟨by simp, fun i v v' hv hv' => ?_⟩
  rw [List.getElem?_map, hv] at hv'
  injection hv' with hv'
  subst hv'
  exact Rel.of ((Ons_iff l).1 h v (List.mem_of_getElem? hv))
theorem ArgsRel.app {E : Env} {R : Nat → Prop} {l m : List AV} {vs us : List Value} (x : ArgsRel E R l vs) (y : ArgsRel E R m us) : ArgsRel E R (l ++ m) (vs ++ us) := by
  refine ⟨by simp [x.1, y.1], fun i v v' hv hv' => ?_⟩
  by_cases hi : i < l.length
  · rw [List.getElem?_append_left hi] at hv
    rw [List.getElem?_append_left (by rw [← x.1]; exact hi)] at hv'
    exact x.2 i v v' hv hv'
  · rw [List.getElem?_append_right (by omega)] at hv
    rw [List.getElem?_append_right (by rw [← x.1]; omega), ← x.1] at hv'
    exact y.2 _ v v' hv hv'
theorem ods_args {cd : Operand → Bx Od} {E : Env} {R : Nat → Prop} {e : List AV} {a : A} {ρ : Operand → Value} (l : List Operand) (h : ∀ x ∈ l, Rel E R ((cd x).out e a) (ρ x)) : ArgsRel E R ((odsB cd l).out e a) (l.map ρ) := by
  rw [odsB_out]
  refine ⟨by simp, fun i v v' hv hv' => ?_⟩
  rw [List.getElem?_map, Option.map_eq_some_iff] at hv hv'
  obtain ⟨x, hx, rfl⟩ := hv
  obtain ⟨y, hy, rfl⟩ := hv'
  rw [hx] at hy
  injection hy with hy
  subst hy
  exact h x (List.mem_of_getElem? hx)
theorem op_run {s : S} (sok : SOk P s) {cc : Nat → Code → Bx CF} (hcc : RoundsOk P cc) {o : Oper} {cd : Operand → Bx Od} {q : Op'} {rd : Bool} {r : Option Nat} {n : Nat} (hrd : rd = false → r = none) (hdf : ∀ c, o.op = .defer c → ∃ f l, q = .dfr f l) (hop : OpOk P o cd q)
    {E : Env} {R : Nat → Prop} {h : H} {w0 w : World} {e : List AV} {a : A} {act : Act} {ds : List ADef} {k : KF} {next : Act → World → Prop} {Q : Exit → Act → World → Prop} (inv : Inv P E R h w0 w) (rel : OpsRel E R cd e a act.eval o.op.operands.toList)
    (hne : (runB P cc rd q).out s e a ds h k ≠ .no)
    (hk : ∀ v ds' h' E' R' act' w' v', (runB P cc rd q).out s e a ds h k = k v ds' h' → Step E R h E' R' h' → Inv P E' R' h' w0 w' → DStep E' R' ds act ds' act' → Rel E' R' v v' → next (act'.put o.dst v') w')
    (hp : ∀ v h' E' R' w' v', (runB P cc rd q).out s e a ds h k = .pan v a ds h' → Step E R h E' R' h' → Inv P E' R' h' w0 w' → Rel E' R' v v' → Q (.panic [{ v := v', recovered := false }]) act w') :
    o.wpIn (FW r) n P act w next Q := by
  refine ⟨fun _ _ => trivial, ?_⟩
  have noDefer : (∀ f l, q ≠ .dfr f l) → o.semAt (FW r).round act.eval = execOp act.eval o := fun hq => Oper.semAt_eq _ _ _ fun c hc => by
    obtain ⟨f, l, h⟩ := hdf c hc
    exact hq f l h
  have tail : ∀ (x : RC) (vs : List Value) (g : Nat) (l : List AV), ArgsRel E R l vs → (runB P cc rd q).out s e a ds h k = fin a ds k x → x = callN P g s l h → o.uponIn (FW r) n P act next Q ((callFunc g vs.toArray).run P w) := by
    intro x vs g l ar he hx
    rw [he] at hne hk hp
    refine call_run (l := l) sok inv ar ?_
    rw [← hx]
    rcases fin_eq a ds k x with ⟨v, h2, rfl, hf⟩ | ⟨v, h2, rfl, hf⟩ | ⟨_, hf⟩
    · intro E' R' w' v' s' i' r'
      exact hp v h2 E' R' w' v' hf s' i' r'
    · intro E' R' w' v' s' i' r'
      exact hk v ds h2 E' R' act w' v' hf s' i' (.inl ⟨rfl, rfl⟩) r'
    · exact absurd hf hne
  cases q with
  | val f =>
    rw [noDefer fun _ _ => by simp]
    have hne : (onO (f e a h) Out.no fun v => k v ds h) ≠ .no := hne
    have hk : ∀ v ds' h' E' R' act' w' v', (onO (f e a h) Out.no fun v => k v ds h) = k v ds' h' → _ := hk
    cases hf : f e a h with
    | none => rw [hf] at hne; exact absurd rfl hne
    | some v =>
      obtain ⟨v', h1, h2⟩ := hop E R h w0 w e a act.eval v inv rel hf
      rw [h1, Oper.uponIn_value]
      exact hk v ds h E R act w v' (by rw [hf]; rfl) (Step.refl E R h) inv (.inl ⟨rfl, rfl⟩) h2
  | new f =>
    rw [noDefer fun _ _ => by simp]
    have hne : (onO (f e a h h.n) Out.no fun x => onP x fun v o => k v ds (h.new o)) ≠ .no := hne
    have hk : ∀ v ds' h' E' R' act' w' v', (onO (f e a h h.n) Out.no fun x => onP x fun v o => k v ds (h.new o)) = k v ds' h' → _ := hk
    cases hf : f e a h h.n with
    | none => rw [hf] at hne; exact absurd rfl hne
    | some x =>
      obtain ⟨v, ob⟩ := x
      obtain ⟨v', x, w', E', h1, h2, h3, h4, h5, h6⟩ := hop E R h w0 w e a act.eval h.n v ob inv rel hf fun hc => Nat.lt_irrefl _ (inv.dom _ hc)
      rw [h1, Oper.uponIn_value]
      exact hk v ds (h.new ob) E' _ act w' v' (by rw [hf]; rfl) (step_new inv h3) (seq_new inv h2 h3 h4 h6) (.inl ⟨rfl, rfl⟩) h5
  | gho f =>
    rw [noDefer fun _ _ => by simp]
    have hne : (onO (f e a h h.n) Out.no fun x => onP x fun v g => cnd g (k v ds (h.skip 1)) (k v ds h)) ≠ .no := hne
    have hk : ∀ v ds' h' E' R' act' w' v', (onO (f e a h h.n) Out.no fun x => onP x fun v g => cnd g (k v ds (h.skip 1)) (k v ds h)) = k v ds' h' → _ := hk
    cases hf : f e a h h.n with
    | none => rw [hf] at hne; exact absurd rfl hne
    | some x =>
      obtain ⟨v, g⟩ := x
      obtain ⟨v', h1, h2, h3⟩ := hop E R h w0 w e a act.eval h.n v g inv rel hf
      rw [h1, Oper.uponIn_value]
      cases g with
      | false => exact hk v ds h E R act w v' (by rw [hf]; rfl) (Step.refl E R h) inv (.inl ⟨rfl, rfl⟩) (h2 rfl)
      | true =>
        obtain ⟨E', h4, h5⟩ := h3 rfl fun hc => Nat.lt_irrefl _ (inv.dom _ hc)
        obtain ⟨s1, i1⟩ := skip_step inv h4
        exact hk v ds (h.skip 1) E' _ act w v' (by rw [hf]; rfl) s1 i1 (.inl ⟨rfl, rfl⟩) h5
  | chg f =>
    rw [noDefer fun _ _ => by simp]
    have hne : (onO (f e a h) Out.no fun x => onP x fun v h => k v ds h) ≠ .no := hne
    have hk : ∀ v ds' h' E' R' act' w' v', (onO (f e a h) Out.no fun x => onP x fun v h => k v ds h) = k v ds' h' → _ := hk
    cases hf : f e a h with
    | none => rw [hf] at hne; exact absurd rfl hne
    | some x =>
      obtain ⟨v, h'⟩ := x
      obtain ⟨nx, w', E', R', h1, h2, h3, h4⟩ := hop E R h w0 w e a act.eval v h' inv rel hf
      rw [h1]
      rcases h2 with ⟨rfl, rfl⟩ | ⟨v', rfl, h5⟩
      · rw [Oper.uponIn_skip]
        exact hk und ds h' E' R' act w' undef (by rw [hf]; rfl) h4 h3 (.inl ⟨rfl, rfl⟩) (und_rel E' R')
      · rw [Oper.uponIn_value]
        exact hk v ds h' E' R' act w' v' (by rw [hf]; rfl) h4 h3 (.inl ⟨rfl, rfl⟩) h5
  | call f =>
    rw [noDefer fun _ _ => by simp]
    have he : (runB P cc rd (.call f)).out s e a ds h k = onO (f e a h) .no fun x => onP x fun g l => fin a ds k (callN P g s l h) := rfl
    cases hf : f e a h with
    | none => rw [he, hf] at hne; exact absurd rfl hne
    | some x =>
      obtain ⟨g, l⟩ := x
      obtain ⟨vs, h1, h2, h3⟩ := hop E R h w0 w e a act.eval g l inv rel hf
      rw [h1]
      exact tail _ vs g l ⟨h2, h3⟩ (by rw [he, hf]; rfl) rfl
  | dyn f l =>
    rw [noDefer fun _ _ => by simp]
    obtain ⟨c, x, ho, hc, rfl, rfl⟩ := hop
    rw [ho] at rel
    have rx : Rel E R ((cd x).out e a) (act.eval x) := rel x (by simp [Op.operands, Call.operands, hc])
    have ra : ArgsRel E R ((odsB cd c.args.toList).out e a) (c.args.toList.map act.eval) := ods_args _ fun y hy => rel y (by simp only [Op.operands, Call.operands, hc]; simp; exact .inr (by simpa using hy))
    have he : (runB P cc rd (.dyn (cd x).out (odsB cd c.args.toList).out)).out s e a ds h k = ((cd x).out e a).onFn (((cd x).out e a).onRef .no fun t i => cnd (Nat.beq t 2) (fin a ds k (roundA cc i s ((odsB cd c.args.toList).out e a) h)) .no)
      fun g fi ca => fin a ds k (callN P g s (appL fi (appL ((odsB cd c.args.toList).out e a) ca)) h) := rfl
    generalize hv : (cd x).out e a = v at rx he
    cases v with
    | fn g fi ca =>
      obtain ⟨⟨o1, o2⟩, rx⟩ := rx rfl
      have hrun : (execOp act.eval o).run P w = (callFunc g (concs E fi ++ (c.args.toList.map act.eval ++ concs E ca)).toArray).run P w := by
        simp only [execOp, ho, resolve, hc, rx, conc, Deferred.ofValue]
        rw [run_b (Sem.run_pure P w _)]
        simp only [invoke]
        congr 2
        apply Array.ext'
        simp
      rw [hrun]
      exact tail _ _ g _ ((list_rel o1).app (ra.app (list_rel o2))) (by rw [he]; rfl) (by rw [appL_eq, appL_eq])
    | ref t i =>
      cases ht : Nat.beq t 2 with
      | false =>
        have : (runB P cc rd (.dyn (cd x).out (odsB cd c.args.toList).out)).out s e a ds h k = .no := by
          rw [he]
          show cnd (Nat.beq t 2) _ Out.no = _
          rw [ht]; rfl
        exact absurd this hne
      | true =>
        have ht := beq_e ht
        subst ht
        have he : (runB P cc rd (.dyn (cd x).out (odsB cd c.args.toList).out)).out s e a ds h k = fin a ds k (roundA cc i s ((odsB cd c.args.toList).out e a) h) := he
        rw [he] at hne hk hp
        obtain ⟨⟨_, hi⟩, rx⟩ := rx rfl
        have rx : act.eval x = .func (.yield (E.blk i)) #[] #[] := rx
        have hpost : Post P w0 E R h (fun e w' => match e with | .returned v => next (act.put o.dst v) w' | .panicked chain => Q (.panic chain) act w' | .outgrown => LetsOut Q) (roundA cc i s ((odsB cd c.args.toList).out e a) h) := by
          generalize roundA cc i s ((odsB cd c.args.toList).out e a) h = x at hne hk hp
          rcases fin_eq a ds k x with ⟨v, h2, rfl, hf⟩ | ⟨v, h2, rfl, hf⟩ | ⟨_, hf⟩
          · intro E' R' w' v' s' i' r'
            exact hp v h2 E' R' w' v' hf s' i' r'
          · intro E' R' w' v' s' i' r'
            exact hk v ds h2 E' R' act w' v' hf s' i' (.inl ⟨rfl, rfl⟩) r'
          · exact absurd hf hne
        obtain ⟨fn, tmps, asg, body, h1, h2⟩ := round_run hcc sok inv ra hi hpost r (n - 1)
        have hrun : (execOp act.eval o).run P w = .ok (.round (E.blk i) fn tmps asg body) w := by
          simp only [execOp, ho, resolve, hc, rx, Deferred.ofValue]
          rw [run_b (Sem.run_pure P w _)]
          simp only [invoke]
          rw [← h1]
          congr 2
          apply Array.ext'
          simp
        rw [hrun, Oper.uponIn_round]
        refine ⟨fun hd => (by cases hd), h2.mono fun e w' x => by cases e <;> exact x⟩
    | _ => exact absurd he hne
  | dfr f l =>
    obtain ⟨c, x, ho, hc, rfl, rfl⟩ := hop
    rw [ho] at rel
    have rx : Rel E R ((cd x).out e a) (act.eval x) := rel x (by simp [Op.operands, Call.operands, hc])
    cases rd with
    | true => exact absurd rfl hne
    | false =>
      have hr := hrd rfl
      subst hr
      have he : (runB P cc false (.dfr (cd x).out (odsB cd c.args.toList).out)).out s e a ds h k = ((cd x).out e a).onFn .no fun g fi ca => cnd (allK ((odsB cd c.args.toList).out e a)) (k und (.fn g (appL fi (appL ((odsB cd c.args.toList).out e a) ca)) :: ds) h) .no := rfl
      generalize hv : (cd x).out e a = v at rx he
      cases v with
      | fn g fi ca =>
        obtain ⟨⟨o1, o2⟩, rx⟩ := rx rfl
        cases hall : allK ((odsB cd c.args.toList).out e a) with
        | false =>
          rw [he] at hne
          have : (cnd (allK ((odsB cd c.args.toList).out e a)) (k und (.fn g (appL fi (appL ((odsB cd c.args.toList).out e a) ca)) :: ds) h) .no) = .no := by rw [hall]; rfl
          exact absurd this hne
        | true =>
          have he : (runB P cc false (.dfr (cd x).out (odsB cd c.args.toList).out)).out s e a ds h k = k und (.fn g (appL fi (appL ((odsB cd c.args.toList).out e a) ca)) :: ds) h := by
            rw [he]
            show cnd (allK _) _ _ = _
            rw [hall]; rfl
          obtain ⟨a1, a2⟩ := ods_rel c.args.toList (fun y hy => rel y (by simp only [Op.operands, Call.operands, hc]; simp; exact .inr (by simpa using hy))) hall
          have hrun : (o.semAt (FW none).round act.eval).run P w = .ok (.defer { target := .fn (.func g) (concs E ca).toArray, args := (concs E fi ++ c.args.toList.map act.eval).toArray }) w := by
            show (execOp act.eval o).run P w = _
            simp only [execOp, ho, resolve, hc, rx, conc, Deferred.ofValue]
            rw [run_b (Sem.run_pure P w _)]
            simp only [Sem.run_pure]
            congr 3
            apply Array.ext'
            simp
          rw [hrun, Oper.uponIn_defer]
          refine hk und _ h E R { act with defers := _ :: act.defers } w undef he (Step.refl E R h) inv (.inr ⟨_, _, rfl, rfl, ?_⟩) (und_rel E R)
          refine ⟨concs E fi ++ c.args.toList.map act.eval, concs E ca, rfl, rfl, ?_, ?_⟩
          · rw [appL_eq, appL_eq, Ons_iff]
            intro v hv
            rcases List.mem_append.1 hv with hv | hv
            · exact (Ons_iff _).1 o1 v hv
            · rcases List.mem_append.1 hv with hv | hv
              · exact (Ons_iff _).1 a2 v hv
              · exact (Ons_iff _).1 o2 v hv
          · rw [appL_eq, appL_eq, a1]
            simp [concs_map]
      | _ => exact absurd he hne
  | pan x =>
    rw [noDefer fun _ _ => by simp]
    obtain ⟨y, ho, rfl⟩ := hop
    rw [ho] at rel
    have rx : Rel E R ((cd y).out e a) (act.eval y) := rel y (by simp [Op.operands])
    have he : (runB P cc rd (.pan (cd y).out)).out s e a ds h k = ((cd y).out e a).onIfc .no fun t v => .pan (.ifc t v) a ds h := rfl
    generalize hv : (cd y).out e a = v at rx he
    cases v with
    | ifc t u =>
      have rv := rx
      obtain ⟨rx, ru⟩ := rx.ifc
      have hrun : (execOp act.eval o).run P w = .halt (.panic (act.eval y)) w := by
        simp only [execOp, ho, Instr.panic, rx]
        rfl
      rw [hrun, Oper.uponIn_panic]
      exact hp _ h E R w _ he (Step.refl E R h) inv rv
    | _ => exact absurd he hne
  | rcv => exact absurd rfl hne
end
end Go.Proofs.YtccadcefhfdmgaaGreatDoor.Ev
namespace Go.Proofs.YtccadcefhfdmgaaGreatDoor.Ev
open Go
section
variable {P : Program}
theorem yielded_eq {ops : Array Oper} {j t : Nat} (h : (ops[j]?).bind (·.dst) = some t) (tmps : Array Value) : yielded ops tmps j = match tmps.getD t undef with | .bool b => some b | _ => none := by
  unfold yielded
  rw [h]
  simp only [Option.bind_some, Array.getD_eq_getD_getElem?]
  cases tmps[t]? with
  | none => rfl
  | some v => cases v <;> rfl
theorem conc_bool (E : Env) (v : AV) (b : Bool) (h : conc E v = .bool b) : v = .bool b := by
  cases v with
  | bool c => injection h with h; subst h; rfl
  | nil t => rcases t with _ | _ | _ | _ | t <;> cases h
  | ref t i => rcases t with _ | _ | t <;> cases h
  | agg tp l => cases tp <;> cases h
  | _ => cases h
theorem gdV_bool {β : Type} (w b : Bool) (d y n : β) : gdV w (.bool b) d y n = cnd (eqB b w) y n := rfl
theorem gdV_other {β : Type} (w : Bool) (v : AV) (h : ∀ b, v ≠ .bool b) (d y n : β) : gdV w v d y n = cnd v.known n d := by
  cases v <;> first | rfl | exact absurd rfl (h _)
theorem gd_case {E : Env} {R : Nat → Prop} {ops : Array Oper} {o : Oper} {j t : Nat} {w : Bool} {tmps : Array Value} {v : AV} (hg : o.guard = some (j, w)) (ht : (ops[j]?).bind (·.dst) = some t) (hr : Rel E R v (tmps.getD t undef)) {β : Type} (d y n : β) :
    gdV w v d y n = d ∨ (Region.wanted o (yielded ops tmps) = true ∧ gdV w v d y n = y) ∨ (Region.wanted o (yielded ops tmps) = false ∧ gdV w v d y n = n) := by
  have hw : Region.wanted o (yielded ops tmps) = (yielded ops tmps j == some w) := by simp only [Region.wanted, hg]
  by_cases hb : ∃ b, v = .bool b
  · obtain ⟨b, rfl⟩ := hb
    rw [hw, yielded_eq ht, hr.bool, gdV_bool]
    cases b <;> cases w
    · exact .inr (.inl ⟨rfl, rfl⟩)
    · exact .inr (.inr ⟨rfl, rfl⟩)
    · exact .inr (.inr ⟨rfl, rfl⟩)
    · exact .inr (.inl ⟨rfl, rfl⟩)
  · rw [gdV_other w v fun b h => hb ⟨b, h⟩]
    cases hk : v.known with
    | false => exact .inl rfl
    | true =>
      right; right
      refine ⟨?_, rfl⟩
      rw [hw, yielded_eq ht, (hr hk).2]
      have : ∀ x : Value, x = conc E v → ((match x with | .bool b => some b | _ => none : Option Bool) == some w) = false := by
        intro x hx
        cases x with
        | bool b => exact absurd ⟨b, conc_bool E v b hx.symm⟩ hb
        | _ => rfl
      exact this _ rfl
theorem putB_none (W : Tr Bool) (v : AV) (a : A) : (putB W none).out v a = a := rfl
theorem putB_some (W : Tr Bool) (t : Nat) (v : AV) (a : A) : (putB W (some t)).out v a = if memW W t = true then (setS t).out v a else a := by
  show (cnd (memW W t) (setS t) (.mk fun _ a => a)).out v a = _
  cases memW W t <;> rfl
theorem ActOk.off {E : Env} {R : Nat → Prop} {W : Tr Bool} {a : A} {tmps : Array Value} {u : Nat} {v' : Value} (x : ActOk E R W a tmps) (hu : u < tmps.size) (hn : memW W u = false) : ActOk E R W a (tmps.setIfInBounds u v') := by
  intro t ht
  rw [getD_set _ _ _ _ hu]
  by_cases e : t = u
  · subst e; rw [hn] at ht; cases ht
  · rw [if_neg e]; exact x t ht
theorem ActOk.putB {E : Env} {R : Nat → Prop} {W : Tr Bool} {a : A} {act : Act} {d : Option Nat} {v : AV} {v' : Value} (x : ActOk E R W a act.tmps) (hd : ∀ u, d = some u → u < act.tmps.size) (hr : Rel E R v v') : ActOk E R W ((putB W d).out v a) (act.put d v').tmps := by
  cases d with
  | none => exact x
  | some u =>
    rw [putB_some]
    show ActOk E R W _ (act.tmps.setIfInBounds u v')
    cases hm : memW W u with
    | true => simp only [if_true]; exact x.put (hd u rfl) hr
    | false => simp only [Bool.false_eq_true, if_false]; exact x.off (hd u rfl) hm
theorem put_size (act : Act) (d : Option Nat) (v : Value) : (act.put d v).tmps.size = act.tmps.size := by cases d <;> simp [Act.put]
theorem put_defs (act : Act) (d : Option Nat) (v : Value) : (act.put d v).defers = act.defers := by cases d <;> rfl
theorem ltT_lt {nt : Nat} {d : Option Nat} (h : ltT nt d = true) (u : Nat) (hu : d = some u) : u < nt := by subst hu; exact ble_le h
/-- the region's frame, one operation on -/
theorem good_put {E E' : Env} {R R' : Nat → Prop} {W : Tr Bool} {nt : Nat} {h h' : H} {w0 w w' : World} {a : A} {ds ds' : List ADef} {act act' : Act} {d : Option Nat} {v : AV} {v' : Value} (g : Good P E R W nt h w0 w a ds act) (st : Step E R h E' R' h') (inv : Inv P E' R' h' w0 w') (dst : DStep E' R' ds act ds' act') (hr : Rel E' R' v v') (hd : ltT nt d = true) :
    Good P E' R' W nt h' w0 w' ((putB W d).out v a) ds' (act'.put d v') := by
  have ht := dst.tmps
  refine ⟨inv, ?_, by rw [put_size, ht]; exact g.nt, by rw [put_defs]; exact dst.defs (g.ds.step st)⟩
  refine ActOk.putB ?_ (fun u hu => ?_) hr
  · rw [ht]; exact g.slots.step st
  · rw [ht]; exact Nat.lt_of_lt_of_le (ltT_lt hd u hu) g.nt
theorem look_put' {E E' : Env} {R R' : Nat → Prop} {W : Tr Bool} {h h' : H} {pre : List PE} {e : List AV} {a : A} {act act' : Act} {d : Option Nat} {v : AV} {v' : Value} (x : Look E R W pre e a act.tmps) (st : Step E R h E' R' h') (ht : act'.tmps = act.tmps) (hr : Rel E' R' v v') (hd : ∀ u, d = some u → u < act.tmps.size ∧ ¬ Srcs pre u) :
    Look E' R' W (.val d :: pre) (v :: e) ((putB W d).out v a) (act'.put d v').tmps := by
  have x' := x.step st
  rw [← ht] at x' hd
  cases d with
  | none => exact x'.put0
  | some u => exact x'.put (hd u rfl).1 hr (hd u rfl).2
theorem writes_cons {u : Nat} {o : Oper} {l : List Oper} (h : writes u (o :: l) = false) : o.dst ≠ some u ∧ writes u l = false := by
  unfold writes at h
  cases hd : o.dst with
  | none => rw [hd] at h; exact ⟨fun e => (by cases e), h⟩
  | some d =>
    rw [hd] at h
    have h : cnd (Nat.beq d u) true (writes u l) = false := h
    cases hb : Nat.beq d u with
    | true => rw [hb] at h; cases h
    | false => rw [hb, cnd_f] at h; exact ⟨fun e => beq_ne hb (by injection e), h⟩
theorem srcs_val {d : Option Nat} {pre : List PE} {u : Nat} (h : Srcs (.val d :: pre) u) : Srcs pre u := by
  obtain ⟨x, hx⟩ := h
  rcases List.mem_cons.1 hx with hx | hx
  · cases hx
  · exact ⟨x, hx⟩
theorem cnd_noneF {β : Type} {c : Bool} {x : Option β} {b : β} (h : cnd c x none = some b) : c = true ∧ x = some b := cnd_some h
theorem aliO_some {W : Tr Bool} {o : Oper} {l : List Oper} {x : Nat × Operand} (h : aliO W o l = some x) : o.op = .move x.2 ∧ o.guard = none ∧ o.dst = some x.1 ∧ memW W x.1 = false ∧ ∀ u, x.2 = .tmp u → writes u l = false := by
  unfold aliO at h
  split at h
  · rename_i y t ho hg hd
    cases hm : memW W t with
    | true => rw [hm] at h; cases h
    | false =>
      rw [hm, cnd_f] at h
      split at h
      · rename_i u
        cases hw : writes u l with
        | true => rw [hw] at h; cases h
        | false =>
          rw [hw, cnd_f] at h
          injection h with h
          subst h
          exact ⟨ho, hg, hd, hm, fun v e => by injection e with e; subst e; exact hw⟩
      · rename_i hn
        injection h with h
        subst h
        exact ⟨ho, hg, hd, hm, fun v e => absurd e (hn v)⟩
  · cases h
theorem aliV_cd1 (W : Tr Bool) (pre : List PE) (x : Operand) (e : List AV) (a : A) : aliV W pre x 0 e a = (cd1 W pre x).out e a := by cases x <;> rfl
theorem cGd_some {ops : Array Oper} {cd : Operand → Bx Od} {j : Nat} {w : Bool} {g : Option (Od × Bool)} (h : cGd ops cd (some (j, w)) = some g) : ∃ t, (ops[j]?).bind (·.dst) = some t ∧ g = some ((cd (.tmp t)).out, w) := by
  unfold cGd at h
  simp only at h
  split at h
  · rename_i t ht
    rw [onB_eq] at h
    injection h with h
    exact ⟨t, ht, h.symm⟩
  · cases h
theorem isPut_k {W : Tr Bool} {d : Option Nat} {f : OF} {rest : RF} {g : RF} (h : cnd (isPut W d) (onB (putB W d) fun put => some (nextF put f rest)) (some (nextN f rest)) = some g) : g = nextF (putB W d).out f rest := by
  rw [onB_eq] at h
  cases hp : isPut W d with
  | true => rw [hp, cnd_t] at h; injection h with h; exact h.symm
  | false =>
    rw [hp, cnd_f] at h
    injection h with h
    subst h
    have : ∀ v a, (putB W d).out v a = a := by
      intro v a
      cases d with
      | none => rfl
      | some t =>
        have hp : memW W t = false := hp
        rw [putB_some, hp]; simp
    funext s e a ds h
    simp only [nextF, nextN, this]
end
end Go.Proofs.YtccadcefhfdmgaaGreatDoor.Ev
namespace Go.Proofs.YtccadcefhfdmgaaGreatDoor.Ev
open Go
section
variable {P : Program}
theorem rg_run {s : S} (sok : SOk P s) {cc : Nat → Code → Bx CF} (hcc : RoundsOk P cc) {rd : Bool} {r : Option Nat} {n nt : Nat} {W : Tr Bool} {ops : Array Oper} {w0 : World} {Q : Exit → Act → World → Prop} (hrd : rd = false → r = none) :
    ∀ (l : List Oper) (pre : List PE) (f : RF), rgF P cc rd nt W ops l pre = some f → (∀ u, Srcs pre u → writes u l = false) → ∀ (E : Env) (R : Nat → Prop) (h : H) (w : World) (e : List AV) (a : A) (ds : List ADef) (act : Act),
      Good P E R W nt h w0 w a ds act → Look E R W pre e a act.tmps → Acc P W nt w0 E R h Q (f s e a ds h) → wpListIn (FW r) n P ops Q l act w
  | [], pre, f, hf, _, E, R, h, w, e, a, ds, act, g, lk, acc => by
    injection hf with hf
    subst hf
    exact acc E R act w (Step.refl E R h) g
  | o :: l, pre, f, hf, hs, E, R, h, w, e, a, ds, act, g, lk, acc => by
    unfold rgF at hf
    obtain ⟨hlt, hf⟩ := cnd_some hf
    split at hf
    · rename_i x hx
      obtain ⟨ho, hg, hd, hm, hw⟩ := aliO_some hx
      have hu : x.1 < act.tmps.size := Nat.lt_of_lt_of_le (ltT_lt hlt _ hd) g.nt
      have hwant : Region.wanted o (yielded ops act.tmps) = true := by simp only [Region.wanted, hg]
      unfold wpListIn
      rw [hwant]
      simp only [if_true]
      refine ⟨fun _ _ => trivial, ?_⟩
      rw [Oper.semAt_eq _ _ _ (fun c hc => by rw [ho] at hc; cases hc)]
      have hrun : (execOp act.eval o).run P w = .ok (.value (act.eval x.2)) w := by simp only [execOp, ho]; rfl
      rw [hrun, Oper.uponIn_value, hd]
      refine rg_run sok hcc hrd l _ f hf (fun u hu => ?_) E R h w e a ds _ ⟨g.inv, ?_, by rw [put_size]; exact g.nt, by rw [put_defs]; exact g.ds⟩ ?_ acc
      · obtain ⟨z, hz⟩ := hu
        rcases List.mem_cons.1 hz with hz | hz
        · injection hz with hz1 hz2
          exact hw u hz2.symm
        · exact (writes_cons (hs u ⟨z, hz⟩)).2
      · exact g.slots.off hu hm
      · intro t
        show Rel E R _ ((act.tmps.setIfInBounds x.1 _).getD t undef)
        rw [look_ali, getD_set _ _ _ _ hu]
        by_cases e1 : x.1 = t
        · rw [if_pos e1, if_pos e1.symm, aliV_cd1]; exact look_cd1 lk _
        · rw [if_neg e1, if_neg (fun e => e1 e.symm)]; exact lk t
    · obtain ⟨q, hq, hf⟩ := onO_some hf
      obtain ⟨gd, hgd, hf⟩ := onO_some hf
      obtain ⟨rest, hrest, hf⟩ := onO_some hf
      rw [onB_eq, onB_eq] at hf
      have hf := isPut_k hf
      subst hf
      have hop := cOp_ok (cdOk_cd1 pre) (fun c r m ho hc => cInv_ok ho hc) hq
      have hops : OpsRel E R (cd1 W pre) e a act.eval o.op.operands.toList := fun x _ => look_cd1 lk x
      have acc : Acc P W nt w0 E R h Q ((guardB gd (runB P cc rd q).out).out s e a ds h fun v ds h => rest s (v :: e) ((putB W o.dst).out v a) ds h) := acc
      have step : ∀ (v : AV) (ds' : List ADef) (h' : H) (E' : Env) (R' : Nat → Prop) (act' : Act) (w' : World) (v' : Value), Acc P W nt w0 E R h Q (rest s (v :: e) ((putB W o.dst).out v a) ds' h') → Step E R h E' R' h' → Inv P E' R' h' w0 w' → DStep E' R' ds act ds' act' → Rel E' R' v v' → wpListIn (FW r) n P ops Q l (act'.put o.dst v') w' := by
        intro v ds' h' E' R' act' w' v' acc' st inv' dst hr
        refine rg_run sok hcc hrd l _ rest hrest (fun u hu => (writes_cons (hs u (srcs_val hu))).2) E' R' h' w' _ _ ds' _ (good_put g st inv' dst hr hlt) (look_put' lk st dst.tmps hr fun u hu => ⟨Nat.lt_of_lt_of_le (ltT_lt hlt u hu) g.nt, fun hc => (writes_cons (hs u hc)).1 hu⟩) (acc'.step st)
      have doit : Acc P W nt w0 E R h Q ((runB P cc rd q).out s e a ds h fun v ds h => rest s (v :: e) ((putB W o.dst).out v a) ds h) → o.wpIn (FW r) n P act w (wpListIn (FW r) n P ops Q l) Q := by
        intro acc
        refine op_run sok hcc hrd (cOp_defer hq) hop g.inv hops (k := fun v ds h => rest s (v :: e) ((putB W o.dst).out v a) ds h) (a := a) (ds := ds) (h := h) (fun hn => by rw [hn] at acc; exact acc) (fun v ds' h' E' R' act' w' v' he st inv' dst hr => ?_) fun v h' E' R' w' v' he st inv' hr => ?_
        · rw [he] at acc
          exact step v ds' h' E' R' act' w' v' acc st inv' dst hr
        · rw [he] at acc
          exact acc E' R' act w' v' st ⟨inv', g.slots.step st, g.nt, g.ds.step st⟩ hr
      unfold wpListIn
      cases hg : o.guard with
      | none =>
        rw [hg] at hgd
        injection hgd with hgd
        subst hgd
        have hwant : Region.wanted o (yielded ops act.tmps) = true := by simp only [Region.wanted, hg]
        rw [hwant]
        simp only [if_true]
        exact doit acc
      | some jw =>
        obtain ⟨j, wn⟩ := jw
        rw [hg] at hgd
        obtain ⟨t, ht, hgd⟩ := cGd_some hgd
        subst hgd
        have hv : Rel E R ((cd1 W pre (.tmp t)).out e a) (act.tmps.getD t undef) := look_cd1 (act := act) lk (.tmp t)
        have acc : Acc P W nt w0 E R h Q (gdV wn ((cd1 W pre (.tmp t)).out e a) .no ((runB P cc rd q).out s e a ds h fun v ds h => rest s (v :: e) ((putB W o.dst).out v a) ds h) (rest s (und :: e) ((putB W o.dst).out und a) ds h)) := acc
        rcases gd_case hg ht hv Out.no ((runB P cc rd q).out s e a ds h fun v ds h => rest s (v :: e) ((putB W o.dst).out v a) ds h) (rest s (und :: e) ((putB W o.dst).out und a) ds h) with hn | ⟨h1, h2⟩ | ⟨h1, h2⟩
        · rw [hn] at acc; exact acc.elim
        · rw [h1]
          simp only [if_true]
          rw [h2] at acc
          exact doit acc
        · rw [h1]
          simp only [Bool.false_eq_true, if_false]
          rw [h2] at acc
          exact ⟨fun _ _ => trivial, step und ds h E R act w undef acc (Step.refl E R h) g.inv (.inl ⟨rfl, rfl⟩) (und_rel E R)⟩
theorem reg_run {s : S} (sok : SOk P s) {cc : Nat → Code → Bx CF} (hcc : RoundsOk P cc) {rd : Bool} {r : Option Nat} {n nt id : Nat} {W : Tr Bool} {ops : Array Oper} {w0 : World} {Q : Exit → Act → World → Prop} (hrd : rd = false → r = none)
    {E : Env} {R : Nat → Prop} {h : H} {w : World} {a : A} {ds : List ADef} {act : Act} (g : Good P E R W nt h w0 w a ds act) (acc : Acc P W nt w0 E R h Q (xReg (rgF P cc rd nt W ops ops.toList []) s a ds h)) : (Code.region id ops false).wpIn (FW r) n P Q act w := by
  refine wpIn_region_list ?_
  unfold xReg at acc
  cases hf : rgF P cc rd nt W ops ops.toList [] with
  | none => rw [hf] at acc; exact acc.elim
  | some f =>
    rw [hf, onO_s] at acc
    exact rg_run sok hcc hrd ops.toList [] f hf (fun u hu => by obtain ⟨z, hz⟩ := hu; cases hz) E R h w [] a ds act g (look_start g.slots) acc
end
end Go.Proofs.YtccadcefhfdmgaaGreatDoor.Ev
