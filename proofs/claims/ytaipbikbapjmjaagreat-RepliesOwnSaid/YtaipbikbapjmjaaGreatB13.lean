/- Several texts of this claim in one. No condition beyond what each theorem states. -/
import Derived.Test.YtaipbikbapjmjaaGreatB01
import Derived.OrdersHeld
import Derived.RegionTactic
import Derived.Test.YtaipbikbapjmjaaGreatB05
import Derived.Test.YtaipbikbapjmjaaGreatB12
import Derived.Test.YtaipbikbapjmjaaGreatB11
import Derived.IntWalk
/- A region that draws its order, whose last operation comes behind all others: loads of cells that stand till then may be taken first. -/
namespace Go.Proofs.YtaipbikbapjmjaaGreat
open Go.RowKit
section
variable {P : Program} {ops : Array Oper} {Q : Exit → Act → World → Prop} {md : Region.Mode} {F : World → Prop} {d : Nat}

/-- whatever order is picked, and F holds behind every operation but number d -/
def wpAnyD (P : Program) (md : Region.Mode) (ops : Array Oper) (Q : Exit → Act → World → Prop) (F : World → Prop) (d : Nat) : Nat → Array Bool → Act → World → Prop
  | 0, listed, a, w => Region.ready md ops listed = [] ∧ Q .normal a w
  | fuel + 1, listed, a, w =>
    (Region.ready md ops listed = [] → Q .normal a w) ∧
    ∀ i ∈ Region.ready md ops listed, wpOp P ops Q i (fun a' w' => (i ≠ d → F w') ∧ wpAnyD P md ops Q F d fuel (listed.setIfInBounds i true) a' w') a w

theorem wpAny_of_D : ∀ (fuel : Nat) (listed : Array Bool) (a : Act) (w : World), wpAnyD P md ops Q F d fuel listed a w → wpAny P md ops Q fuel listed a w
  | 0, _, _, _, h => h
  | fuel + 1, _, _, _, h => ⟨h.1, fun i hi => wpOp_mono (fun a' w' h' => wpAny_of_D fuel _ a' w' h'.2) (h.2 i hi)⟩

theorem wpAnyD_first {i : Nat} {oi : Oper} {v : Value} (hi : ops[i]? = some oi) (hsel : ∀ (j : Nat) (o : Oper) cs b, ops[j]? = some o → o.op ≠ .select cs b)
    (hQ : ∀ c a w, Q (.panic c) (a.put oi.dst v) w → Q (.panic c) a w)
    (hd : ∀ listed : Array Bool, d ∈ Region.ready md ops listed → listed.getD i true = true) :
    ∀ (fuel : Nat) (listed : Array Bool) (a : Act) (w : World),
      (∀ j oj, ops[j]? = some oj → j ≠ i → listed.getD j true = false → (∀ e ∈ oj.after, Region.binds md e = true → e.on ≠ i) → oi.apart ops oj = true) →
      i ∈ Region.ready md ops listed → YieldsIf P ops F oi v a → F w →
      wpAnyD P md ops Q F d fuel (listed.setIfInBounds i true) (a.put oi.dst v) w → wpAnyD P md ops Q F d (fuel + 1) listed a w := by
  intro fuel
  induction fuel with
  | zero =>
    intro listed a w _ hr hy hS H
    refine ⟨fun h => (by rw [h] at hr; cases hr), fun j hj => ?_⟩
    by_cases hji : j = i
    · subst hji; exact hy.wpOp hi hS ⟨fun _ => hS, H⟩
    · have := ready_mono hj hji
      rw [H.1] at this
      cases this
  | succ fuel ih =>
    intro listed a w hfree hr hy hS H
    refine ⟨fun h => (by rw [h] at hr; cases hr), fun j hj => ?_⟩
    by_cases hji : j = i
    · subst hji; exact hy.wpOp hi hS ⟨fun _ => hS, H⟩
    · have h1 := H.2 j (ready_mono hj hji)
      obtain ⟨hjun, oj, hoj, hall⟩ := mem_ready.1 hj
      have hiun : listed.getD i true = false := (mem_ready.1 hr).1
      have hjd : j ≠ d := fun e => by
        subst e
        have := hd listed hj
        rw [this] at hiun; cases hiun
      have hnot : ∀ e ∈ oj.after, Region.binds md e = true → e.on ≠ i := fun e he hb heq => by
        have h0 := hall e he hb
        rw [heq] at h0
        have h1 := hiun
        simp only [Array.getD_eq_getD_getElem?] at h0 h1
        rcases Nat.lt_or_ge i listed.size with h' | h'
        · simp [h'] at h0 h1; rw [h0] at h1; cases h1
        · simp [Array.getElem?_eq_none h'] at h1
      have h2 := wpOp_putIf hoj (hfree j oj hoj hji hjun hnot) (fun cs b => hsel i oi cs b hi) (fun cs b => hsel j oj cs b hoj) hQ hy h1
      have hfree' : ∀ k ok, ops[k]? = some ok → k ≠ i → (listed.setIfInBounds j true).getD k true = false →
          (∀ e ∈ ok.after, Region.binds md e = true → e.on ≠ i) → oi.apart ops ok = true := fun k ok hk hki hun hno => by
        refine hfree k ok hk hki ?_ hno
        by_cases hjk : j = k
        · subst hjk; exact hjun
        · rw [getD_set_ne true hjk] at hun; exact hun
      refine wpOp_mono (fun a' w' h3 => ⟨h3.2.1, ih (listed.setIfInBounds j true) a' w' hfree' (ready_mono hr (Ne.symm hji)) h3.1 (h3.2.1 hjd) ?_⟩) h2
      rw [Array.setIfInBounds_comm _ _ hji]
      exact h3.2.2

/-- does number d wait for number i? -/
def waits (md : Region.Mode) (ops : Array Oper) (d i : Nat) : Bool :=
  match ops[d]? with
  | none => true
  | some o => o.after.any fun e => Region.binds md e && e.on == i
theorem waits_spec {i : Nat} (h : waits md ops d i = true) (_hi : i < ops.size) (listed : Array Bool) (hr : d ∈ Region.ready md ops listed) : listed.getD i true = true := by
  obtain ⟨_, o, ho, hall⟩ := mem_ready.1 hr
  unfold waits at h
  rw [ho] at h
  obtain ⟨n, hn, he⟩ := Array.any_eq_true.1 h
  simp only [Bool.and_eq_true, beq_iff_eq] at he
  have := hall _ (Array.getElem_mem hn) he.1
  rw [he.2] at this
  simp only [Array.getD_eq_getD_getElem?] at this ⊢
  cases hx : listed[i]? with
  | none => rfl
  | some b => rw [hx] at this; exact this

/-- begin: F holds, and a draw does not touch it -/
theorem rg_begin {id : Nat} {a : Act} {w : World} (F : World → Prop) (d : Nat) (hm : P.follows .mixedOrders = true) (h : wpAnyD P .any ops Q F d ops.size (Array.replicate ops.size false) a w.drew) : (Code.region id ops true).wp P Q a w :=
  wp_region_any hm (wpAny_of_D _ _ _ _ h)
/-- take number i first -/
theorem rg_take {i : Nat} {oi : Oper} {v : Value} {fuel : Nat} {listed : Array Bool} {a : Act} {w : World} (hi : ops[i]? = some oi)
    (hs : (Region.noSelect ops && Region.free md ops listed i && (Region.ready md ops listed).contains i && waits md ops d i) = true)
    (hQ : ∀ c a w, Q (.panic c) (a.put oi.dst v) w → Q (.panic c) a w) (hy : Region.wanted oi (yielded ops a.tmps) = true) (hv : ∀ w, F w → (execOp a.eval oi).run P w = .ok (.value v) w) (hS : F w)
    (h : wpAnyD P md ops Q F d fuel (listed.setIfInBounds i true) (a.put oi.dst v) w) : wpAnyD P md ops Q F d (fuel + 1) listed a w := by
  simp only [Bool.and_eq_true] at hs
  obtain ⟨⟨⟨h1, h2⟩, h3⟩, h4⟩ := hs
  exact wpAnyD_first hi (Region.noSelect_spec h1) hQ (waits_spec h4 (Array.getElem?_eq_some_iff.1 hi).1) fuel listed a w (Region.free_spec hi h2) (by simpa using h3) (.inl ⟨hy, hv⟩) hS h
/-- a guarded operation that is passed over -/
theorem rg_pass {i : Nat} {oi : Oper} {fuel : Nat} {listed : Array Bool} {a : Act} {w : World} (hi : ops[i]? = some oi)
    (hs : (Region.noSelect ops && Region.free md ops listed i && (Region.ready md ops listed).contains i && waits md ops d i) = true)
    (hQ : ∀ c a w, Q (.panic c) (a.put oi.dst undef) w → Q (.panic c) a w) (hy : Region.wanted oi (yielded ops a.tmps) = false) (hS : F w)
    (h : wpAnyD P md ops Q F d fuel (listed.setIfInBounds i true) (a.put oi.dst undef) w) : wpAnyD P md ops Q F d (fuel + 1) listed a w := by
  simp only [Bool.and_eq_true] at hs
  obtain ⟨⟨⟨h1, h2⟩, h3⟩, h4⟩ := hs
  exact wpAnyD_first hi (Region.noSelect_spec h1) hQ (waits_spec h4 (Array.getElem?_eq_some_iff.1 hi).1) fuel listed a w (Region.free_spec hi h2) (by simpa using h3) (.inr ⟨hy, rfl⟩) hS h
/-- the one that may come up -/
theorem rg_one {i : Nat} {oi : Oper} {fuel : Nat} {listed : Array Bool} {a : Act} {w : World} (hi : ops[i]? = some oi) (hr : (Region.ready md ops listed == [i]) = true) (hy : Region.wanted oi (yielded ops a.tmps) = true)
    (h : ∀ K : Act → World → Prop, (∀ a w, (i ≠ d → F w) → wpAnyD P md ops Q F d fuel (listed.setIfInBounds i true) a w → K a w) → Oper.wp P oi a w K Q) : wpAnyD P md ops Q F d (fuel + 1) listed a w := by
  have hr' : Region.ready md ops listed = [i] := by simpa using hr
  refine ⟨fun h0 => (by rw [hr'] at h0; cases h0), fun j hj => ?_⟩
  rw [hr'] at hj
  obtain rfl : j = i := by simpa using hj
  unfold wpOp
  simp only [hi, hy, if_true]
  exact .inl (h _ fun a w h1 h2 => ⟨h1, h2⟩)
theorem rg_use {i d : Nat} {F : World → Prop} {X K : Act → World → Prop} {a : Act} {w : World} (hK : ∀ a w, (i ≠ d → F w) → X a w → K a w) (hF : F w) (h : F w → X a w) : K a w := hK a w (fun _ => hF) (h hF)
/-- all have come up -/
theorem rg_done {listed : Array Bool} {a : Act} {w : World} {fuel : Nat} (hr : (Region.ready md ops listed).isEmpty = true) (h : Q .normal a w) : wpAnyD P md ops Q F d fuel listed a w := by
  have hr' : Region.ready md ops listed = [] := by simpa using hr
  cases fuel with
  | zero => exact ⟨hr', h⟩
  | succ n => exact ⟨fun _ => h, by rw [hr']; simp⟩
end
end Go.Proofs.YtaipbikbapjmjaaGreat

/- replies.look by contract. No condition beyond what each theorem states. -/
namespace Go.Proofs.YtaipbikbapjmjaaGreat
open Go Go.RowKit Go.PlainAid

def pcV (x : CV) : Pc := ⟨x.1, x.2.1, x.2.2.map Prod.fst⟩
/-- the stamp of a place -/
def SvP (w : World) (P : Nat → Prop) (y : Sl × Value) : Prop := w.ownsRow 0 3 1 y.2 y.1.msg.stamp.length (ints y.1.msg.stamp) ∧ (∀ k, y.2.ownBlock = some k → P k) ∧ y.1.msg.stamp.length ≤ 4
/-- replies in memory: their block; P: where their stamps lie -/
def RpB (w : World) (b : Nat) (P : Nat → Prop) (ps : List Pc) : Prop :=
  ∃ cs : List CV, cs.length = 8 ∧ (∀ x ∈ cs, x.2.2.length = 8) ∧ ps = cs.map pcV ∧ Bk w b 69 (rpC cs) ∧ ∀ x ∈ cs, ∀ y ∈ x.2.2, SvP w P y
theorem SvP.kp {w w' : World} {P : Nat → Prop} {y : Sl × Value} {M : Nat → Prop} (h : SvP w P y) (hk : Kp M w w') (hm : ∀ k cs, Bk w k 3 cs → P k → ¬ M k) : SvP w' P y :=
  ⟨own_kp h.1 hk fun g e => by
    obtain ⟨cs, hb⟩ := own_bk h.1 g e
    exact hm g cs hb (h.2.1 g e), h.2⟩
theorem SvP.mono {w : World} {P Q : Nat → Prop} {y : Sl × Value} (h : SvP w P y) (hq : ∀ k, P k → Q k) : SvP w Q y := ⟨h.1, fun k e => hq k (h.2.1 k e), h.2.2⟩
theorem SvP.none (w : World) (P : Nat → Prop) : SvP w P ({}, .slice none 0 0) := ⟨nil_own _ _ _ _, fun k e => by simp [Value.ownBlock] at e, Nat.zero_le _⟩
theorem RpB.kp {w w' : World} {b : Nat} {P : Nat → Prop} {ps : List Pc} {M : Nat → Prop} (h : RpB w b P ps) (hk : Kp M w w') (hb : ¬ M b) (hm : ∀ k cs, Bk w k 3 cs → P k → ¬ M k) : RpB w' b P ps := by
  obtain ⟨cs, h1, h2, h3, h4, h5⟩ := h
  exact ⟨cs, h1, h2, h3, h4.kp hk hb, fun x hx y hy => (h5 x hx y hy).kp hk hm⟩
theorem RpB.no {w w' : World} {b : Nat} {P : Nat → Prop} {ps : List Pc} (h : RpB w b P ps) (hk : Kp No w w') : RpB w' b P ps := h.kp hk (fun m => m) fun _ _ _ _ m => m
theorem RpB.mono {w : World} {b : Nat} {P Q : Nat → Prop} {ps : List Pc} (h : RpB w b P ps) (hq : ∀ k, P k → Q k) : RpB w b Q ps := by
  obtain ⟨cs, h1, h2, h3, h4, h5⟩ := h
  exact ⟨cs, h1, h2, h3, h4, fun x hx y hy => (h5 x hx y hy).mono hq⟩
theorem turnS_low {p p' : Pc} {m : Msg} (h : turnS p m = some p') : m.low ≤ p'.low := by
  unfold turnS at h
  by_cases h1 : m.boot < p.boot
  · rw [if_pos h1] at h; cases h
  · rw [if_neg h1] at h
    by_cases h2 : p.boot < m.boot
    · rw [if_pos h2] at h; injection h with h; subst h; show m.low ≤ max 1 m.low; omega
    · rw [if_neg h2] at h
      by_cases h3 : max p.low m.low = p.low
      · rw [if_pos h3] at h; injection h with h; subst h; omega
      · rw [if_neg h3] at h; injection h with h; subst h; show m.low ≤ max p.low m.low; omega
/-- a place of a client -/
def offS (f j : Nat) : Nat := f * 138 + 2 + j * 17
def LookR (W : World) (b : Nat) (P : Nat → Prop) (ps : List Pc) (m : Msg) (e : Ending) (w' : World) : Prop :=
  RpB w' b P (lookP ps m).1 ∧ Kp (One b) W w' ∧ e = .returned (.tuple #[.int .i64 (lookP ps m).2, .pointer (if (lookP ps m).2 = 1 then none else some ⟨b, offS m.from_.toNat (m.seq % 8).toNat, none⟩)])
/-- a client behind its turn -/
def TurnA (b : Nat) (p q : List Value) (l : List (Sl × Value)) (p' : Pc) (W w' : World) : Prop :=
  ∃ l', l'.map Prod.fst = p'.slots ∧ l'.length = 8 ∧ (∀ y ∈ l', y ∈ l ∨ y = ({}, .slice none 0 0)) ∧ Bk w' b 69 (p ++ (clC p'.boot p'.low l' ++ q)) ∧ Kp (One b) W w'
theorem TurnA.low {b f : Nat} {p q : List Value} {l : List (Sl × Value)} {p' : Pc} {W w' : World} (h : TurnA b p q l p' W w') (hp : p.length = f * 138) : w'.cell? ⟨b, f * 138 + 1, none⟩ = some (.int .i64 p'.low) := by
  obtain ⟨l', _, _, _, hb, _⟩ := h
  exact hb.mid hp 1 _ rfl
theorem TurnA.slot {b f j : Nat} {p q : List Value} {l : List (Sl × Value)} {p' : Pc} {W w' : World} (h : TurnA b p q l p' W w') (hp : p.length = f * 138) (hj : j < 8) : w'.cell? ⟨b, f * 138 + 2 + j * 17, none⟩ = some (.int .i64 (p'.slots.getD j {}).seq) := by
  obtain ⟨l', hl, h8, _, hb, _⟩ := h
  have hjl : j < l'.length := by omega
  rw [clC_split p q p'.boot p'.low l' j hjl] at hb
  have := hb.mid (clC_pre p p'.boot p'.low l' j (f * 138) hjl hp) 0 _ rfl
  rw [Nat.add_zero] at this
  rw [this, ← hl, List.getD_eq_getElem?_getD, List.getElem?_map, List.getElem?_eq_getElem hjl]
  rfl
theorem TurnA.rp {b f : Nat} {P : Nat → Prop} {cs : List CV} {p' : Pc} {W w' : World} (hc : cs.length = 8) (h2 : ∀ x ∈ cs, x.2.2.length = 8) (h4 : Bk W b 69 (rpC cs)) (h5 : ∀ x ∈ cs, ∀ y ∈ x.2.2, SvP W P y) (hf : f < cs.length)
    (h : TurnA b (rpC (cs.take f)) (rpC (cs.drop (f + 1))) (cs[f]).2.2 p' W w') : RpB w' b P ((cs.map pcV).set f p') := by
  obtain ⟨l', hl, h8, hm, hb, hk⟩ := h
  refine ⟨cs.set f (p'.boot, p'.low, l'), by simp [hc], fun x hx => ?_, ?_, ?_, fun x hx y hy => ?_⟩
  · rcases List.mem_or_eq_of_mem_set hx with h | rfl
    · exact h2 x h
    · exact h8
  · rw [List.map_set]
    congr 1
    unfold pcV
    rw [hl]
  · rw [rpC_set cs f hf]; exact hb
  · have ho : ∀ y, SvP W P y → SvP w' P y := fun y hy => hy.kp hk fun k cs' hb' _ hm' => by
      have hm' : k = b := hm'
      subst hm'
      exact hb'.ne_ h4 (by decide) rfl
    rcases List.mem_or_eq_of_mem_set hx with h | rfl
    · exact ho y (h5 x h y hy)
    · rcases hm y hy with h | rfl
      · exact ho y (h5 _ (List.getElem_mem hf) y h)
      · exact SvP.none _ _
theorem look_nil (m : Msg) (sv : Value) (W : World) : Calls Tryz.prog 22 #[.pointer none, .agg (mcells m sv).toArray] W fun e w' => e = .returned (.tuple #[.int .i64 1, .pointer none]) ∧ Kp No W w' := by
  have HK := Lib.hid ((Kp.refl No W).alloc (.cells (mcells m sv).toArray 32))
  unfold mcells at HK ⊢
  go_enter Tryz.func22, Tryz.ntmps22
  go_wp2
  go_ret2
  exact ⟨rfl, HK.out⟩
set_option maxRecDepth 100000 in
set_option maxHeartbeats 8000000 in
theorem look_any (b : Nat) (P : Nat → Prop) (ps : List Pc) (m : Msg) (sv : Value) (W : World) (hr : RpB W b P ps) (hs : SlI W sv m.stamp) (hg : Rng m) (hsh : Short maxLen m) :
    Calls Tryz.prog 22 #[.pointer (some ⟨b, 0, none⟩), .agg (mcells m sv).toArray] W (LookR W b P ps m) := by
  obtain ⟨A, c, rfl, _⟩ : ∃ A c, sv = .slice A m.stamp.length c ∧ m.stamp.length ≤ c := by obtain ⟨A, c, e, hc, _⟩ := hs; exact ⟨A, c, e, hc⟩
  have kA : Kp No W (W.alloc (.cells (mcells m (.slice A m.stamp.length c)).toArray 32)) := (Kp.refl No W).alloc _
  have pv : ∀ W2, Kp No (W.alloc (.cells (mcells m (.slice A m.stamp.length c)).toArray 32)) W2 → Calls Tryz.prog 21 #[.agg (mcells m (.slice A m.stamp.length c)).toArray] W2 fun e w' => e = .returned (.bool (decide (mayS vpP m))) ∧ Kp No (W.alloc (.cells (mcells m (.slice A m.stamp.length c)).toArray 32)) w' := fun W2 k =>
    (valid10_any m _ W2 (hs.no (kA.trans k)) hg hsh).mono fun e w' h => ⟨h.1, k.trans h.2⟩
  have PV := Lib.hid pv
  have HRP := Lib.hid hr
  have HM := Lib.hid (show Bk (W.alloc (.cells (mcells m (.slice A m.stamp.length c)).toArray 32)) W.heap.size 32 (mcells m (.slice A m.stamp.length c)) from Bk.new' rfl rfl)
  have HKA := Lib.hid kA
  by_cases hk : m.kind = 1
  · by_cases hv : mayS vpP m
    · obtain ⟨g1, g2, g3, g4, g5⟩ := may_ask hv hk
      unfold nodeI at g1
      unfold cntI at g3
      obtain ⟨f, hf⟩ := Int.eq_ofNat_of_zero_le g1.1
      obtain ⟨j, hj⟩ : ∃ j : Nat, m.seq % 8 = j := ⟨(m.seq % 8).toNat, by omega⟩
      have hf8 : f < 8 := by omega
      have hj8 : j < 8 := by omega
      obtain ⟨cs, h1, h2, h3, h4, h5⟩ := hr
      have hfl : f < cs.length := by omega
      have hgd : ps.getD m.from_.toNat {} = pcV cs[f] := by
        rw [h3, hf, Int.toNat_natCast, List.getD_eq_getElem?_getD, List.getElem?_map, List.getElem?_eq_getElem hfl]; rfl
      have hpl : (rpC (cs.take f)).length = f * 138 := by
        rw [rpC_len _ fun x hx => h2 x (List.mem_of_mem_take hx), List.length_take]; omega
      have pt0 : ∀ W2, Kp No (W.alloc (.cells (mcells m (.slice A m.stamp.length c)).toArray 32)) W2 → Calls Tryz.prog 36 #[.pointer (some ⟨b, f * 138, none⟩), .agg (mcells m (.slice A m.stamp.length c)).toArray] W2 (TurnR b 69 (rpC (cs.take f)) (rpC (cs.drop (f + 1))) (cs[f]).1 (cs[f]).2.1 (cs[f]).2.2 m W2) := fun W2 k =>
        turn_any b (f * 138) _ _ _ _ _ _ m A c W2 (h2 _ (List.getElem_mem hfl)) (by have := (h4.no kA).no k; rw [rpC_split cs f hfl] at this; exact this) hpl
      have pv := PV.out
      have dv : decide (mayS vpP m) = true := decide_eq_true hv
      rw [dv] at pv
      have hk1 : (m.kind != 1) = false := by simp [hk]
      have hfi0 : (0 : Int) ≤ (f : Int) := by omega
      have hfi1 : (f : Int) < 8 := by omega
      have hs0 : 0 ≤ m.seq := by omega
      have hs1 : m.seq ≤ 1099511627776 := g3.2
      have HBN := Lib.hid (show ¬ One b W.heap.size from fun e => by have e : W.heap.size = b := e; have := h4.lt; omega)
      have HLO := Lib.hid g4
      cases hT : turnS (pcV cs[f]) m with
      | none =>
        have HL := Lib.hid (show lookP ps m = (ps, 1) by unfold lookP; rw [if_pos ⟨hk, hv⟩, hgd, hT])
        have pt2 : ∀ W2, Kp No (W.alloc (.cells (mcells m (.slice A m.stamp.length c)).toArray 32)) W2 → Calls Tryz.prog 36 #[.pointer (some ⟨b, f * 138, none⟩), .agg (mcells m (.slice A m.stamp.length c)).toArray] W2 fun e w' => e = .returned (.bool false) ∧ Kp No W2 w' := fun W2 k => (pt0 W2 k).mono fun e w' h => by
          rcases h with ⟨_, h6, h7⟩ | ⟨p', l', h6, _⟩
          · exact ⟨h6, h7⟩
          · have h6 : turnS (pcV cs[f]) m = some p' := h6
            rw [hT] at h6; cases h6
        have HF := Lib.hid hf
        have hm0 := HM.out
        clear pt0 hs hv dv kA PV h1 h2 h3 h4 h5 hgd hpl g1 g2 g3 g4 g5 hT HM hfl
        unfold mcells at pv pt2 hm0 HKA ⊢
        rw [hk, hf] at pv pt2 hm0 HKA ⊢
        clear hk hf
        have HM0 := Lib.hid hm0; clear hm0
        have PT2 := Lib.hid pt2; clear pt2
        go_enter Tryz.func22, Tryz.ntmps22
        go_wp2_with (go_at_call 21; (with_reducible refine (pv _ (Kp.refl _ _)).mono ?_); rintro e w1 ⟨rfl, k1⟩)
        have hm1 := HM0.out.no k1
        have pt := fun W2 (k : Kp No w1 W2) => PT2.out W2 (k1.trans k)
        have HK1 := Lib.hid (HKA.out.trans k1)
        clear HM0 HKA PT2 k1 pv
        have z0 : w1.cell? ⟨W.heap.size, 0, none⟩ = some (.int .i64 1) := hm1.cell 0
        have z1 : w1.cell? ⟨W.heap.size, 1, none⟩ = some (.int .i64 f) := hm1.cell 1
        have z2 : w1.cell? ⟨W.heap.size, 2, none⟩ = some (.int .i64 m.dest) := hm1.cell 2
        have z3 : w1.cell? ⟨W.heap.size, 3, none⟩ = some (.int .i64 m.boot) := hm1.cell 3
        have z4 : w1.cell? ⟨W.heap.size, 4, none⟩ = some (.int .i64 m.seq) := hm1.cell 4
        have z5 : w1.cell? ⟨W.heap.size, 5, none⟩ = some (.int .i64 m.low) := hm1.cell 5
        have z6 : w1.cell? ⟨W.heap.size, 6, none⟩ = some (.int .i64 m.verb) := hm1.cell 6
        have z7 : w1.cell? ⟨W.heap.size, 7, none⟩ = some (.string ⟨m.path.toArray⟩) := hm1.cell 7
        have z8 : w1.cell? ⟨W.heap.size, 8, none⟩ = some (.int .i64 m.mode) := hm1.cell 8
        have z9 : w1.cell? ⟨W.heap.size, 9, none⟩ = some (.int .i64 m.term) := hm1.cell 9
        have z10 : w1.cell? ⟨W.heap.size, 10, none⟩ = some (.int .i64 m.id) := hm1.cell 10
        have z11 : w1.cell? ⟨W.heap.size, 11, none⟩ = some (.bool m.fresh) := hm1.cell 11
        have z12 : w1.cell? ⟨W.heap.size, 12, none⟩ = some (.int .i64 m.code) := hm1.cell 12
        have z13 : w1.cell? ⟨W.heap.size, 13, none⟩ = some (.slice A m.stamp.length c) := hm1.cell 13
        have z14 : w1.cell? ⟨W.heap.size, 14, none⟩ = some (.int .i64 m.origin) := hm1.cell 14
        have z15 : w1.cell? ⟨W.heap.size, 15, none⟩ = some (.int .i64 m.number) := hm1.cell 15
        have HM1 := Lib.hid hm1
        clear hm1
        go_wp2
        go_region
        go_wp2
        clear z0 z1 z2 z3 z4 z5 z6 z7 z8 z9 z10 z11 z12 z13 z14 z15
        have hF : Kp (One b) w1 w1.drew.drew := (Kp.refl _ _).drew.drew
        refine rg_begin (fun W2 => Kp (One b) w1 W2) 25 (by kernel_rfl) ?_
        refine rg_take (i := 0) (v := ?vn0) (by simp only [List.getElem?_toArray, List.getElem?_cons_zero]; rfl) (by kernel_rfl) (by exact fun _ _ _ h => h) (by rfl) ?rn0 hF ?sn0
        case rn0 => (intro W hW; clear hW; go_simp; try with_reducible rfl)
        try simp only [Act.put, List.setIfInBounds_toArray, List.set_cons_zero, List.set_cons_succ]
        refine rg_take (i := 1) (v := ?vn1) (by simp only [List.getElem?_toArray, List.getElem?_cons_succ, List.getElem?_cons_zero]; rfl) (by kernel_rfl) (by exact fun _ _ _ h => h) (by rfl) ?rn1 hF ?sn1
        case rn1 => (intro W9 hW; refine exec_load_mid W9 32 (.tmp 3) ?_ W.heap.size 0 ?_ [.int .i64 1, .int .i64 f, .int .i64 m.dest, .int .i64 m.boot, .int .i64 m.seq, .int .i64 m.low, .int .i64 m.verb, .string ⟨m.path.toArray⟩, .int .i64 m.mode, .int .i64 m.term, .int .i64 m.id, .bool m.fresh, .int .i64 m.code, .slice A m.stamp.length c, .int .i64 m.origin, .int .i64 m.number] _ (range_of (HM1.out.kp hW HBN.out)) Tryz.underlying32 ?_ (by kernel_rfl); exact rfl; exact rfl; exact rfl)
        try simp only [Act.put, List.setIfInBounds_toArray, List.set_cons_zero, List.set_cons_succ]
        refine rg_one (i := 2) (oi := ?on2) ?an2 ?bn2 ?cn2 ?dn2
        case an2 => (simp only [List.getElem?_toArray, List.getElem?_cons_succ, List.getElem?_cons_zero]; rfl)
        case bn2 => kernel_rfl
        case cn2 => rfl
        intro K hK
        (go_simp; refine (pt _ (Kp.refl No w1).drew.drew).mono ?_); rintro e w2 ⟨rfl, h2⟩; have h2K : Kp (One b) w1 w2 := ((Kp.refl No w1).drew.drew.trans h2).of_no; have KN := Lib.hid ((Kp.refl No w1).drew.drew.trans h2); clear h2 pt hF
        refine rg_use hK (h2K) (fun hF => ?_)
        clear hK K
        try simp only [Act.put, List.setIfInBounds_toArray, List.set_cons_zero, List.set_cons_succ]
        refine rg_take (i := 3) (v := ?vn3) (by simp only [List.getElem?_toArray, List.getElem?_cons_succ, List.getElem?_cons_zero]; rfl) (by kernel_rfl) (by exact fun _ _ _ h => h) (by rfl) ?rn3 hF ?sn3
        case rn3 => (intro W hW; clear hW; go_simp; try with_reducible rfl)
        try simp only [Act.put, List.setIfInBounds_toArray, List.set_cons_zero, List.set_cons_succ]
        refine rg_take (i := 4) (v := ?vn4) (by simp only [List.getElem?_toArray, List.getElem?_cons_succ, List.getElem?_cons_zero]; rfl) (by kernel_rfl) (by exact fun _ _ _ h => h) (by rfl) ?rn4 hF ?sn4
        case rn4 => (intro W hW; clear hW; go_simp; try with_reducible rfl)
        try simp only [Act.put, List.setIfInBounds_toArray, List.set_cons_zero, List.set_cons_succ]
        refine rg_pass (i := 5) (by simp only [List.getElem?_toArray, List.getElem?_cons_succ, List.getElem?_cons_zero]; rfl) (by kernel_rfl) (by exact fun _ _ _ h => h) (by rfl) hF ?_
        try simp only [Act.put, List.setIfInBounds_toArray, List.set_cons_zero, List.set_cons_succ]
        refine rg_pass (i := 6) (by simp only [List.getElem?_toArray, List.getElem?_cons_succ, List.getElem?_cons_zero]; rfl) (by kernel_rfl) (by exact fun _ _ _ h => h) (by rfl) hF ?_
        try simp only [Act.put, List.setIfInBounds_toArray, List.set_cons_zero, List.set_cons_succ]
        refine rg_pass (i := 7) (by simp only [List.getElem?_toArray, List.getElem?_cons_succ, List.getElem?_cons_zero]; rfl) (by kernel_rfl) (by exact fun _ _ _ h => h) (by rfl) hF ?_
        try simp only [Act.put, List.setIfInBounds_toArray, List.set_cons_zero, List.set_cons_succ]
        refine rg_pass (i := 8) (by simp only [List.getElem?_toArray, List.getElem?_cons_succ, List.getElem?_cons_zero]; rfl) (by kernel_rfl) (by exact fun _ _ _ h => h) (by rfl) hF ?_
        try simp only [Act.put, List.setIfInBounds_toArray, List.set_cons_zero, List.set_cons_succ]
        refine rg_pass (i := 9) (by simp only [List.getElem?_toArray, List.getElem?_cons_succ, List.getElem?_cons_zero]; rfl) (by kernel_rfl) (by exact fun _ _ _ h => h) (by rfl) hF ?_
        try simp only [Act.put, List.setIfInBounds_toArray, List.set_cons_zero, List.set_cons_succ]
        refine rg_pass (i := 10) (by simp only [List.getElem?_toArray, List.getElem?_cons_succ, List.getElem?_cons_zero]; rfl) (by kernel_rfl) (by exact fun _ _ _ h => h) (by rfl) hF ?_
        try simp only [Act.put, List.setIfInBounds_toArray, List.set_cons_zero, List.set_cons_succ]
        refine rg_pass (i := 11) (by simp only [List.getElem?_toArray, List.getElem?_cons_succ, List.getElem?_cons_zero]; rfl) (by kernel_rfl) (by exact fun _ _ _ h => h) (by rfl) hF ?_
        try simp only [Act.put, List.setIfInBounds_toArray, List.set_cons_zero, List.set_cons_succ]
        refine rg_pass (i := 12) (by simp only [List.getElem?_toArray, List.getElem?_cons_succ, List.getElem?_cons_zero]; rfl) (by kernel_rfl) (by exact fun _ _ _ h => h) (by rfl) hF ?_
        try simp only [Act.put, List.setIfInBounds_toArray, List.set_cons_zero, List.set_cons_succ]
        refine rg_take (i := 13) (v := ?vn13) (by simp only [List.getElem?_toArray, List.getElem?_cons_succ, List.getElem?_cons_zero]; rfl) (by kernel_rfl) (by exact fun _ _ _ h => h) (by rfl) ?rn13 hF ?sn13
        case rn13 => (intro W hW; clear hW; go_simp; try with_reducible rfl)
        try simp only [Act.put, List.setIfInBounds_toArray, List.set_cons_zero, List.set_cons_succ]
        refine rg_take (i := 14) (v := ?vn14) (by simp only [List.getElem?_toArray, List.getElem?_cons_succ, List.getElem?_cons_zero]; rfl) (by kernel_rfl) (by exact fun _ _ _ h => h) (by rfl) ?rn14 hF ?sn14
        case rn14 => (intro W hW; clear hW; go_simp; try with_reducible rfl)
        try simp only [Act.put, List.setIfInBounds_toArray, List.set_cons_zero, List.set_cons_succ]
        refine rg_pass (i := 15) (by simp only [List.getElem?_toArray, List.getElem?_cons_succ, List.getElem?_cons_zero]; rfl) (by kernel_rfl) (by exact fun _ _ _ h => h) (by rfl) hF ?_
        try simp only [Act.put, List.setIfInBounds_toArray, List.set_cons_zero, List.set_cons_succ]
        refine rg_pass (i := 16) (by simp only [List.getElem?_toArray, List.getElem?_cons_succ, List.getElem?_cons_zero]; rfl) (by kernel_rfl) (by exact fun _ _ _ h => h) (by rfl) hF ?_
        try simp only [Act.put, List.setIfInBounds_toArray, List.set_cons_zero, List.set_cons_succ]
        refine rg_pass (i := 17) (by simp only [List.getElem?_toArray, List.getElem?_cons_succ, List.getElem?_cons_zero]; rfl) (by kernel_rfl) (by exact fun _ _ _ h => h) (by rfl) hF ?_
        try simp only [Act.put, List.setIfInBounds_toArray, List.set_cons_zero, List.set_cons_succ]
        refine rg_pass (i := 18) (by simp only [List.getElem?_toArray, List.getElem?_cons_succ, List.getElem?_cons_zero]; rfl) (by kernel_rfl) (by exact fun _ _ _ h => h) (by rfl) hF ?_
        try simp only [Act.put, List.setIfInBounds_toArray, List.set_cons_zero, List.set_cons_succ]
        refine rg_pass (i := 19) (by simp only [List.getElem?_toArray, List.getElem?_cons_succ, List.getElem?_cons_zero]; rfl) (by kernel_rfl) (by exact fun _ _ _ h => h) (by rfl) hF ?_
        try simp only [Act.put, List.setIfInBounds_toArray, List.set_cons_zero, List.set_cons_succ]
        refine rg_pass (i := 20) (by simp only [List.getElem?_toArray, List.getElem?_cons_succ, List.getElem?_cons_zero]; rfl) (by kernel_rfl) (by exact fun _ _ _ h => h) (by rfl) hF ?_
        try simp only [Act.put, List.setIfInBounds_toArray, List.set_cons_zero, List.set_cons_succ]
        refine rg_pass (i := 21) (by simp only [List.getElem?_toArray, List.getElem?_cons_succ, List.getElem?_cons_zero]; rfl) (by kernel_rfl) (by exact fun _ _ _ h => h) (by rfl) hF ?_
        try simp only [Act.put, List.setIfInBounds_toArray, List.set_cons_zero, List.set_cons_succ]
        refine rg_pass (i := 22) (by simp only [List.getElem?_toArray, List.getElem?_cons_succ, List.getElem?_cons_zero]; rfl) (by kernel_rfl) (by exact fun _ _ _ h => h) (by rfl) hF ?_
        try simp only [Act.put, List.setIfInBounds_toArray, List.set_cons_zero, List.set_cons_succ]
        refine rg_pass (i := 23) (by simp only [List.getElem?_toArray, List.getElem?_cons_succ, List.getElem?_cons_zero]; rfl) (by kernel_rfl) (by exact fun _ _ _ h => h) (by rfl) hF ?_
        try simp only [Act.put, List.setIfInBounds_toArray, List.set_cons_zero, List.set_cons_succ]
        refine rg_take (i := 24) (v := ?vn24) (by simp only [List.getElem?_toArray, List.getElem?_cons_succ, List.getElem?_cons_zero]; rfl) (by kernel_rfl) (by exact fun _ _ _ h => h) (by rfl) ?rn24 hF ?sn24
        case rn24 => (intro W hW; clear hW; go_simp; try with_reducible rfl)
        try simp only [Act.put, List.setIfInBounds_toArray, List.set_cons_zero, List.set_cons_succ]
        refine rg_done (by kernel_rfl) ?_
        have HK2 := Lib.hid hF
        clear hF
        go_wp2
        go_ret2
        unfold LookR
        rw [HL.out]
        exact ⟨HRP.out.no (HK1.out.trans KN.out), (HK1.out.trans KN.out).of_no, rfl⟩
      | some p' =>
        have HX := Lib.hid (show lookP ps m = (ps.set f p', verdP p' m) by unfold lookP; rw [if_pos ⟨hk, hv⟩, hgd, hT, hf]; rfl)
        have pt2 : ∀ W2, Kp No (W.alloc (.cells (mcells m (.slice A m.stamp.length c)).toArray 32)) W2 → Calls Tryz.prog 36 #[.pointer (some ⟨b, f * 138, none⟩), .agg (mcells m (.slice A m.stamp.length c)).toArray] W2 fun e w' => e = .returned (.bool true) ∧ TurnA b (rpC (cs.take f)) (rpC (cs.drop (f + 1))) (cs[f]).2.2 p' W2 w' := fun W2 k => (pt0 W2 k).mono fun e w' h => by
          rcases h with ⟨h6, _⟩ | ⟨p2, l', h6, h7, h8, h9, h10, h11, h12⟩
          · have h6 : turnS (pcV cs[f]) m = none := h6
            rw [hT] at h6; cases h6
          · have h6 : turnS (pcV cs[f]) m = some p2 := h6
            rw [hT] at h6
            injection h6 with h6
            subst h6
            exact ⟨h10, l', h7, h8, h9, h11, h12⟩
        have hlow := turnS_low hT
        have HF := Lib.hid hf
        have hm0 := HM.out
        have HB4 := Lib.hid (h4.no kA)
        have HRA := Lib.hid (show ∀ W2 w', Kp No W W2 → TurnA b (rpC (cs.take f)) (rpC (cs.drop (f + 1))) (cs[f]).2.2 p' W2 w' → RpB w' b P (ps.set f p') from fun W2 w' k h => by
          rw [h3]
          exact TurnA.rp h1 h2 (h4.no k) (fun x hx y hy => (h5 x hx y hy).kp k fun _ _ _ _ m => m) hfl h)
        have HPL := Lib.hid hpl
        obtain ⟨lo, hlo⟩ : ∃ lo, lo = p'.low := ⟨_, rfl⟩
        have HLOW := Lib.hid hlo
        rw [← hlo] at hlow
        clear pt0 hs hv dv kA PV h1 h2 h3 h4 h5 hgd g2 hT HM hlo
        unfold mcells at pv pt2 hm0 HKA HB4 ⊢
        rw [hk, hf] at pv pt2 hm0 HKA HB4 ⊢
        clear hk hf
        have HM0 := Lib.hid hm0; clear hm0
        have PT2 := Lib.hid pt2; clear pt2
        obtain ⟨LL, hLL⟩ : ∃ L, L = (cs[f]).2.2 := ⟨_, rfl⟩
        rw [← hLL] at PT2 HRA
        clear hLL hfl
        generalize rpC (cs.take f) = RP at *
        generalize rpC (cs.drop (f + 1)) = RQ at *
        have HSB : Hid (m.seq < lo ∨ ¬ m.seq < lo ∧ 8 ≤ m.seq - lo ∨ ¬ m.seq < lo ∧ ¬ 8 ≤ m.seq - lo) := Lib.hid (by omega)
        have hlo1 : 1 ≤ lo := by omega
        clear g1 g3 g4 g5 hlow hpl
        rcases HSB.out with c1 | ⟨c1, c2⟩ | ⟨c1, c2⟩
        · have HL := Lib.hid (show verdP p' m = 1 by unfold verdP; rw [← HLOW.out, if_pos (.inl c1)])
          clear hj hj8
          go_enter Tryz.func22, Tryz.ntmps22
          go_wp2_with (go_at_call 21; (with_reducible refine (pv _ (Kp.refl _ _)).mono ?_); rintro e w1 ⟨rfl, k1⟩)
          have hm1 := HM0.out.no k1
          have pt := fun W2 (k : Kp No w1 W2) => PT2.out W2 (k1.trans k)
          have HK1 := Lib.hid (HKA.out.trans k1)
          clear HM0 HKA PT2 k1 pv
          have z0 : w1.cell? ⟨W.heap.size, 0, none⟩ = some (.int .i64 1) := hm1.cell 0
          have z1 : w1.cell? ⟨W.heap.size, 1, none⟩ = some (.int .i64 f) := hm1.cell 1
          have z2 : w1.cell? ⟨W.heap.size, 2, none⟩ = some (.int .i64 m.dest) := hm1.cell 2
          have z3 : w1.cell? ⟨W.heap.size, 3, none⟩ = some (.int .i64 m.boot) := hm1.cell 3
          have z4 : w1.cell? ⟨W.heap.size, 4, none⟩ = some (.int .i64 m.seq) := hm1.cell 4
          have z5 : w1.cell? ⟨W.heap.size, 5, none⟩ = some (.int .i64 m.low) := hm1.cell 5
          have z6 : w1.cell? ⟨W.heap.size, 6, none⟩ = some (.int .i64 m.verb) := hm1.cell 6
          have z7 : w1.cell? ⟨W.heap.size, 7, none⟩ = some (.string ⟨m.path.toArray⟩) := hm1.cell 7
          have z8 : w1.cell? ⟨W.heap.size, 8, none⟩ = some (.int .i64 m.mode) := hm1.cell 8
          have z9 : w1.cell? ⟨W.heap.size, 9, none⟩ = some (.int .i64 m.term) := hm1.cell 9
          have z10 : w1.cell? ⟨W.heap.size, 10, none⟩ = some (.int .i64 m.id) := hm1.cell 10
          have z11 : w1.cell? ⟨W.heap.size, 11, none⟩ = some (.bool m.fresh) := hm1.cell 11
          have z12 : w1.cell? ⟨W.heap.size, 12, none⟩ = some (.int .i64 m.code) := hm1.cell 12
          have z13 : w1.cell? ⟨W.heap.size, 13, none⟩ = some (.slice A m.stamp.length c) := hm1.cell 13
          have z14 : w1.cell? ⟨W.heap.size, 14, none⟩ = some (.int .i64 m.origin) := hm1.cell 14
          have z15 : w1.cell? ⟨W.heap.size, 15, none⟩ = some (.int .i64 m.number) := hm1.cell 15
          have HM1 := Lib.hid hm1
          clear hm1
          go_wp2
          go_region
          go_wp2
          clear z0 z1 z2 z3 z4 z5 z6 z7 z8 z9 z10 z11 z12 z13 z14 z15
          have hF : Kp (One b) w1 w1.drew.drew := (Kp.refl _ _).drew.drew
          refine rg_begin (fun W2 => Kp (One b) w1 W2) 25 (by kernel_rfl) ?_
          refine rg_take (i := 0) (v := ?va0) (by simp only [List.getElem?_toArray, List.getElem?_cons_zero]; rfl) (by kernel_rfl) (by exact fun _ _ _ h => h) (by rfl) ?ra0 hF ?sa0
          case ra0 => (intro W hW; clear hW; go_simp; try with_reducible rfl)
          try simp only [Act.put, List.setIfInBounds_toArray, List.set_cons_zero, List.set_cons_succ]
          refine rg_take (i := 1) (v := ?va1) (by simp only [List.getElem?_toArray, List.getElem?_cons_succ, List.getElem?_cons_zero]; rfl) (by kernel_rfl) (by exact fun _ _ _ h => h) (by rfl) ?ra1 hF ?sa1
          case ra1 => (intro W9 hW; refine exec_load_mid W9 32 (.tmp 3) ?_ W.heap.size 0 ?_ [.int .i64 1, .int .i64 f, .int .i64 m.dest, .int .i64 m.boot, .int .i64 m.seq, .int .i64 m.low, .int .i64 m.verb, .string ⟨m.path.toArray⟩, .int .i64 m.mode, .int .i64 m.term, .int .i64 m.id, .bool m.fresh, .int .i64 m.code, .slice A m.stamp.length c, .int .i64 m.origin, .int .i64 m.number] _ (range_of (HM1.out.kp hW HBN.out)) Tryz.underlying32 ?_ (by kernel_rfl); exact rfl; exact rfl; exact rfl)
          try simp only [Act.put, List.setIfInBounds_toArray, List.set_cons_zero, List.set_cons_succ]
          refine rg_one (i := 2) (oi := ?oa2) ?aa2 ?ba2 ?ca2 ?da2
          case aa2 => (simp only [List.getElem?_toArray, List.getElem?_cons_succ, List.getElem?_cons_zero]; rfl)
          case ba2 => kernel_rfl
          case ca2 => rfl
          intro K hK
          (go_simp; refine (pt _ (Kp.refl No w1).drew.drew).mono ?_); rintro e w2 ⟨rfl, h2⟩; have h2K : Kp (One b) w1 w2 := (by obtain ⟨_, _, _, _, _, k⟩ := h2; exact (Kp.refl (One b) w1).drew.drew.trans k); have HRP2 := Lib.hid (HRA.out _ _ (HK1.out.trans (Kp.refl No w1).drew.drew) h2); have HK3 := Lib.hid (HK1.out.of_no.trans h2K); have lw : w2.cell? ⟨b, f * 138 + 1, none⟩ = some (.int .i64 lo) := (by rw [HLOW.out]; exact h2.low HPL.out); have HM2 := Lib.hid (HM1.out.kp h2K HBN.out); clear h2 pt hF
          refine rg_use hK (h2K) (fun hF => ?_)
          clear hK K
          try simp only [Act.put, List.setIfInBounds_toArray, List.set_cons_zero, List.set_cons_succ]
          refine rg_take (i := 3) (v := ?va3) (by simp only [List.getElem?_toArray, List.getElem?_cons_succ, List.getElem?_cons_zero]; rfl) (by kernel_rfl) (by exact fun _ _ _ h => h) (by rfl) ?ra3 hF ?sa3
          case ra3 => (intro W hW; clear hW; go_simp; try with_reducible rfl)
          try simp only [Act.put, List.setIfInBounds_toArray, List.set_cons_zero, List.set_cons_succ]
          refine rg_take (i := 4) (v := ?va4) (by simp only [List.getElem?_toArray, List.getElem?_cons_succ, List.getElem?_cons_zero]; rfl) (by kernel_rfl) (by exact fun _ _ _ h => h) (by rfl) ?ra4 hF ?sa4
          case ra4 => (intro W hW; clear hW; go_simp; try with_reducible rfl)
          try simp only [Act.put, List.setIfInBounds_toArray, List.set_cons_zero, List.set_cons_succ]
          refine rg_take (i := 5) (v := ?va5) (by simp only [List.getElem?_toArray, List.getElem?_cons_succ, List.getElem?_cons_zero]; rfl) (by kernel_rfl) (by exact fun _ _ _ h => h) (by rfl) ?ra5 hF ?sa5
          case ra5 => (intro W hW; clear hW; go_simp; try with_reducible rfl)
          try simp only [Act.put, List.setIfInBounds_toArray, List.set_cons_zero, List.set_cons_succ]
          refine rg_take (i := 6) (v := ?va6) (by simp only [List.getElem?_toArray, List.getElem?_cons_succ, List.getElem?_cons_zero]; rfl) (by kernel_rfl) (by exact fun _ _ _ h => h) (by rfl) ?ra6 hF ?sa6
          case ra6 => (intro W9 hW; have z4 : W9.cell? ⟨W.heap.size, 4, none⟩ = some (.int .i64 m.seq) := (HM1.out.kp hW HBN.out).cell 4; go_simp; try with_reducible rfl)
          try simp only [Act.put, List.setIfInBounds_toArray, List.set_cons_zero, List.set_cons_succ]
          refine rg_take (i := 7) (v := ?va7) (by simp only [List.getElem?_toArray, List.getElem?_cons_succ, List.getElem?_cons_zero]; rfl) (by kernel_rfl) (by exact fun _ _ _ h => h) (by rfl) ?ra7 hF ?sa7
          case ra7 => (intro W hW; clear hW; go_simp; try with_reducible rfl)
          try simp only [Act.put, List.setIfInBounds_toArray, List.set_cons_zero, List.set_cons_succ]
          refine rg_take (i := 8) (v := ?va8) (by simp only [List.getElem?_toArray, List.getElem?_cons_succ, List.getElem?_cons_zero]; rfl) (by kernel_rfl) (by exact fun _ _ _ h => h) (by rfl) ?ra8 hF ?sa8
          case ra8 => (intro W hW; clear hW; go_simp; try with_reducible rfl)
          try simp only [Act.put, List.setIfInBounds_toArray, List.set_cons_zero, List.set_cons_succ]
          refine rg_take (i := 9) (v := ?va9) (by simp only [List.getElem?_toArray, List.getElem?_cons_succ, List.getElem?_cons_zero]; rfl) (by kernel_rfl) (by exact fun _ _ _ h => h) (by rfl) ?ra9 hF ?sa9
          case ra9 => (intro W hW; clear hW; go_simp; try with_reducible rfl)
          try simp only [Act.put, List.setIfInBounds_toArray, List.set_cons_zero, List.set_cons_succ]
          refine rg_take (i := 10) (v := ?va10) (by simp only [List.getElem?_toArray, List.getElem?_cons_succ, List.getElem?_cons_zero]; rfl) (by kernel_rfl) (by exact fun _ _ _ h => h) (by rfl) ?ra10 hF ?sa10
          case ra10 => (intro W hW; clear hW; go_simp; try with_reducible rfl)
          try simp only [Act.put, List.setIfInBounds_toArray, List.set_cons_zero, List.set_cons_succ]
          refine rg_one (i := 11) (oi := ?oa11) ?aa11 ?ba11 ?ca11 ?da11
          case aa11 => (simp only [List.getElem?_toArray, List.getElem?_cons_succ, List.getElem?_cons_zero]; rfl)
          case ba11 => kernel_rfl
          case ca11 => rfl
          intro K hK
          go_simp
          refine rg_use hK hF (fun hF => ?_)
          clear hK K
          try simp only [Act.put, List.setIfInBounds_toArray, List.set_cons_zero, List.set_cons_succ]
          refine rg_take (i := 12) (v := ?va12) (by simp only [List.getElem?_toArray, List.getElem?_cons_succ, List.getElem?_cons_zero]; rfl) (by kernel_rfl) (by exact fun _ _ _ h => h) (by rfl) ?ra12 hF ?sa12
          case ra12 => (intro W hW; clear hW; go_simp; try with_reducible rfl)
          try simp only [Act.put, List.setIfInBounds_toArray, List.set_cons_zero, List.set_cons_succ]
          refine rg_take (i := 13) (v := ?va13) (by simp only [List.getElem?_toArray, List.getElem?_cons_succ, List.getElem?_cons_zero]; rfl) (by kernel_rfl) (by exact fun _ _ _ h => h) (by rfl) ?ra13 hF ?sa13
          case ra13 => (intro W hW; clear hW; go_simp; try with_reducible rfl)
          try simp only [Act.put, List.setIfInBounds_toArray, List.set_cons_zero, List.set_cons_succ]
          refine rg_take (i := 14) (v := ?va14) (by simp only [List.getElem?_toArray, List.getElem?_cons_succ, List.getElem?_cons_zero]; rfl) (by kernel_rfl) (by exact fun _ _ _ h => h) (by rfl) ?ra14 hF ?sa14
          case ra14 => (intro W hW; clear hW; go_simp; try with_reducible rfl)
          try simp only [Act.put, List.setIfInBounds_toArray, List.set_cons_zero, List.set_cons_succ]
          refine rg_pass (i := 15) (by simp only [List.getElem?_toArray, List.getElem?_cons_succ, List.getElem?_cons_zero]; rfl) (by kernel_rfl) (by exact fun _ _ _ h => h) (by rfl) hF ?_
          try simp only [Act.put, List.setIfInBounds_toArray, List.set_cons_zero, List.set_cons_succ]
          refine rg_pass (i := 16) (by simp only [List.getElem?_toArray, List.getElem?_cons_succ, List.getElem?_cons_zero]; rfl) (by kernel_rfl) (by exact fun _ _ _ h => h) (by rfl) hF ?_
          try simp only [Act.put, List.setIfInBounds_toArray, List.set_cons_zero, List.set_cons_succ]
          refine rg_pass (i := 17) (by simp only [List.getElem?_toArray, List.getElem?_cons_succ, List.getElem?_cons_zero]; rfl) (by kernel_rfl) (by exact fun _ _ _ h => h) (by rfl) hF ?_
          try simp only [Act.put, List.setIfInBounds_toArray, List.set_cons_zero, List.set_cons_succ]
          refine rg_pass (i := 18) (by simp only [List.getElem?_toArray, List.getElem?_cons_succ, List.getElem?_cons_zero]; rfl) (by kernel_rfl) (by exact fun _ _ _ h => h) (by rfl) hF ?_
          try simp only [Act.put, List.setIfInBounds_toArray, List.set_cons_zero, List.set_cons_succ]
          refine rg_pass (i := 19) (by simp only [List.getElem?_toArray, List.getElem?_cons_succ, List.getElem?_cons_zero]; rfl) (by kernel_rfl) (by exact fun _ _ _ h => h) (by rfl) hF ?_
          try simp only [Act.put, List.setIfInBounds_toArray, List.set_cons_zero, List.set_cons_succ]
          refine rg_pass (i := 20) (by simp only [List.getElem?_toArray, List.getElem?_cons_succ, List.getElem?_cons_zero]; rfl) (by kernel_rfl) (by exact fun _ _ _ h => h) (by rfl) hF ?_
          try simp only [Act.put, List.setIfInBounds_toArray, List.set_cons_zero, List.set_cons_succ]
          refine rg_pass (i := 21) (by simp only [List.getElem?_toArray, List.getElem?_cons_succ, List.getElem?_cons_zero]; rfl) (by kernel_rfl) (by exact fun _ _ _ h => h) (by rfl) hF ?_
          try simp only [Act.put, List.setIfInBounds_toArray, List.set_cons_zero, List.set_cons_succ]
          refine rg_pass (i := 22) (by simp only [List.getElem?_toArray, List.getElem?_cons_succ, List.getElem?_cons_zero]; rfl) (by kernel_rfl) (by exact fun _ _ _ h => h) (by rfl) hF ?_
          try simp only [Act.put, List.setIfInBounds_toArray, List.set_cons_zero, List.set_cons_succ]
          refine rg_pass (i := 23) (by simp only [List.getElem?_toArray, List.getElem?_cons_succ, List.getElem?_cons_zero]; rfl) (by kernel_rfl) (by exact fun _ _ _ h => h) (by rfl) hF ?_
          try simp only [Act.put, List.setIfInBounds_toArray, List.set_cons_zero, List.set_cons_succ]
          refine rg_take (i := 24) (v := ?va24) (by simp only [List.getElem?_toArray, List.getElem?_cons_succ, List.getElem?_cons_zero]; rfl) (by kernel_rfl) (by exact fun _ _ _ h => h) (by rfl) ?ra24 hF ?sa24
          case ra24 => (intro W hW; clear hW; go_simp; try with_reducible rfl)
          try simp only [Act.put, List.setIfInBounds_toArray, List.set_cons_zero, List.set_cons_succ]
          refine rg_done (by kernel_rfl) ?_
          clear hF
          go_wp2
          go_ret2
          unfold LookR
          rw [HX.out, HL.out]
          exact ⟨HRP2.out, HK3.out, rfl⟩
        · have HL := Lib.hid (show verdP p' m = 1 by unfold verdP; rw [← HLOW.out, if_pos (.inr c2)])
          have dc1 : decide (m.seq < lo) = false := decide_eq_false c1
          have dc2 : decide (8 ≤ m.seq - lo) = true := decide_eq_true c2
          have hw : IntKind.i64.wrap (m.seq - lo) = m.seq - lo := IntWalk.i64_in _ (by omega)
          clear hj hj8
          go_enter Tryz.func22, Tryz.ntmps22
          go_wp2_with (go_at_call 21; (with_reducible refine (pv _ (Kp.refl _ _)).mono ?_); rintro e w1 ⟨rfl, k1⟩)
          have hm1 := HM0.out.no k1
          have pt := fun W2 (k : Kp No w1 W2) => PT2.out W2 (k1.trans k)
          have HK1 := Lib.hid (HKA.out.trans k1)
          clear HM0 HKA PT2 k1 pv
          have z0 : w1.cell? ⟨W.heap.size, 0, none⟩ = some (.int .i64 1) := hm1.cell 0
          have z1 : w1.cell? ⟨W.heap.size, 1, none⟩ = some (.int .i64 f) := hm1.cell 1
          have z2 : w1.cell? ⟨W.heap.size, 2, none⟩ = some (.int .i64 m.dest) := hm1.cell 2
          have z3 : w1.cell? ⟨W.heap.size, 3, none⟩ = some (.int .i64 m.boot) := hm1.cell 3
          have z4 : w1.cell? ⟨W.heap.size, 4, none⟩ = some (.int .i64 m.seq) := hm1.cell 4
          have z5 : w1.cell? ⟨W.heap.size, 5, none⟩ = some (.int .i64 m.low) := hm1.cell 5
          have z6 : w1.cell? ⟨W.heap.size, 6, none⟩ = some (.int .i64 m.verb) := hm1.cell 6
          have z7 : w1.cell? ⟨W.heap.size, 7, none⟩ = some (.string ⟨m.path.toArray⟩) := hm1.cell 7
          have z8 : w1.cell? ⟨W.heap.size, 8, none⟩ = some (.int .i64 m.mode) := hm1.cell 8
          have z9 : w1.cell? ⟨W.heap.size, 9, none⟩ = some (.int .i64 m.term) := hm1.cell 9
          have z10 : w1.cell? ⟨W.heap.size, 10, none⟩ = some (.int .i64 m.id) := hm1.cell 10
          have z11 : w1.cell? ⟨W.heap.size, 11, none⟩ = some (.bool m.fresh) := hm1.cell 11
          have z12 : w1.cell? ⟨W.heap.size, 12, none⟩ = some (.int .i64 m.code) := hm1.cell 12
          have z13 : w1.cell? ⟨W.heap.size, 13, none⟩ = some (.slice A m.stamp.length c) := hm1.cell 13
          have z14 : w1.cell? ⟨W.heap.size, 14, none⟩ = some (.int .i64 m.origin) := hm1.cell 14
          have z15 : w1.cell? ⟨W.heap.size, 15, none⟩ = some (.int .i64 m.number) := hm1.cell 15
          have HM1 := Lib.hid hm1
          clear hm1
          go_wp2
          go_region
          go_wp2
          clear z0 z1 z2 z3 z4 z5 z6 z7 z8 z9 z10 z11 z12 z13 z14 z15
          have hF : Kp (One b) w1 w1.drew.drew := (Kp.refl _ _).drew.drew
          refine rg_begin (fun W2 => Kp (One b) w1 W2) 25 (by kernel_rfl) ?_
          refine rg_take (i := 0) (v := ?vb0) (by simp only [List.getElem?_toArray, List.getElem?_cons_zero]; rfl) (by kernel_rfl) (by exact fun _ _ _ h => h) (by rfl) ?rb0 hF ?sb0
          case rb0 => (intro W hW; clear hW; go_simp; try with_reducible rfl)
          try simp only [Act.put, List.setIfInBounds_toArray, List.set_cons_zero, List.set_cons_succ]
          refine rg_take (i := 1) (v := ?vb1) (by simp only [List.getElem?_toArray, List.getElem?_cons_succ, List.getElem?_cons_zero]; rfl) (by kernel_rfl) (by exact fun _ _ _ h => h) (by rfl) ?rb1 hF ?sb1
          case rb1 => (intro W9 hW; refine exec_load_mid W9 32 (.tmp 3) ?_ W.heap.size 0 ?_ [.int .i64 1, .int .i64 f, .int .i64 m.dest, .int .i64 m.boot, .int .i64 m.seq, .int .i64 m.low, .int .i64 m.verb, .string ⟨m.path.toArray⟩, .int .i64 m.mode, .int .i64 m.term, .int .i64 m.id, .bool m.fresh, .int .i64 m.code, .slice A m.stamp.length c, .int .i64 m.origin, .int .i64 m.number] _ (range_of (HM1.out.kp hW HBN.out)) Tryz.underlying32 ?_ (by kernel_rfl); exact rfl; exact rfl; exact rfl)
          try simp only [Act.put, List.setIfInBounds_toArray, List.set_cons_zero, List.set_cons_succ]
          refine rg_one (i := 2) (oi := ?ob2) ?ab2 ?bb2 ?cb2 ?db2
          case ab2 => (simp only [List.getElem?_toArray, List.getElem?_cons_succ, List.getElem?_cons_zero]; rfl)
          case bb2 => kernel_rfl
          case cb2 => rfl
          intro K hK
          (go_simp; refine (pt _ (Kp.refl No w1).drew.drew).mono ?_); rintro e w2 ⟨rfl, h2⟩; have h2K : Kp (One b) w1 w2 := (by obtain ⟨_, _, _, _, _, k⟩ := h2; exact (Kp.refl (One b) w1).drew.drew.trans k); have HRP2 := Lib.hid (HRA.out _ _ (HK1.out.trans (Kp.refl No w1).drew.drew) h2); have HK3 := Lib.hid (HK1.out.of_no.trans h2K); have lw : w2.cell? ⟨b, f * 138 + 1, none⟩ = some (.int .i64 lo) := (by rw [HLOW.out]; exact h2.low HPL.out); have HM2 := Lib.hid (HM1.out.kp h2K HBN.out); clear h2 pt hF
          refine rg_use hK (h2K) (fun hF => ?_)
          clear hK K
          try simp only [Act.put, List.setIfInBounds_toArray, List.set_cons_zero, List.set_cons_succ]
          refine rg_take (i := 3) (v := ?vb3) (by simp only [List.getElem?_toArray, List.getElem?_cons_succ, List.getElem?_cons_zero]; rfl) (by kernel_rfl) (by exact fun _ _ _ h => h) (by rfl) ?rb3 hF ?sb3
          case rb3 => (intro W hW; clear hW; go_simp; try with_reducible rfl)
          try simp only [Act.put, List.setIfInBounds_toArray, List.set_cons_zero, List.set_cons_succ]
          refine rg_take (i := 4) (v := ?vb4) (by simp only [List.getElem?_toArray, List.getElem?_cons_succ, List.getElem?_cons_zero]; rfl) (by kernel_rfl) (by exact fun _ _ _ h => h) (by rfl) ?rb4 hF ?sb4
          case rb4 => (intro W hW; clear hW; go_simp; try with_reducible rfl)
          try simp only [Act.put, List.setIfInBounds_toArray, List.set_cons_zero, List.set_cons_succ]
          refine rg_take (i := 5) (v := ?vb5) (by simp only [List.getElem?_toArray, List.getElem?_cons_succ, List.getElem?_cons_zero]; rfl) (by kernel_rfl) (by exact fun _ _ _ h => h) (by rfl) ?rb5 hF ?sb5
          case rb5 => (intro W hW; clear hW; go_simp; try with_reducible rfl)
          try simp only [Act.put, List.setIfInBounds_toArray, List.set_cons_zero, List.set_cons_succ]
          refine rg_take (i := 6) (v := ?vb6) (by simp only [List.getElem?_toArray, List.getElem?_cons_succ, List.getElem?_cons_zero]; rfl) (by kernel_rfl) (by exact fun _ _ _ h => h) (by rfl) ?rb6 hF ?sb6
          case rb6 => (intro W9 hW; have z4 : W9.cell? ⟨W.heap.size, 4, none⟩ = some (.int .i64 m.seq) := (HM1.out.kp hW HBN.out).cell 4; go_simp; try with_reducible rfl)
          try simp only [Act.put, List.setIfInBounds_toArray, List.set_cons_zero, List.set_cons_succ]
          refine rg_take (i := 7) (v := ?vb7) (by simp only [List.getElem?_toArray, List.getElem?_cons_succ, List.getElem?_cons_zero]; rfl) (by kernel_rfl) (by exact fun _ _ _ h => h) (by rfl) ?rb7 hF ?sb7
          case rb7 => (intro W hW; clear hW; go_simp; try with_reducible rfl)
          try simp only [Act.put, List.setIfInBounds_toArray, List.set_cons_zero, List.set_cons_succ]
          refine rg_take (i := 8) (v := ?vb8) (by simp only [List.getElem?_toArray, List.getElem?_cons_succ, List.getElem?_cons_zero]; rfl) (by kernel_rfl) (by exact fun _ _ _ h => h) (by rfl) ?rb8 hF ?sb8
          case rb8 => (intro W hW; clear hW; go_simp; try with_reducible rfl)
          try simp only [Act.put, List.setIfInBounds_toArray, List.set_cons_zero, List.set_cons_succ]
          refine rg_take (i := 9) (v := ?vb9) (by simp only [List.getElem?_toArray, List.getElem?_cons_succ, List.getElem?_cons_zero]; rfl) (by kernel_rfl) (by exact fun _ _ _ h => h) (by rfl) ?rb9 hF ?sb9
          case rb9 => (intro W hW; clear hW; go_simp; try with_reducible rfl)
          try simp only [Act.put, List.setIfInBounds_toArray, List.set_cons_zero, List.set_cons_succ]
          refine rg_take (i := 10) (v := ?vb10) (by simp only [List.getElem?_toArray, List.getElem?_cons_succ, List.getElem?_cons_zero]; rfl) (by kernel_rfl) (by exact fun _ _ _ h => h) (by rfl) ?rb10 hF ?sb10
          case rb10 => (intro W hW; clear hW; go_simp; try with_reducible rfl)
          try simp only [Act.put, List.setIfInBounds_toArray, List.set_cons_zero, List.set_cons_succ]
          refine rg_one (i := 11) (oi := ?ob11) ?ab11 ?bb11 ?cb11 ?db11
          case ab11 => (simp only [List.getElem?_toArray, List.getElem?_cons_succ, List.getElem?_cons_zero]; rfl)
          case bb11 => kernel_rfl
          case cb11 => rfl
          intro K hK
          go_simp
          refine rg_use hK hF (fun hF => ?_)
          clear hK K
          try simp only [Act.put, List.setIfInBounds_toArray, List.set_cons_zero, List.set_cons_succ]
          refine rg_take (i := 12) (v := ?vb12) (by simp only [List.getElem?_toArray, List.getElem?_cons_succ, List.getElem?_cons_zero]; rfl) (by kernel_rfl) (by exact fun _ _ _ h => h) (by rfl) ?rb12 hF ?sb12
          case rb12 => (intro W hW; clear hW; go_simp; try with_reducible rfl)
          try simp only [Act.put, List.setIfInBounds_toArray, List.set_cons_zero, List.set_cons_succ]
          refine rg_take (i := 13) (v := ?vb13) (by simp only [List.getElem?_toArray, List.getElem?_cons_succ, List.getElem?_cons_zero]; rfl) (by kernel_rfl) (by exact fun _ _ _ h => h) (by rfl) ?rb13 hF ?sb13
          case rb13 => (intro W hW; clear hW; go_simp; try with_reducible rfl)
          try simp only [Act.put, List.setIfInBounds_toArray, List.set_cons_zero, List.set_cons_succ]
          refine rg_take (i := 14) (v := ?vb14) (by simp only [List.getElem?_toArray, List.getElem?_cons_succ, List.getElem?_cons_zero]; rfl) (by kernel_rfl) (by exact fun _ _ _ h => h) (by rfl) ?rb14 hF ?sb14
          case rb14 => (intro W hW; clear hW; go_simp; try with_reducible rfl)
          try simp only [Act.put, List.setIfInBounds_toArray, List.set_cons_zero, List.set_cons_succ]
          refine rg_take (i := 15) (v := ?vb15) (by simp only [List.getElem?_toArray, List.getElem?_cons_succ, List.getElem?_cons_zero]; rfl) (by kernel_rfl) (by exact fun _ _ _ h => h) (by rfl) ?rb15 hF ?sb15
          case rb15 => (intro W hW; clear hW; go_simp; try with_reducible rfl)
          try simp only [Act.put, List.setIfInBounds_toArray, List.set_cons_zero, List.set_cons_succ]
          refine rg_take (i := 16) (v := ?vb16) (by simp only [List.getElem?_toArray, List.getElem?_cons_succ, List.getElem?_cons_zero]; rfl) (by kernel_rfl) (by exact fun _ _ _ h => h) (by rfl) ?rb16 hF ?sb16
          case rb16 => (intro W9 hW; have z4 : W9.cell? ⟨W.heap.size, 4, none⟩ = some (.int .i64 m.seq) := (HM1.out.kp hW HBN.out).cell 4; go_simp; try with_reducible rfl)
          try simp only [Act.put, List.setIfInBounds_toArray, List.set_cons_zero, List.set_cons_succ]
          refine rg_take (i := 17) (v := ?vb17) (by simp only [List.getElem?_toArray, List.getElem?_cons_succ, List.getElem?_cons_zero]; rfl) (by kernel_rfl) (by exact fun _ _ _ h => h) (by rfl) ?rb17 hF ?sb17
          case rb17 => (intro W hW; clear hW; go_simp; try with_reducible rfl)
          try simp only [Act.put, List.setIfInBounds_toArray, List.set_cons_zero, List.set_cons_succ]
          refine rg_take (i := 18) (v := ?vb18) (by simp only [List.getElem?_toArray, List.getElem?_cons_succ, List.getElem?_cons_zero]; rfl) (by kernel_rfl) (by exact fun _ _ _ h => h) (by rfl) ?rb18 hF ?sb18
          case rb18 => (intro W hW; clear hW; go_simp; try with_reducible rfl)
          try simp only [Act.put, List.setIfInBounds_toArray, List.set_cons_zero, List.set_cons_succ]
          refine rg_take (i := 19) (v := ?vb19) (by simp only [List.getElem?_toArray, List.getElem?_cons_succ, List.getElem?_cons_zero]; rfl) (by kernel_rfl) (by exact fun _ _ _ h => h) (by rfl) ?rb19 hF ?sb19
          case rb19 => (intro W hW; clear hW; go_simp; try with_reducible rfl)
          try simp only [Act.put, List.setIfInBounds_toArray, List.set_cons_zero, List.set_cons_succ]
          refine rg_take (i := 20) (v := ?vb20) (by simp only [List.getElem?_toArray, List.getElem?_cons_succ, List.getElem?_cons_zero]; rfl) (by kernel_rfl) (by exact fun _ _ _ h => h) (by rfl) ?rb20 hF ?sb20
          case rb20 => (intro W hW; clear hW; go_simp; try with_reducible rfl)
          try simp only [Act.put, List.setIfInBounds_toArray, List.set_cons_zero, List.set_cons_succ]
          refine rg_one (i := 21) (oi := ?ob21) ?ab21 ?bb21 ?cb21 ?db21
          case ab21 => (simp only [List.getElem?_toArray, List.getElem?_cons_succ, List.getElem?_cons_zero]; rfl)
          case bb21 => kernel_rfl
          case cb21 => rfl
          intro K hK
          go_simp
          refine rg_use hK hF (fun hF => ?_)
          clear hK K
          try simp only [Act.put, List.setIfInBounds_toArray, List.set_cons_zero, List.set_cons_succ]
          refine rg_take (i := 22) (v := ?vb22) (by simp only [List.getElem?_toArray, List.getElem?_cons_succ, List.getElem?_cons_zero]; rfl) (by kernel_rfl) (by exact fun _ _ _ h => h) (by rfl) ?rb22 hF ?sb22
          case rb22 => (intro W hW; clear hW; go_simp; try with_reducible rfl)
          try simp only [Act.put, List.setIfInBounds_toArray, List.set_cons_zero, List.set_cons_succ]
          refine rg_take (i := 23) (v := ?vb23) (by simp only [List.getElem?_toArray, List.getElem?_cons_succ, List.getElem?_cons_zero]; rfl) (by kernel_rfl) (by exact fun _ _ _ h => h) (by rfl) ?rb23 hF ?sb23
          case rb23 => (intro W hW; clear hW; go_simp; try with_reducible rfl)
          try simp only [Act.put, List.setIfInBounds_toArray, List.set_cons_zero, List.set_cons_succ]
          refine rg_take (i := 24) (v := ?vb24) (by simp only [List.getElem?_toArray, List.getElem?_cons_succ, List.getElem?_cons_zero]; rfl) (by kernel_rfl) (by exact fun _ _ _ h => h) (by rfl) ?rb24 hF ?sb24
          case rb24 => (intro W hW; clear hW; go_simp; try with_reducible rfl)
          try simp only [Act.put, List.setIfInBounds_toArray, List.set_cons_zero, List.set_cons_succ]
          refine rg_done (by kernel_rfl) ?_
          clear hF
          go_wp2
          go_ret2
          unfold LookR
          rw [HX.out, HL.out]
          exact ⟨HRP2.out, HK3.out, rfl⟩
        · have hw : IntKind.i64.wrap (m.seq - lo) = m.seq - lo := IntWalk.i64_in _ (by omega)
          have dc1 : decide (m.seq < lo) = false := decide_eq_false c1
          have dc2 : decide (8 ≤ m.seq - lo) = false := decide_eq_false c2
          have HJ := Lib.hid hj; have HJ8 := Lib.hid hj8
          have HC := Lib.hid (show ¬ (m.seq < p'.low ∨ 8 ≤ m.seq - p'.low) by rw [← HLOW.out]; omega)
          clear hj hj8
          go_enter Tryz.func22, Tryz.ntmps22
          go_wp2_with (go_at_call 21; (with_reducible refine (pv _ (Kp.refl _ _)).mono ?_); rintro e w1 ⟨rfl, k1⟩)
          have hm1 := HM0.out.no k1
          have pt := fun W2 (k : Kp No w1 W2) => PT2.out W2 (k1.trans k)
          have HK1 := Lib.hid (HKA.out.trans k1)
          clear HM0 HKA PT2 k1 pv
          have z0 : w1.cell? ⟨W.heap.size, 0, none⟩ = some (.int .i64 1) := hm1.cell 0
          have z1 : w1.cell? ⟨W.heap.size, 1, none⟩ = some (.int .i64 f) := hm1.cell 1
          have z2 : w1.cell? ⟨W.heap.size, 2, none⟩ = some (.int .i64 m.dest) := hm1.cell 2
          have z3 : w1.cell? ⟨W.heap.size, 3, none⟩ = some (.int .i64 m.boot) := hm1.cell 3
          have z4 : w1.cell? ⟨W.heap.size, 4, none⟩ = some (.int .i64 m.seq) := hm1.cell 4
          have z5 : w1.cell? ⟨W.heap.size, 5, none⟩ = some (.int .i64 m.low) := hm1.cell 5
          have z6 : w1.cell? ⟨W.heap.size, 6, none⟩ = some (.int .i64 m.verb) := hm1.cell 6
          have z7 : w1.cell? ⟨W.heap.size, 7, none⟩ = some (.string ⟨m.path.toArray⟩) := hm1.cell 7
          have z8 : w1.cell? ⟨W.heap.size, 8, none⟩ = some (.int .i64 m.mode) := hm1.cell 8
          have z9 : w1.cell? ⟨W.heap.size, 9, none⟩ = some (.int .i64 m.term) := hm1.cell 9
          have z10 : w1.cell? ⟨W.heap.size, 10, none⟩ = some (.int .i64 m.id) := hm1.cell 10
          have z11 : w1.cell? ⟨W.heap.size, 11, none⟩ = some (.bool m.fresh) := hm1.cell 11
          have z12 : w1.cell? ⟨W.heap.size, 12, none⟩ = some (.int .i64 m.code) := hm1.cell 12
          have z13 : w1.cell? ⟨W.heap.size, 13, none⟩ = some (.slice A m.stamp.length c) := hm1.cell 13
          have z14 : w1.cell? ⟨W.heap.size, 14, none⟩ = some (.int .i64 m.origin) := hm1.cell 14
          have z15 : w1.cell? ⟨W.heap.size, 15, none⟩ = some (.int .i64 m.number) := hm1.cell 15
          have HM1 := Lib.hid hm1
          clear hm1
          go_wp2
          go_region
          go_wp2
          clear z0 z1 z2 z3 z4 z5 z6 z7 z8 z9 z10 z11 z12 z13 z14 z15
          have hF : Kp (One b) w1 w1.drew.drew := (Kp.refl _ _).drew.drew
          refine rg_begin (fun W2 => Kp (One b) w1 W2) 25 (by kernel_rfl) ?_
          refine rg_take (i := 0) (v := ?vc0) (by simp only [List.getElem?_toArray, List.getElem?_cons_zero]; rfl) (by kernel_rfl) (by exact fun _ _ _ h => h) (by rfl) ?rc0 hF ?sc0
          case rc0 => (intro W hW; clear hW; go_simp; try with_reducible rfl)
          try simp only [Act.put, List.setIfInBounds_toArray, List.set_cons_zero, List.set_cons_succ]
          refine rg_take (i := 1) (v := ?vc1) (by simp only [List.getElem?_toArray, List.getElem?_cons_succ, List.getElem?_cons_zero]; rfl) (by kernel_rfl) (by exact fun _ _ _ h => h) (by rfl) ?rc1 hF ?sc1
          case rc1 => (intro W9 hW; refine exec_load_mid W9 32 (.tmp 3) ?_ W.heap.size 0 ?_ [.int .i64 1, .int .i64 f, .int .i64 m.dest, .int .i64 m.boot, .int .i64 m.seq, .int .i64 m.low, .int .i64 m.verb, .string ⟨m.path.toArray⟩, .int .i64 m.mode, .int .i64 m.term, .int .i64 m.id, .bool m.fresh, .int .i64 m.code, .slice A m.stamp.length c, .int .i64 m.origin, .int .i64 m.number] _ (range_of (HM1.out.kp hW HBN.out)) Tryz.underlying32 ?_ (by kernel_rfl); exact rfl; exact rfl; exact rfl)
          try simp only [Act.put, List.setIfInBounds_toArray, List.set_cons_zero, List.set_cons_succ]
          refine rg_one (i := 2) (oi := ?oc2) ?ac2 ?bc2 ?cc2 ?dc2
          case ac2 => (simp only [List.getElem?_toArray, List.getElem?_cons_succ, List.getElem?_cons_zero]; rfl)
          case bc2 => kernel_rfl
          case cc2 => rfl
          intro K hK
          (go_simp; refine (pt _ (Kp.refl No w1).drew.drew).mono ?_); rintro e w2 ⟨rfl, h2⟩; have h2K : Kp (One b) w1 w2 := (by obtain ⟨_, _, _, _, _, k⟩ := h2; exact (Kp.refl (One b) w1).drew.drew.trans k); have HRP2 := Lib.hid (HRA.out _ _ (HK1.out.trans (Kp.refl No w1).drew.drew) h2); have HK3 := Lib.hid (HK1.out.of_no.trans h2K); have lw : w2.cell? ⟨b, f * 138 + 1, none⟩ = some (.int .i64 lo) := (by rw [HLOW.out]; exact h2.low HPL.out); have HM2 := Lib.hid (HM1.out.kp h2K HBN.out); have HS0 := Lib.hid (h2.slot HPL.out HJ8.out); clear h2 pt hF
          refine rg_use hK (h2K) (fun hF => ?_)
          clear hK K
          try simp only [Act.put, List.setIfInBounds_toArray, List.set_cons_zero, List.set_cons_succ]
          refine rg_take (i := 3) (v := ?vc3) (by simp only [List.getElem?_toArray, List.getElem?_cons_succ, List.getElem?_cons_zero]; rfl) (by kernel_rfl) (by exact fun _ _ _ h => h) (by rfl) ?rc3 hF ?sc3
          case rc3 => (intro W hW; clear hW; go_simp; try with_reducible rfl)
          try simp only [Act.put, List.setIfInBounds_toArray, List.set_cons_zero, List.set_cons_succ]
          refine rg_take (i := 4) (v := ?vc4) (by simp only [List.getElem?_toArray, List.getElem?_cons_succ, List.getElem?_cons_zero]; rfl) (by kernel_rfl) (by exact fun _ _ _ h => h) (by rfl) ?rc4 hF ?sc4
          case rc4 => (intro W hW; clear hW; go_simp; try with_reducible rfl)
          try simp only [Act.put, List.setIfInBounds_toArray, List.set_cons_zero, List.set_cons_succ]
          refine rg_take (i := 5) (v := ?vc5) (by simp only [List.getElem?_toArray, List.getElem?_cons_succ, List.getElem?_cons_zero]; rfl) (by kernel_rfl) (by exact fun _ _ _ h => h) (by rfl) ?rc5 hF ?sc5
          case rc5 => (intro W hW; clear hW; go_simp; try with_reducible rfl)
          try simp only [Act.put, List.setIfInBounds_toArray, List.set_cons_zero, List.set_cons_succ]
          refine rg_take (i := 6) (v := ?vc6) (by simp only [List.getElem?_toArray, List.getElem?_cons_succ, List.getElem?_cons_zero]; rfl) (by kernel_rfl) (by exact fun _ _ _ h => h) (by rfl) ?rc6 hF ?sc6
          case rc6 => (intro W9 hW; have z4 : W9.cell? ⟨W.heap.size, 4, none⟩ = some (.int .i64 m.seq) := (HM1.out.kp hW HBN.out).cell 4; go_simp; try with_reducible rfl)
          try simp only [Act.put, List.setIfInBounds_toArray, List.set_cons_zero, List.set_cons_succ]
          refine rg_take (i := 7) (v := ?vc7) (by simp only [List.getElem?_toArray, List.getElem?_cons_succ, List.getElem?_cons_zero]; rfl) (by kernel_rfl) (by exact fun _ _ _ h => h) (by rfl) ?rc7 hF ?sc7
          case rc7 => (intro W hW; clear hW; go_simp; try with_reducible rfl)
          try simp only [Act.put, List.setIfInBounds_toArray, List.set_cons_zero, List.set_cons_succ]
          refine rg_take (i := 8) (v := ?vc8) (by simp only [List.getElem?_toArray, List.getElem?_cons_succ, List.getElem?_cons_zero]; rfl) (by kernel_rfl) (by exact fun _ _ _ h => h) (by rfl) ?rc8 hF ?sc8
          case rc8 => (intro W hW; clear hW; go_simp; try with_reducible rfl)
          try simp only [Act.put, List.setIfInBounds_toArray, List.set_cons_zero, List.set_cons_succ]
          refine rg_take (i := 9) (v := ?vc9) (by simp only [List.getElem?_toArray, List.getElem?_cons_succ, List.getElem?_cons_zero]; rfl) (by kernel_rfl) (by exact fun _ _ _ h => h) (by rfl) ?rc9 hF ?sc9
          case rc9 => (intro W hW; clear hW; go_simp; try with_reducible rfl)
          try simp only [Act.put, List.setIfInBounds_toArray, List.set_cons_zero, List.set_cons_succ]
          refine rg_take (i := 10) (v := ?vc10) (by simp only [List.getElem?_toArray, List.getElem?_cons_succ, List.getElem?_cons_zero]; rfl) (by kernel_rfl) (by exact fun _ _ _ h => h) (by rfl) ?rc10 hF ?sc10
          case rc10 => (intro W hW; clear hW; go_simp; try with_reducible rfl)
          try simp only [Act.put, List.setIfInBounds_toArray, List.set_cons_zero, List.set_cons_succ]
          refine rg_one (i := 11) (oi := ?oc11) ?ac11 ?bc11 ?cc11 ?dc11
          case ac11 => (simp only [List.getElem?_toArray, List.getElem?_cons_succ, List.getElem?_cons_zero]; rfl)
          case bc11 => kernel_rfl
          case cc11 => rfl
          intro K hK
          go_simp
          refine rg_use hK hF (fun hF => ?_)
          clear hK K
          try simp only [Act.put, List.setIfInBounds_toArray, List.set_cons_zero, List.set_cons_succ]
          refine rg_take (i := 12) (v := ?vc12) (by simp only [List.getElem?_toArray, List.getElem?_cons_succ, List.getElem?_cons_zero]; rfl) (by kernel_rfl) (by exact fun _ _ _ h => h) (by rfl) ?rc12 hF ?sc12
          case rc12 => (intro W hW; clear hW; go_simp; try with_reducible rfl)
          try simp only [Act.put, List.setIfInBounds_toArray, List.set_cons_zero, List.set_cons_succ]
          refine rg_take (i := 13) (v := ?vc13) (by simp only [List.getElem?_toArray, List.getElem?_cons_succ, List.getElem?_cons_zero]; rfl) (by kernel_rfl) (by exact fun _ _ _ h => h) (by rfl) ?rc13 hF ?sc13
          case rc13 => (intro W hW; clear hW; go_simp; try with_reducible rfl)
          try simp only [Act.put, List.setIfInBounds_toArray, List.set_cons_zero, List.set_cons_succ]
          refine rg_take (i := 14) (v := ?vc14) (by simp only [List.getElem?_toArray, List.getElem?_cons_succ, List.getElem?_cons_zero]; rfl) (by kernel_rfl) (by exact fun _ _ _ h => h) (by rfl) ?rc14 hF ?sc14
          case rc14 => (intro W hW; clear hW; go_simp; try with_reducible rfl)
          try simp only [Act.put, List.setIfInBounds_toArray, List.set_cons_zero, List.set_cons_succ]
          refine rg_take (i := 15) (v := ?vc15) (by simp only [List.getElem?_toArray, List.getElem?_cons_succ, List.getElem?_cons_zero]; rfl) (by kernel_rfl) (by exact fun _ _ _ h => h) (by rfl) ?rc15 hF ?sc15
          case rc15 => (intro W hW; clear hW; go_simp; try with_reducible rfl)
          try simp only [Act.put, List.setIfInBounds_toArray, List.set_cons_zero, List.set_cons_succ]
          refine rg_take (i := 16) (v := ?vc16) (by simp only [List.getElem?_toArray, List.getElem?_cons_succ, List.getElem?_cons_zero]; rfl) (by kernel_rfl) (by exact fun _ _ _ h => h) (by rfl) ?rc16 hF ?sc16
          case rc16 => (intro W9 hW; have z4 : W9.cell? ⟨W.heap.size, 4, none⟩ = some (.int .i64 m.seq) := (HM1.out.kp hW HBN.out).cell 4; go_simp; try with_reducible rfl)
          try simp only [Act.put, List.setIfInBounds_toArray, List.set_cons_zero, List.set_cons_succ]
          refine rg_take (i := 17) (v := ?vc17) (by simp only [List.getElem?_toArray, List.getElem?_cons_succ, List.getElem?_cons_zero]; rfl) (by kernel_rfl) (by exact fun _ _ _ h => h) (by rfl) ?rc17 hF ?sc17
          case rc17 => (intro W hW; clear hW; go_simp; try with_reducible rfl)
          try simp only [Act.put, List.setIfInBounds_toArray, List.set_cons_zero, List.set_cons_succ]
          refine rg_take (i := 18) (v := ?vc18) (by simp only [List.getElem?_toArray, List.getElem?_cons_succ, List.getElem?_cons_zero]; rfl) (by kernel_rfl) (by exact fun _ _ _ h => h) (by rfl) ?rc18 hF ?sc18
          case rc18 => (intro W hW; clear hW; go_simp; try with_reducible rfl)
          try simp only [Act.put, List.setIfInBounds_toArray, List.set_cons_zero, List.set_cons_succ]
          refine rg_take (i := 19) (v := ?vc19) (by simp only [List.getElem?_toArray, List.getElem?_cons_succ, List.getElem?_cons_zero]; rfl) (by kernel_rfl) (by exact fun _ _ _ h => h) (by rfl) ?rc19 hF ?sc19
          case rc19 => (intro W hW; clear hW; go_simp; try with_reducible rfl)
          try simp only [Act.put, List.setIfInBounds_toArray, List.set_cons_zero, List.set_cons_succ]
          refine rg_take (i := 20) (v := ?vc20) (by simp only [List.getElem?_toArray, List.getElem?_cons_succ, List.getElem?_cons_zero]; rfl) (by kernel_rfl) (by exact fun _ _ _ h => h) (by rfl) ?rc20 hF ?sc20
          case rc20 => (intro W hW; clear hW; go_simp; try with_reducible rfl)
          try simp only [Act.put, List.setIfInBounds_toArray, List.set_cons_zero, List.set_cons_succ]
          refine rg_one (i := 21) (oi := ?oc21) ?ac21 ?bc21 ?cc21 ?dc21
          case ac21 => (simp only [List.getElem?_toArray, List.getElem?_cons_succ, List.getElem?_cons_zero]; rfl)
          case bc21 => kernel_rfl
          case cc21 => rfl
          intro K hK
          go_simp
          refine rg_use hK hF (fun hF => ?_)
          clear hK K
          try simp only [Act.put, List.setIfInBounds_toArray, List.set_cons_zero, List.set_cons_succ]
          refine rg_take (i := 22) (v := ?vc22) (by simp only [List.getElem?_toArray, List.getElem?_cons_succ, List.getElem?_cons_zero]; rfl) (by kernel_rfl) (by exact fun _ _ _ h => h) (by rfl) ?rc22 hF ?sc22
          case rc22 => (intro W hW; clear hW; go_simp; try with_reducible rfl)
          try simp only [Act.put, List.setIfInBounds_toArray, List.set_cons_zero, List.set_cons_succ]
          refine rg_take (i := 23) (v := ?vc23) (by simp only [List.getElem?_toArray, List.getElem?_cons_succ, List.getElem?_cons_zero]; rfl) (by kernel_rfl) (by exact fun _ _ _ h => h) (by rfl) ?rc23 hF ?sc23
          case rc23 => (intro W hW; clear hW; go_simp; try with_reducible rfl)
          try simp only [Act.put, List.setIfInBounds_toArray, List.set_cons_zero, List.set_cons_succ]
          refine rg_take (i := 24) (v := ?vc24) (by simp only [List.getElem?_toArray, List.getElem?_cons_succ, List.getElem?_cons_zero]; rfl) (by kernel_rfl) (by exact fun _ _ _ h => h) (by rfl) ?rc24 hF ?sc24
          case rc24 => (intro W hW; clear hW; go_simp; try with_reducible rfl)
          try simp only [Act.put, List.setIfInBounds_toArray, List.set_cons_zero, List.set_cons_succ]
          refine rg_done (by kernel_rfl) ?_
          clear hF
          have hj := HJ.out
          have hj0 : (0 : Int) ≤ (j : Int) := by omega
          have hj1 : (j : Int) < 8 := by have := HJ8.out; omega
          have s0 := HS0.out
          have z4 : w2.cell? ⟨W.heap.size, 4, none⟩ = some (.int .i64 m.seq) := HM2.out.cell 4
          go_wp2
          go_region
          go_wp2
          have HE : Hid ((p'.slots.getD j {}).seq = m.seq ∨ ¬ (p'.slots.getD j {}).seq = m.seq) := Lib.hid (Decidable.em _)
          have HV := Lib.hid (show verdP p' m = if (p'.slots.getD j {}).seq = m.seq then 2 else 3 by unfold verdP; rw [if_neg HC.out, HJ.out, Int.toNat_natCast])
          have HOF := Lib.hid (show offS (f : Int).toNat (m.seq % 8).toNat = f * 138 + 2 + j * 17 by rw [HJ.out]; rfl)
          generalize (p'.slots.getD j {}).seq = sq at *
          rcases HE.out with hq | hq
          · have HV2 := Lib.hid (show verdP p' m = 2 by rw [HV.out, if_pos hq])
            have dq : (sq == m.seq) = true := by simpa using hq
            clear hq
            go_region
            all_goals
              go_wp2
              go_ret2
              unfold LookR
              rw [HX.out, HV2.out, HF.out, HOF.out]
              exact ⟨HRP2.out.no (Kp.refl _ _).drew.drew, HK3.out.drew.drew, rfl⟩
          · have HV3 := Lib.hid (show verdP p' m = 3 by rw [HV.out, if_neg hq])
            have dq : (sq == m.seq) = false := by simpa using hq
            clear hq
            go_region
            all_goals
              go_wp2
              go_ret2
              unfold LookR
              rw [HX.out, HV3.out, HF.out, HOF.out]
              exact ⟨HRP2.out.no (Kp.refl _ _).drew.drew, HK3.out.drew.drew, rfl⟩
    · have HL := Lib.hid (show lookP ps m = (ps, 1) by unfold lookP; rw [if_neg (fun h => hv h.2)])
      have pv := PV.out
      have dv : decide (mayS vpP m) = false := decide_eq_false hv
      rw [dv] at pv
      have hk1 : (m.kind != 1) = false := by simp [hk]
      clear hs hr hv dv hk kA
      unfold mcells at pv HM HKA ⊢
      go_enter Tryz.func22, Tryz.ntmps22
      go_wp2_with (go_at_call 21; (with_reducible refine (pv _ (Kp.refl _ _)).mono ?_); rintro e w1 ⟨rfl, k1⟩)
      go_ret2
      unfold LookR
      rw [HL.out]
      exact ⟨HRP.out.no (HKA.out.trans k1), (HKA.out.trans k1).of_no, rfl⟩
  · have HL := Lib.hid (show lookP ps m = (ps, 1) by unfold lookP; rw [if_neg (fun h => hk h.1)])
    have hk1 : (m.kind != 1) = true := by rw [bne_iff_ne]; exact hk
    clear hs hr hk kA pv PV HM
    unfold mcells at HKA ⊢
    go_enter Tryz.func22, Tryz.ntmps22
    go_wp2
    go_ret2
    unfold LookR
    rw [HL.out]
    exact ⟨HRP.out.no HKA.out, HKA.out.of_no, rfl⟩
end Go.Proofs.YtaipbikbapjmjaaGreat
