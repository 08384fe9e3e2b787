/- The functions that the evaluator does not walk: octets.Sum and World.written, by their contracts. No condition beyond what each theorem states. -/
import Derived.Test.YtccadcefhfdmgaaGreatDoorEvJ
import Derived.Test.YtccadcefhfdmgaaGreatDoorEvSm
import Derived.Test.YtccadcefhfdmgaaGreatDoorEvX
namespace Go.Proofs.YtccadcefhfdmgaaGreatDoor.Ev
open Go Go.Proofs

theorem crcS_step (x : BitVec 32) : crcS x.toNat = (crcStep x).toNat := by
  have e : crcS x.toNat = cnd (Nat.beq (Nat.mod x.toNat 2) 1) (Nat.xor (Nat.div x.toNat 2) 3988292384) (Nat.div x.toNat 2) := by unfold crcS; rw [stN_eq]
  rw [e]
  unfold crcStep
  have hb : x.getLsbD 0 = (Nat.beq (Nat.mod x.toNat 2) 1) := by
    rw [BitVec.getLsbD, Nat.testBit_zero]
    show decide (x.toNat % 2 = 1) = Nat.beq (x.toNat % 2) 1
    cases h : Nat.beq (x.toNat % 2) 1 with
    | true => rw [beq_e h]; rfl
    | false => exact decide_eq_false (beq_ne h)
  have hs : (x >>> 1).toNat = x.toNat / 2 := by rw [BitVec.toNat_ushiftRight, Nat.shiftRight_eq_div_pow]
  rw [hb]
  cases Nat.beq (Nat.mod x.toNat 2) 1 with
  | true =>
    rw [cnd_t, if_pos rfl, BitVec.toNat_xor, hs]
    rfl
  | false =>
    rw [cnd_f, if_neg (by simp), BitVec.toNat_xor, hs]
    show x.toNat / 2 = x.toNat / 2 ^^^ 0
    rw [Nat.xor_zero]
theorem crcL_eq : ∀ (l : List Nat), (∀ b ∈ l, b < 256) → ∀ x : BitVec 32, crcL l x.toNat = (crcF x (l.map UInt8.ofNat)).toNat
  | [], _, x => rfl
  | c :: l, h, x => by
    have hc := h c (List.mem_cons_self ..)
    have e : crcL (c :: l) x.toNat = crcL l (crcS (crcS (crcS (crcS (crcS (crcS (crcS (crcS (Nat.xor x.toNat c))))))))) := by
      show stN _ _ = _
      rw [stN_eq]
      rfl
    have h1 : Nat.xor x.toNat c = (x ^^^ BitVec.ofNat 32 (UInt8.ofNat c).toNat).toNat := by
      rw [BitVec.toNat_xor, BitVec.toNat_ofNat, UInt8.toNat_ofNat']
      have : c % 2 ^ 8 % 2 ^ 32 = c := by omega
      rw [this]
      rfl
    rw [e, h1]
    simp only [crcS_step]
    rw [crcL_eq l (fun b hb => h b (List.mem_cons_of_mem _ hb))]
    rfl
theorem sumA_eq (l : List Nat) (h : ∀ b ∈ l, b < 256) : ((sumA l : Nat) : Int) = crcI (l.map UInt8.ofNat) := by
  have e : sumA l = Nat.xor (crcL l (0xffffffff#32).toNat) 4294967295 := rfl
  rw [e, crcL_eq l h]
  unfold crcI Go.Proofs.YtccadcefhfdmgaaGreatDoor.crcS
  rw [BitVec.toNat_xor]
  rfl
theorem cell_at {P : Program} {E : Env} {R : Nat → Prop} {h : H} {w0 w : World} {i o sp : Nat} {r : Row} {v : AV} (inv : Inv P E R h w0 w) (hi : R i) (hg : h.get i = some (.cells r sp)) (hv : r.get o = some v) : w.cell? ⟨E.blk i, E.base i + o, none⟩ = some (conc E v) ∧ v.On R := by
  obtain ⟨cs, t, fz, h1, h2⟩ := inv.obj i _ hi hg
  obtain ⟨h3, _, _, h4⟩ := h2.cell o v hv
  exact ⟨by simp only [World.cell?, h1]; exact h4, h3⟩
theorem rowOf_not {T : RC → Prop} (hT : ¬ T .no) {h : H} {i : Nat} {f : Row → RC} (x : T (rowOf h i .no f)) : ∃ r sp, h.get i = some (.cells r sp) ∧ T (f r) := by
  unfold rowOf at x
  cases hg : h.get i with
  | none => rw [hg] at x; exact absurd x hT
  | some o =>
    cases o with
    | cells r sp => rw [hg] at x; exact ⟨r, sp, rfl, x⟩
    | _ => rw [hg] at x; exact absurd x hT
theorem onO_not {T : RC → Prop} (hT : ¬ T .no) {α : Type} {o : Option α} {f : α → RC} (x : T (onO o .no f)) : ∃ a, o = some a ∧ T (f a) := by
  cases o with
  | none => exact absurd x hT
  | some a => exact ⟨a, rfl, x⟩
theorem post_no {P : Program} {w0 : World} {E : Env} {R : Nat → Prop} {h : H} {T : Ending → World → Prop} : ¬ Post P w0 E R h T .no := fun h => h
theorem one_arg {P : Program} {w0 : World} {E : Env} {R : Nat → Prop} {h : H} {T : Ending → World → Prop} {l : List AV} {f : AV → RC} (x : Post P w0 E R h T (lcase l .no fun v l => lcase l (f v) fun _ _ => .no)) : ∃ v, l = [v] ∧ Post P w0 E R h T (f v) := by
  match l, x with
  | [v], x => exact ⟨v, rfl, x⟩
theorem one_val {E : Env} {R : Nat → Prop} {v : AV} {vs : List Value} (h : ArgsRel E R [v] vs) : ∃ x, vs = [x] ∧ Rel E R v x := by
  match vs, h.1 with
  | [x], _ => exact ⟨x, rfl, h.2 0 _ _ rfl rfl⟩
theorem intsOf_get : ∀ (s : List Nat) (k n : Nat), s[k]? = some n → (intsOf s)[k]? = some (.int .u8 (.ofNat n))
  | [], k, n, h => by cases h
  | a :: s, k, n, h => by
    cases k with
    | zero => injection h with h; subst h; rfl
    | succ k => exact intsOf_get s k n h
theorem intsOf_len : ∀ s : List Nat, (intsOf s).length = s.length
  | [] => rfl
  | _a :: s => congrArg Nat.succ (intsOf_len s)
theorem sum_ok (s : S) (l : List AV) (h : H) (vs : List Value) (E : Env) (R : Nat → Prop) (w0 w : World) (T : Ending → World → Prop) (inv : Inv Tryz.prog E R h w0 w) (ar : ArgsRel E R l vs) (hp : Post Tryz.prog w0 E R h T (iSum s l h)) : CallsIn (FW none) 0 Tryz.prog 155 vs.toArray w T := by
  obtain ⟨v, rfl, hp⟩ := one_arg hp
  obtain ⟨x, rfl, rx⟩ := one_val ar
  cases v with
  | nil t =>
    have hp : Post Tryz.prog w0 E R h T (cnd (Nat.beq t 1) .no .no) := hp
    cases hb : Nat.beq t 1 <;> (rw [hb] at hp; exact hp.elim)
  | sl i o n c ex =>
    have hp : Post Tryz.prog w0 E R h T (cnd (cnd (Nat.ble n c) (Nat.ble n 1000000) false) (rowOf h i .no fun r => onO (r.ext o n) .no fun l => onO (bytesOf l) .no fun b => stN (sumA b) fun x => .ret (.int .u32 (.ofNat x)) h) .no) := hp
    obtain ⟨h1, hp⟩ := cnd_not post_no hp
    obtain ⟨h1, h2⟩ := cnd_both h1
    have h1 := ble_le h1
    have h2 := ble_le h2
    obtain ⟨r, sp, hg, hp⟩ := rowOf_not post_no hp
    obtain ⟨cs, hx, hp⟩ := onO_not post_no hp
    obtain ⟨b, hb, hp⟩ := onO_not post_no hp
    rw [stN_eq] at hp
    obtain ⟨rx, hi⟩ := rx.sl
    obtain ⟨k1, k2⟩ := ext_get hx
    obtain ⟨k3, k4⟩ := bytesOf_some cs b hb
    have hlen : (b.map UInt8.ofNat).length = n := by rw [List.length_map, ← k1, k3, intsOf_len]
    have harg : ArgB w x (b.map UInt8.ofNat) := by
      refine ⟨some ⟨E.blk i, E.base i + o, none⟩, if ex then c else c + E.xc i, by rw [rx, hlen], by rw [hlen]; exact Nat.le_trans h1 cap_le, fun _ => ⟨E.blk i, E.base i + o, rfl, ?_⟩⟩
      intro k u hu
      simp only [u8s, List.map_map, List.getElem?_map, Option.map_eq_some_iff] at hu
      obtain ⟨m, hm, hu⟩ := hu
      have hm2 := intsOf_get b k m hm
      rw [← k3] at hm2
      obtain ⟨c1, _⟩ := cell_at inv hi hg (k2 k _ hm2)
      rw [Nat.add_assoc, c1, ← hu]
      have hlt := k4 m (List.mem_of_getElem? hm)
      simp only [Function.comp, conc, UInt8.toNat_ofNat']
      rw [Nat.mod_eq_of_lt (by omega)]
      rfl
    refine (callsIn_wide.2 (sum_any x (b.map UInt8.ofNat) w harg (by rw [hlen]; unfold maxLen; omega))).mono ?_
    rintro e w' ⟨rfl, rfl⟩
    refine hp E R w _ (Step.refl E R h) inv fun _ => ⟨trivial, ?_⟩
    rw [← sumA_eq b k4]
    rfl
  | _ => exact hp.elim
theorem okSites_mem {h : H} : ∀ (es : List (AV × AV × Nat)), okSites h es = true → ∀ x ∈ es, okSite h x.2.1 = true
  | [], _, x, hx => by cases hx
  | y :: es, hs, x, hx => by
    obtain ⟨h1, h2⟩ := cnd_both (show cnd (okSite h y.2.1) (okSites h es) false = true from hs)
    rcases List.mem_cons.1 hx with rfl | hx
    · exact h1
    · exact okSites_mem es h2 x hx
theorem rowOf_t {h : H} {i : Nat} {f : Row → Bool} (x : rowOf h i false f = true) : ∃ r sp, h.get i = some (.cells r sp) ∧ f r = true := by
  unfold rowOf at x
  cases hg : h.get i with
  | none => rw [hg] at x; cases x
  | some o =>
    cases o with
    | cells r sp => rw [hg] at x; exact ⟨r, sp, rfl, x⟩
    | _ => rw [hg] at x; cases x
theorem onO_t {α : Type} {o : Option α} {f : α → Bool} (x : onO o false f = true) : ∃ a, o = some a ∧ f a = true := by
  cases o with
  | none => cases x
  | some a => exact ⟨a, rfl, x⟩
theorem okSite_at {P : Program} {E : Env} {R : Nat → Prop} {h : H} {w0 w : World} {v : AV} (inv : Inv P E R h w0 w) (hv : v.On R) (hs : okSite h v = true) :
    ∃ sb so db dO n, conc E v = .pointer (some ⟨sb, so, none⟩) ∧ w.cell? ⟨sb, so, none⟩ = some (.pointer (some ⟨db, dO, none⟩)) ∧ w.cell? ⟨db, dO + 1, none⟩ = some (.int .i64 n) := by
  cases v with
  | ptr j p =>
    obtain ⟨r, sp, hg, hs⟩ := rowOf_t (show rowOf h j false (fun r => onO (r.get p) false fun d => d.onPtr false fun k q => rowOf h k false fun r => onO (r.get (Nat.succ q)) false fun n => n.onInt false fun k _ => eqK k .i64) = true from hs)
    obtain ⟨d, hd, hs⟩ := onO_t hs
    cases d with
    | ptr k q =>
      obtain ⟨r2, sp2, hg2, hs⟩ := rowOf_t (show rowOf h k false (fun r => onO (r.get (Nat.succ q)) false fun n => n.onInt false fun k _ => eqK k .i64) = true from hs)
      obtain ⟨m, hm, hs⟩ := onO_t hs
      cases m with
      | int kk n =>
        have hs := eqK_eq (show eqK kk .i64 = true from hs)
        subst hs
        obtain ⟨c1, o1⟩ := cell_at inv hv hg hd
        obtain ⟨c2, _⟩ := cell_at inv o1 hg2 hm
        exact ⟨_, _, _, _, n, rfl, c1, c2⟩
      | _ => cases hs
    | _ => cases hs
  | _ => cases hs
theorem written_ok (s : S) (l : List AV) (h : H) (vs : List Value) (E : Env) (R : Nat → Prop) (w0 w : World) (T : Ending → World → Prop) (inv : Inv Tryz.prog E R h w0 w) (ar : ArgsRel E R l vs) (hp : Post Tryz.prog w0 E R h T (iUnk s l h)) : CallsIn (FW none) 0 Tryz.prog 19 vs.toArray w T := by
  obtain ⟨v, rfl, hp⟩ := one_arg hp
  obtain ⟨x, rfl, rx⟩ := one_val ar
  cases v with
  | ptr i o =>
    have hp : Post Tryz.prog w0 E R h T (rowOf h i .no fun r => onO (r.get (Nat.add o 3)) .no fun m => m.onRef .no fun t m => cnd (Nat.beq t 0)
      (onMap (h.get m) .no fun es _ => cnd (okSites h es) (.ret (.ref 1 h.n) (h.skip 1)) .no) .no) := hp
    obtain ⟨rx, hi⟩ := rx.ptr
    obtain ⟨r, sp, hg, hp⟩ := rowOf_not post_no hp
    obtain ⟨u, hu, hp⟩ := onO_not post_no hp
    cases u with
    | ref t m =>
      have hp : Post Tryz.prog w0 E R h T (cnd (Nat.beq t 0) (onMap (h.get m) .no fun es _ => cnd (okSites h es) (.ret (.ref 1 h.n) (h.skip 1)) .no) .no) := hp
      obtain ⟨ht, hp⟩ := cnd_not post_no hp
      have ht := beq_e ht
      subst ht
      obtain ⟨c1, _, hm⟩ := cell_at inv hi hg hu
      cases hgm : h.get m with
      | none => rw [hgm] at hp; exact hp.elim
      | some ob =>
        cases ob with
        | map es c =>
          rw [hgm] at hp
          obtain ⟨hs, hp⟩ := cnd_not (T := Post Tryz.prog w0 E R h T) post_no (show Post Tryz.prog w0 E R h T (cnd (okSites h es) (.ret (.ref 1 h.n) (h.skip 1)) .no) from hp)
          obtain ⟨m1, m2⟩ := inv.obj m _ hm hgm
          have hsa : SitesAt w (E.blk m) (es.map (concE E)).toArray c := by
            refine ⟨m1, fun e he => ?_, fun e he => ?_⟩
            · obtain ⟨y, hy, rfl⟩ := List.mem_map.1 (by simpa using he : e ∈ es.map (concE E))
              exact (m2 y hy).2.2
            · obtain ⟨y, hy, rfl⟩ := List.mem_map.1 (by simpa using he : e ∈ es.map (concE E))
              exact okSite_at inv (m2 y hy).2.1 (okSites_mem es hs y hy)
          rw [rx]
          refine (callsIn_wide.2 (written_any w (E.blk i) (E.base i + o) (E.blk m) _ c c1 hsa)).mono ?_
          rintro e w' ⟨⟨n, rfl⟩, hb⟩
          have ag : ∀ j, j ≠ h.n → E.Agree (E.upd h.n 0 0 0 n) j := fun j hj => upd_agree E h.n _ _ _ _ j hj
          obtain ⟨s1, i1⟩ := skip_step inv ag
          refine hp (E.upd h.n 0 0 0 n) _ w' _ s1 (inv_below i1 hb) fun _ => ⟨⟨by decide, .inr rfl⟩, ?_⟩
          simp [conc, Env.upd]
        | _ => rw [hgm] at hp; exact hp.elim
    | _ => exact hp.elim
  | _ => exact hp.elim
theorem intr_ok : IOk Tryz.prog intr := by
  intro f g hg s sok l h vs E R w0 w T inv ar hp
  unfold intr at hg
  cases h1 : Nat.beq f 19 with
  | true =>
    rw [h1, cnd_t] at hg
    injection hg with hg
    subst hg
    rw [beq_e h1]
    exact written_ok s l h vs E R w0 w T inv ar hp
  | false =>
    rw [h1, cnd_f] at hg
    cases h2 : Nat.beq f 155 with
    | true =>
      rw [h2, cnd_t] at hg
      injection hg with hg
      subst hg
      rw [beq_e h2]
      exact sum_ok s l h vs E R w0 w T inv ar hp
    | false => rw [h2] at hg; cases hg
end Go.Proofs.YtccadcefhfdmgaaGreatDoor.Ev
