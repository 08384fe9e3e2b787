/- The evaluator is sound: what it answers the program does. No condition beyond what each theorem states. -/
import Derived.Test.YtccadcefhfdmgaaGreatDoorEvE
namespace Go.Proofs.YtccadcefhfdmgaaGreatDoor.Ev
open Go
def Grew (w w' : World) (x : Obj) : Prop := w'.heap = w.heap.push x ∧ w'.os = w.os ∧ w'.tape = w.tape ∧ w'.output = w.output
def NewOk (P : Program) (o : Oper) (cd : Operand → Bx Od) (f : List AV → A → H → Nat → Option (AV × AO)) : Prop :=
  ∀ (E : Env) (R : Nat → Prop) (h : H) (w0 w : World) (e : List AV) (a : A) (ρ : Operand → Value) (nid : Nat) (v : AV) (ob : AO), Inv P E R h w0 w → OpsRel E R cd e a ρ o.op.operands.toList → f e a h nid = some (v, ob) → ¬ R nid →
    ∃ (v' : Value) (x : Obj) (w' : World) (E' : Env), (execOp ρ o).run P w = .ok (.value v') w' ∧ Grew w w' x ∧ (∀ j, j ≠ nid → E.Agree E' j) ∧ E'.blk nid = w.heap.size ∧ Rel E' (fun j => R j ∨ j = nid) v v' ∧ ObjOk P E' (fun j => R j ∨ j = nid) nid w' ob
section
variable {P : Program} {o : Oper} {cd : Operand → Bx Od}
theorem Grew.alloc (w : World) (x : Obj) : Grew w (w.alloc x) x := ⟨rfl, rfl, rfl, rfl⟩
theorem Grew.at {w w' : World} {x : Obj} (h : Grew w w' x) : w'.heap[w.heap.size]? = some x := by rw [h.1]; simp
theorem obj_new {E E' : Env} {R : Nat → Prop} {nid : Nat} {w w' : World} {r : Row} {sp : Nat} {cs : Array Value} {t : TypeId} {fz : Nat × Nat} (hg : Grew w w' (.cells cs t fz)) (hag : ∀ j, j ≠ nid → E.Agree E' j) (hn : ¬ R nid) (hb : E'.blk nid = w.heap.size) (h0 : E'.base nid = 0)
    (hwf : r.wf) (hsz : r.len + E'.xc nid * sp ≤ cs.size) (hfz : ∀ o, o < cs.size → ¬ (fz.1 ≤ o ∧ o < fz.2)) (hc : ∀ o v, r.get o = some v → v.On R ∧ v.one = true ∧ cs[o]? = some (conc E v)) :
    ObjOk P E' (fun j => R j ∨ j = nid) nid w' (.cells r sp) := by
  refine ⟨cs, t, fz, by rw [hb]; exact hg.at, ⟨hwf, by rw [h0]; omega, hfz, ?_⟩⟩
  intro o v hv
  obtain ⟨h1, h2, h3⟩ := hc o v hv
  have : conc E' v = conc E v := conc_agree (fun i hi => hag i (fun e => hn (e ▸ hi))) v h1
  exact ⟨On.mono (fun _ h => .inl h) v h1, h2, get_lt hv, by rw [h0, Nat.zero_add, this]; exact h3⟩
theorem list_cells {E : Env} {R : Nat → Prop} {l : List AV} (hl : Ons R l) (h1 : oneL l = true) : ∀ o v, (Row.ofList l).get o = some v → v.On R ∧ v.one = true ∧ (concs E l).toArray[o]? = some (conc E v) := by
  intro o v hv
  have hv := ofList_get hv
  refine ⟨(Ons_iff l).1 hl v (List.mem_of_getElem? hv), (oneL_iff l).1 h1 v (List.mem_of_getElem? hv), ?_⟩
  rw [concs_map, List.getElem?_toArray, List.getElem?_map, hv]; rfl
theorem ok_alloc {t : TypeId} {z : AV} (ho : o.op = .alloc t) (hz : zeroT P t = some z) (h1 : oneL z.cells = true) : NewOk P o cd (qAlloc (Row.ofList z.cells)) := by
  intro E R h w0 w e a ρ nid v ob inv rel hq hn
  have hq : some (AV.ptr nid 0, AO.cells (Row.ofList z.cells) 0) = some (v, ob) := hq
  rw [Option.some.injEq, Prod.mk.injEq] at hq
  obtain ⟨rfl, rfl⟩ := hq
  obtain ⟨z1, z2⟩ := run_zero (w := w) E R hz
  obtain ⟨_, _, z3⟩ := cells_rel (Rel.of (E := E) z2) h1
  have ag := upd_agree E nid w.heap.size 0 0 0
  refine ⟨.pointer (some ⟨w.heap.size, 0, none⟩), _, _, E.upd nid w.heap.size 0 0 0, ?_, Grew.alloc w (.cells (concs E z.cells).toArray t), ag, by simp [Env.upd], ?_, ?_⟩
  · simp only [execOp, ho]
    refine run_v ?_
    rw [Instr.alloc, run_b z1]
    simp only [newVar, newRow, conc_cells]
    rfl
  · exact fun _ => ⟨.inr rfl, by simp [conc, Env.upd]⟩
  · refine obj_new (Grew.alloc w _) ag hn (by simp [Env.upd]) (by simp [Env.upd]) (ofList_wf _) (by rw [ofList_len, concs_map]; simp) (by intro o _ h; omega) (list_cells z3 h1)
theorem ok_box {t : TypeId} {x : Operand} (ho : o.op = .box t x) : NewOk P o cd (qBox (cd x).out) := by
  intro E R h w0 w e a ρ nid v ob inv rel hq hn
  rw [ho] at rel
  obtain ⟨h1, hq⟩ := cnd_some hq
  rw [Option.some.injEq, Prod.mk.injEq] at hq
  obtain ⟨rfl, rfl⟩ := hq
  obtain ⟨z1, _, z3⟩ := cells_rel (rel x (by simp [Op.operands])) h1
  have ag := upd_agree E nid w.heap.size 0 0 0
  refine ⟨.pointer (some ⟨w.heap.size, 0, none⟩), _, _, E.upd nid w.heap.size 0 0 0, ?_, Grew.alloc w (.cells (concs E ((cd x).out e a).cells).toArray t), ag, by simp [Env.upd], ?_, ?_⟩
  · simp only [execOp, ho]
    refine run_v ?_
    rw [Instr.box, z1]
    simp only [newVar, newRow, conc_cells]
    rfl
  · exact fun _ => ⟨.inr rfl, by simp [conc, Env.upd]⟩
  · refine obj_new (Grew.alloc w _) ag hn (by simp [Env.upd]) (by simp [Env.upd]) (ofList_wf _) (by rw [ofList_len, concs_map]; simp) (by intro o _ h; omega) (list_cells z3 h1)
theorem repL_get (z : List AV) : ∀ (c i : Nat), i < c * z.length → (repL z c)[i]? = z[i % z.length]?
  | 0, i, h => by omega
  | c + 1, i, h => by
    rw [repL_succ]
    by_cases hi : i < z.length
    · rw [List.getElem?_append_left hi, Nat.mod_eq_of_lt hi]
    · rw [List.getElem?_append_right (by omega), repL_get z c _ (by rw [Nat.succ_mul] at h; omega)]
      congr 1
      rw [← Nat.mod_eq_sub_mod (by omega)]
theorem repL_all {z : List AV} {c : Nat} : ∀ v ∈ repL z c, v ∈ z := by
  induction c with
  | zero => intro v h; cases h
  | succ c ih =>
    intro v h
    rw [repL_succ] at h
    rcases List.mem_append.1 h with h | h
    · exact h
    · exact ih v h
theorem zero_cells (E : Env) (z : List AV) (c n : Nat) (hn : z.length = n) (zs : Array Value) (hz : c * n ≠ 0 → zs = (concs E z).toArray) : (Array.range (c * n)).map (fun i => zs[i % zs.size]!) = (concs E (repL z c)).toArray := by
  apply Array.ext_getElem?
  intro i
  by_cases hi : i < c * n
  · have hz := hz (by omega)
    subst hz
    have hs : (concs E z).toArray.size = n := by rw [concs_map]; simpa using hn
    have hn0 : 0 < n := by
      rcases Nat.eq_zero_or_pos n with h | h
      · subst h; simp at hi
      · exact h
    have hm : i % n < n := Nat.mod_lt _ hn0
    rw [Array.getElem?_map, Array.getElem?_range, if_pos hi]
    rw [concs_map (l := repL z c), List.getElem?_toArray, List.getElem?_map, repL_get z c i (by rw [hn]; exact hi), hn]
    simp only [Option.map_some, hs]
    rw [List.getElem?_eq_getElem (by omega : i % n < z.length)]
    simp only [Option.map_some, Option.some.injEq]
    rw [getElem!_pos (concs E z).toArray (i % n) (by rw [hs]; exact hm)]
    simp [concs_map]
  · rw [Array.getElem?_map, Array.getElem?_range, if_neg hi]
    rw [concs_map, List.getElem?_toArray, List.getElem?_map, List.getElem?_eq_none (by rw [repL_length, hn]; omega)]
    rfl
theorem ok_buildS {t el : TypeId} {len n : Nat} {ps : Array (Nat × Operand)} {z : AV} (ho : o.op = .buildSlice t len ps) (ht : P.underlying t = some (.slice el)) (hs : szT P el = some n) (hz : zeroT P el = some z)
    (hn : z.cells.length = n) (h1 : oneL z.cells = true) (hle : len * n ≤ 16777216) : NewOk P o cd (qBuildS (repL z.cells len) len (fillB cd (partsN n ps.toList)).out) := by
  intro E R h w0 w e a ρ nid v ob inv rel hq hnn
  rw [ho] at rel
  obtain ⟨l, q1, hq⟩ := onO_some hq
  rw [Option.some.injEq, Prod.mk.injEq] at hq
  obtain ⟨rfl, rfl⟩ := hq
  obtain ⟨z1, z2⟩ := run_zero (w := w) E R hz
  obtain ⟨_, _, z3⟩ := cells_rel (Rel.of (E := E) z2) h1
  have z4 : Ons R (repL z.cells len) := by
    rw [Ons_iff] at z3 ⊢
    exact fun v hv => z3 v (repL_all v hv)
  have z5 : oneL (repL z.cells len) = true := by
    rw [oneL_iff] at h1 ⊢
    exact fun v hv => h1 v (repL_all v hv)
  obtain ⟨h3, h4, _, h5⟩ := fill_run (partsN_parts n ps.toList) (rel_parts (t := t) rel) _ _ z4 q1
  have h5 := h5 z5
  have ag := upd_agree E nid w.heap.size 0 0 0
  refine ⟨.slice (some ⟨w.heap.size, 0, none⟩) len len, _, _, E.upd nid w.heap.size 0 0 0, ?_, Grew.alloc w (.cells (concs E l).toArray el), ag, by simp [Env.upd], ?_, ?_⟩
  · simp only [execOp, ho]
    refine run_v ?_
    rw [Instr.buildSlice, run_b (run_U ht)]
    simp only []
    rw [run_b (run_S hs)]
    have e : (ps.map fun x => (x.1, ρ x.2)).toList = ps.toList.map fun p => (p.1, ρ p.2) := by simp
    have hbig : ¬ (len * n > 2 ^ 24) := by omega
    simp only [hbig, if_false]
    by_cases h0 : len * n = 0
    · have hzc := zero_cells E z.cells len n hn #[] (fun h => absurd h0 h)
      simp only [h0, if_true]
      rw [run_b (Sem.run_pure P w _)]
      rw [h0] at hzc
      rw [hzc, e, h3]
      rfl
    · have hzc := zero_cells E z.cells len n hn _ (fun _ => rfl)
      simp only [h0, if_false]
      rw [run_b z1, run_b (Sem.run_pure P w _), conc_cells, hzc, e, h3]
      rfl
  · exact fun _ => ⟨.inr rfl, by simp [conc, Env.upd]⟩
  · refine obj_new (Grew.alloc w _) ag hnn (by simp [Env.upd]) (by simp [Env.upd]) (ofList_wf _) (by rw [ofList_len, concs_map]; simp) (by intro o _ h; omega) (list_cells h4 h5)
theorem ok_makeMap {t : TypeId} (ho : o.op = .makeMap t none) : NewOk P o cd qMkM := by
  intro E R h w0 w e a ρ nid v ob inv rel hq hn
  have hq : some (AV.ref 0 nid, AO.map [] 0) = some (v, ob) := hq
  rw [Option.some.injEq, Prod.mk.injEq] at hq
  obtain ⟨rfl, rfl⟩ := hq
  have ag := upd_agree E nid w.heap.size 0 0 0
  refine ⟨.map (some w.heap.size), _, _, E.upd nid w.heap.size 0 0 0, ?_, Grew.alloc w (.map #[] 0), ag, by simp [Env.upd], ?_, ?_⟩
  · simp only [execOp, ho]
    refine run_v ?_
    rfl
  · exact fun _ => ⟨⟨by decide, .inr rfl⟩, by simp [conc, Env.upd]⟩
  · refine ⟨?_, fun x hx => by cases hx⟩
    rw [show (E.upd nid w.heap.size 0 0 0).blk nid = w.heap.size by simp [Env.upd]]
    exact (Grew.alloc w _).at
theorem wrap_small {n : Nat} (h : n ≤ 9223372036854775807) : IntKind.i64.wrap (n : Int) = n := wrap_id (k := .i64) h
theorem zRow_some {z : List AV} {sz c : Nat} {r : Row} (hz : z.length = sz) (h : zRow z sz c = some r) : r.wf ∧ r.len = c * sz ∧ ∀ o v, r.get o = some v → (repL z c)[o]? = some v := by
  have h' : cnd (Nat.ble (c * sz) 64) (some (Row.ofList (repL z c))) (cnd (Nat.beq sz 0) none (some (.big .e (c * sz) sz z))) = some r := h
  cases hb : Nat.ble (c * sz) 64 with
  | true =>
    rw [hb, cnd_t, Option.some.injEq] at h'
    subst h'
    exact ⟨ofList_wf _, by rw [ofList_len, repL_length, hz], fun o v hv => ofList_get hv⟩
  | false =>
    rw [hb, cnd_f] at h'
    cases h0 : Nat.beq sz 0 with
    | true => rw [h0] at h'; cases h'
    | false =>
      rw [h0, cnd_f, Option.some.injEq] at h'
      subst h'
      have h0 := beq_ne h0
      refine ⟨by show 0 < sz; omega, rfl, fun o v hv => ?_⟩
      obtain ⟨h1, h2⟩ := big_get hv
      unfold chunk at h2
      rw [trget_e, onO_n] at h2
      rw [repL_get z c o (by rw [hz]; exact h1), hz]
      exact h2
theorem ok_makeSlice {t el : TypeId} {l c : Operand} {i : TypeInfo} {z : AV} (ho : o.op = .makeSlice t l c) (ht : P.underlying t = some (.slice el)) (hi : P.info? el = some i) (hz : zeroT P el = some z)
    (hn : z.cells.length = i.size) (h1 : oneL z.cells = true) : NewOk P o cd (qMkS i.size i.bytes z.cells (cd l).out (cd c).out) := by
  intro E R h w0 w e a ρ nid v ob inv rel hq hnn
  rw [ho] at rel
  obtain ⟨k1, m, hl, q1⟩ := onN_some hq
  obtain ⟨k2, n, hc, q2⟩ := onN_some q1
  obtain ⟨q3, q4⟩ := cnd_some q2
  obtain ⟨q5, q6⟩ := cnd_some q4
  obtain ⟨q7, q8⟩ := cnd_and q5
  obtain ⟨r, q9, q10⟩ := onO_some q6
  rw [Option.some.injEq, Prod.mk.injEq] at q10
  obtain ⟨rfl, rfl⟩ := q10
  have q3 := ble_le q3
  have q7 := ble_le q7
  have q8 : n * i.bytes ≤ 1000000 := ble_le q8
  have rl := rel l (by simp [Op.operands]); rw [hl] at rl; have rl := rl.int
  have rc := rel c (by simp [Op.operands]); rw [hc] at rc; have rc := rc.int
  obtain ⟨z1, z2⟩ := run_zero (w := w) E R hz
  obtain ⟨_, _, z3⟩ := cells_rel (Rel.of (E := E) z2) h1
  obtain ⟨r1, r2, r3⟩ := zRow_some hn q9
  have ag := upd_agree E nid w.heap.size 0 0 0
  have z4 : Ons R (repL z.cells n) := by
    rw [Ons_iff] at z3 ⊢
    exact fun v hv => z3 v (repL_all v hv)
  have z5 : oneL (repL z.cells n) = true := by
    rw [oneL_iff] at h1 ⊢
    exact fun v hv => h1 v (repL_all v hv)
  refine ⟨.slice (some ⟨w.heap.size, 0, none⟩) m n, _, _, E.upd nid w.heap.size 0 0 0, ?_, Grew.alloc w (.cells (concs E (repL z.cells n)).toArray el), ag, by simp [Env.upd], ?_, ?_⟩
  · simp only [execOp, ho]
    refine run_v ?_
    have w1 : IntKind.i64.wrap (m : Int) = m := wrap_small (by omega)
    have w2 : IntKind.i64.wrap (n : Int) = n := wrap_small (by omega)
    have hbig : ¬ ((i.bytes : Int) * (n : Int) > 2 ^ 48) := by
      have : (i.bytes : Int) * (n : Int) = ((n * i.bytes : Nat) : Int) := by rw [Nat.mul_comm]; simp
      rw [this]; omega
    rw [Instr.makeSlice, run_b (run_U ht)]
    simp only [rl, rc, asInt, asIntOf]
    simp only [Sem.run_bind, Sem.run_pure, Result.andThen_ok, run_I hi, w1, w2]
    have hcond : (decide ((n : Int) < 0) || decide ((i.bytes : Int) * (n : Int) > 2 ^ 48) || decide ((m : Int) < 0) || decide ((m : Int) > (n : Int))) = false := by
      have a1 : ¬ ((n : Int) < 0) := by omega
      have a2 : ¬ ((m : Int) < 0) := by omega
      have a3 : ¬ ((m : Int) > (n : Int)) := by omega
      simp only [decide_eq_false a1, decide_eq_false a2, decide_eq_false a3, decide_eq_false hbig, Bool.or_self]
    rw [hcond]
    simp only [Bool.false_eq_true, if_false]
    have hsz : (sizeOf el).run P w = .ok i.size w := by rw [sizeOf, run_b (run_I hi)]; rfl
    rw [run_b (run_askRoom P w _), run_b hsz]
    simp only [Int.toNat_natCast]
    by_cases h0 : n * i.size = 0
    · have hzc := zero_cells E z.cells n i.size hn #[] (fun h => absurd h0 h)
      simp only [h0, if_true]
      rw [run_b (Sem.run_pure P w _)]
      rw [h0] at hzc
      rw [hzc]
      rfl
    · have hzc := zero_cells E z.cells n i.size hn _ (fun _ => rfl)
      simp only [h0, if_false]
      rw [run_b z1, run_b (Sem.run_pure P w _), conc_cells, hzc]
      rfl
  · exact fun _ => ⟨.inr rfl, by simp [conc, Env.upd]⟩
  · refine obj_new (Grew.alloc w _) ag hnn (by simp [Env.upd]) (by simp [Env.upd]) r1 (by rw [r2, concs_map]; simp [repL_length, hn]) (by intro o _ h; omega) fun o v hv => ?_
    have hv := r3 o v hv
    refine ⟨(Ons_iff _).1 z4 v (List.mem_of_getElem? hv), (oneL_iff _).1 z5 v (List.mem_of_getElem? hv), ?_⟩
    rw [concs_map, List.getElem?_toArray, List.getElem?_map, hv]; rfl
theorem ok_range {t kt el : TypeId} {x : Operand} (ho : o.op = .range t x) (ht : P.underlying t = some (.map kt el)) : NewOk P o cd (qRng (cd x).out) := by
  intro E R h w0 w e a ρ nid v ob inv rel hq hn
  rw [ho] at rel
  have rx := rel x (by simp [Op.operands])
  have ag := upd_agree E nid w.heap.size 0 0 0
  rcases onRef_some hq with ⟨u, i, hx, q1⟩ | ⟨q1, _⟩
  · rw [hx] at rx
    obtain ⟨q2, q3⟩ := cnd_some q1
    have q2 := beq_e q2
    subst q2
    obtain ⟨es, c, q4, q5⟩ := onMap_some q3
    rw [Option.some.injEq, Prod.mk.injEq] at q5
    obtain ⟨rfl, rfl⟩ := q5
    obtain ⟨⟨_, hi⟩, rx⟩ := rx rfl
    have rx : ρ x = .map (some (E.blk i)) := rx
    obtain ⟨hm, hes⟩ := inv.obj i _ hi q4
    have hin : i ≠ nid := fun e => hn (e ▸ hi)
    refine ⟨.pointer (some ⟨w.heap.size, 0, none⟩), _, _, E.upd nid w.heap.size 0 0 0, ?_, Grew.alloc w (.mapIter (some (E.blk i)) c #[] c), ag, by simp [Env.upd], ?_, ?_⟩
    · simp only [execOp, ho, rx]
      refine run_v ?_
      rw [Instr.range, run_b (run_U ht)]
      simp only []
      rw [run_b (getObj_map hm)]
      rfl
    · exact fun _ => ⟨.inr rfl, by simp [conc, Env.upd]⟩
    · refine ⟨?_, fun j hj => ?_, by simp [Env.upd]⟩
      · rw [show (E.upd nid w.heap.size 0 0 0).blk nid = w.heap.size by simp [Env.upd]]
        rw [(Grew.alloc w _).at]
        simp [Env.upd, hin]
      · injection hj with hj; subst hj; exact .inl hi
  · obtain ⟨u, hx, q2⟩ := onNil_some q1
    obtain ⟨q3, q4⟩ := cnd_some q2
    have q3 := beq_e q3
    subst q3
    rw [Option.some.injEq, Prod.mk.injEq] at q4
    obtain ⟨rfl, rfl⟩ := q4
    rw [hx] at rx
    have rx : ρ x = .map none := (rx rfl).2
    refine ⟨.pointer (some ⟨w.heap.size, 0, none⟩), _, _, E.upd nid w.heap.size 0 0 0, ?_, Grew.alloc w (.mapIter none 0 #[] 0), ag, by simp [Env.upd], ?_, ?_⟩
    · simp only [execOp, ho, rx]
      refine run_v ?_
      rw [Instr.range, run_b (run_U ht)]
      rfl
    · exact fun _ => ⟨.inr rfl, by simp [conc, Env.upd]⟩
    · refine ⟨?_, (fun j hj => by cases hj), by simp [Env.upd]⟩
      rw [show (E.upd nid w.heap.size 0 0 0).blk nid = w.heap.size by simp [Env.upd]]
      rw [(Grew.alloc w _).at]; rfl
theorem ok_cvSB {s d u : TypeId} {x : Operand} (ho : o.op = .convert s d x) (hs : P.underlying s = some .string) (hd : P.underlying d = some (.slice u)) (hu : P.underlying u = some (.int .u8)) : NewOk P o cd (qCvSB (cd x).out) := by
  intro E R h w0 w e a ρ nid v ob inv rel hq hn
  rw [ho] at rel
  obtain ⟨l, hx, q1⟩ := onStr_some hq
  rw [Option.some.injEq, Prod.mk.injEq] at q1
  obtain ⟨rfl, rfl⟩ := q1
  have rx := rel x (by simp [Op.operands]); rw [hx] at rx; obtain ⟨rx, hl⟩ := rx.str
  generalize hq : Question.cut (.appendCap (strV l).size 0 u) (w.tape w.drawn (.appendCap (strV l).size 0 u)) = q
  have hqn : l.length ≤ q := by rw [← hq]; simp [Question.cut, strV_size]
  have ag := upd_agree E nid w.heap.size 0 (q - l.length) 0
  have hcs : ((strV l).data.map fun b => (.int .u8 b.toNat : Value)) = (concs E (intsOf l)).toArray := by
    rw [concs_intsOf]
    apply Array.ext'
    simp only [strV, Array.toList_map, List.map_map]
    refine List.map_congr_left fun b hb => ?_
    simp [Nat.mod_eq_of_lt (hl b hb)]
  generalize hC : (concs E (intsOf l)).toArray ++ Array.replicate (q - (strV l).size) (Value.int .u8 0) = cs
  have hcl : (concs E (intsOf l)).length = l.length := by rw [concs_intsOf]; simp
  have hsz : cs.size = l.length + (q - l.length) := by rw [← hC]; simp [strV_size, hcl]
  have hrun : (Conv.stringToBytes u (strV l)).run P w = .ok (.slice (some ⟨w.heap.size, 0, none⟩) (strV l).size q) (((w.drew).alloc (.cells cs u)).freeze ⟨w.heap.size, cs.size, none⟩ 1) := by
    rw [Conv.stringToBytes]
    have c1 : (choose (.appendCap (strV l).size 0 u)).run P w = .ok q w.drew := by
      rw [run_choose, ← hq]; rfl
    rw [run_b c1]
    simp only [hcs, hC]
    have c2 : (newRow u cs).run P w.drew = .ok ⟨w.heap.size, 0, none⟩ (w.drew.alloc (.cells cs u)) := rfl
    rw [run_b c2]
    have c3 : (markStringish ⟨w.heap.size, 0, none⟩).run P (w.drew.alloc (.cells cs u)) = .ok () ((w.drew.alloc (.cells cs u)).freeze ⟨w.heap.size, cs.size, none⟩ 1) := by
      have c4 : (shape w.heap.size).run P (w.drew.alloc (.cells cs u)) = .ok (some (u, cs.size)) (w.drew.alloc (.cells cs u)) := by
        rw [run_shape]
        have := (Grew.alloc w.drew (.cells cs u)).at
        simp only [World.shape?]
        rw [show w.heap.size = w.drew.heap.size from rfl, this]
      rw [markStringish, run_b c4]; rfl
    rw [run_b c3]; rfl
  have hgrew : Grew w (((w.drew).alloc (.cells cs u)).freeze ⟨w.heap.size, cs.size, none⟩ 1) (.cells cs u (cs.size, cs.size + 1)) := by
    refine ⟨?_, rfl, rfl, rfl⟩
    simp only [World.freeze, World.alloc, World.drew, Nat.one_ne_zero, if_false]
    apply Array.ext_getElem?
    intro k
    rw [Array.getElem?_modify, Array.getElem?_push, Array.getElem?_push]
    by_cases hk : w.heap.size = k
    · subst hk; simp
    · rw [if_neg hk, if_neg (fun e => hk e.symm), if_neg (fun e => hk e.symm)]
  refine ⟨.slice (some ⟨w.heap.size, 0, none⟩) (strV l).size q, _, _, E.upd nid w.heap.size 0 (q - l.length) 0, ?_, hgrew, ag, by simp [Env.upd], ?_, ?_⟩
  · simp only [execOp, ho, rx]
    refine run_v ?_
    rw [convert, run_b (run_U hs), run_b (run_U hd)]
    simp only []
    rw [run_b (run_U hu)]
    exact hrun
  · refine fun _ => ⟨.inr rfl, ?_⟩
    simp only [conc, Env.upd, strV_size, lenL_eq, if_true, Bool.false_eq_true, if_false]
    congr 2
    omega
  · refine obj_new hgrew ag hn (by simp [Env.upd]) (by simp [Env.upd]) (ofList_wf _) (by
      rw [ofList_len, hsz, show (intsOf l).length = l.length by rw [← hcl, concs_map, List.length_map]]; simp [Env.upd]) (by intro o ho h; simp at h; omega) fun o v hv => ?_
    have hv := ofList_get hv
    have key : ∀ (l : List Nat) (o : Nat) (v : AV), (intsOf l)[o]? = some v → ∃ n : Nat, v = .int .u8 (.ofNat n) := by
      intro l
      induction l with
      | nil => intro o v h; cases h
      | cons a l ih =>
        intro o v h
        cases o with
        | zero => exact ⟨a, by injection h with h; exact h.symm⟩
        | succ o => exact ih o v h
    obtain ⟨m, rfl⟩ := key l o v hv
    refine ⟨trivial, rfl, ?_⟩
    rw [← hC, Array.getElem?_append_left (by
      have := (List.getElem?_eq_some_iff.1 hv).1
      rw [show (intsOf l).length = l.length by rw [← hcl, concs_map, List.length_map]] at this
      simpa [hcl] using this)]
    rw [concs_map, List.getElem?_toArray, List.getElem?_map, hv]; rfl
end
end Go.Proofs.YtccadcefhfdmgaaGreatDoor.Ev
namespace Go.Proofs.YtccadcefhfdmgaaGreatDoor.Ev
open Go
section
variable {P : Program}
theorem objOk_at {E : Env} {R : Nat → Prop} {i : Nat} {w : World} {o : AO} (h : ObjOk P E R i w o) : ∃ x, w.heap[E.blk i]? = some x := by
  cases o with
  | cells r sp => obtain ⟨cs, t, fz, h, _⟩ := h; exact ⟨_, h⟩
  | map es c => exact ⟨_, h.1⟩
  | iter m s l k => exact ⟨_, h.1⟩
  | loop => obtain ⟨x, tm, _, _, _, _, _, h, _⟩ := h; exact ⟨_, h⟩
  | dfr => exact ⟨_, h⟩
theorem objOk_lt {E : Env} {R : Nat → Prop} {i : Nat} {w : World} {o : AO} (h : ObjOk P E R i w o) : E.blk i < w.heap.size := by
  obtain ⟨x, h⟩ := objOk_at h
  exact (Array.getElem?_eq_some_iff.1 h).1
theorem concE_agree {E E' : Env} {R : Nat → Prop} (h : ∀ i, R i → E.Agree E' i) (x : AV × AV × Nat) (h1 : x.1.On R) (h2 : x.2.1.On R) : concE E' x = concE E x := by
  simp only [concE, conc_agree h _ h1, conc_agree h _ h2]
theorem objOk_step {E E' : Env} {R R' : Nat → Prop} {j : Nat} {w w' : World} {o : AO} (hag : ∀ i, R i → E.Agree E' i) (hR : ∀ i, R i → R' i) (hj : R j) (hw : w'.heap[E.blk j]? = w.heap[E.blk j]?) (h : ObjOk P E R j w o) : ObjOk P E' R' j w' o := by
  have aj := hag j hj
  cases o with
  | cells r sp =>
    obtain ⟨cs, t, fz, h1, h2⟩ := h
    refine ⟨cs, t, fz, by rw [aj.blk, hw, h1], h2.wf, by rw [aj.base, aj.xc]; exact h2.size, h2.free, fun o v hv => ?_⟩
    obtain ⟨h3, h4, h5, h6⟩ := h2.cell o v hv
    exact ⟨On.mono hR v h3, h4, h5, by rw [aj.base, conc_agree hag v h3]; exact h6⟩
  | map es c =>
    obtain ⟨h1, h2⟩ := h
    refine ⟨?_, fun x hx => ⟨On.mono hR _ (h2 x hx).1, On.mono hR _ (h2 x hx).2.1, (h2 x hx).2.2⟩⟩
    rw [aj.blk, hw, h1]
    congr 3
    exact List.map_congr_left fun x hx => (concE_agree hag x (h2 x hx).1 (h2 x hx).2.1).symm
  | iter m s l k =>
    obtain ⟨h1, h2, h3⟩ := h
    refine ⟨?_, fun i hi => hR i (h2 i hi), by rw [aj.base]; exact h3⟩
    rw [aj.blk, hw, h1]
    cases m with
    | none => rfl
    | some m => simp only [Option.map_some, (hag m (h2 m rfl)).blk]
  | loop st pe fn tm ps asg body df =>
    obtain ⟨x, tmps, fn', h1, h2, h3, h6, h4, h5⟩ := h
    refine ⟨x, tmps, fn', h1, fun t ht => (h2 t ht).mono hR hag, h3, h6, ?_, hR df h5⟩
    rw [aj.blk, hw, h4, (hag df h5).blk]
  | dfr =>
    show w'.heap[E'.blk j]? = _
    rw [aj.blk, hw]; exact h
theorem inv_new {E E' : Env} {R : Nat → Prop} {h h' : H} {w0 w w' : World} {x : Obj} {nid : Nat} {ob : AO} (inv : Inv P E R h w0 w) (hn : ¬ R nid) (hg : Grew w w' x) (hag : ∀ j, j ≠ nid → E.Agree E' j) (hb : E'.blk nid = w.heap.size) (hob : ObjOk P E' (fun j => R j ∨ j = nid) nid w' ob)
    (h1 : nid < h'.n) (h2 : ∀ o, h'.get nid = some o → o = ob) (h3 : ∀ j, R j → h'.get j = h.get j) (h4 : h.n ≤ h'.n) (h5 : ∀ i, h'.n ≤ i → h'.get i = none) : Inv P E' (fun j => R j ∨ j = nid) h' w0 w' := by
  have hag' : ∀ i, R i → E.Agree E' i := fun i hi => hag i fun e => hn (e ▸ hi)
  have hsz : w0.heap.size ≤ w.heap.size := inv.bel.size
  refine ⟨fun i hi => ?_, h5, fun i o hi hg' => ?_, fun i j o p hi hj hgi hgj he => ?_, fun i o hi hgi => ?_, ?_⟩
  · rcases hi with hi | rfl
    · exact Nat.lt_of_lt_of_le (inv.dom i hi) h4
    · exact h1
  · rcases hi with hi | rfl
    · rw [(hag' i hi).blk]; exact inv.low i o hi (h3 i hi ▸ hg')
    · rw [hb]; exact hsz
  · rcases hi with hi | rfl <;> rcases hj with hj | rfl
    · rw [(hag' i hi).blk, (hag' j hj).blk] at he
      exact inv.inj i j o p hi hj (h3 i hi ▸ hgi) (h3 j hj ▸ hgj) he
    · rw [(hag' i hi).blk, hb] at he
      have := objOk_lt (inv.obj i o hi (h3 i hi ▸ hgi))
      omega
    · rw [(hag' j hj).blk, hb] at he
      have := objOk_lt (inv.obj j p hj (h3 j hj ▸ hgj))
      omega
    · rfl
  · rcases hi with hi | rfl
    · have ho := inv.obj i o hi (h3 i hi ▸ hgi)
      refine objOk_step hag' (fun _ h => .inl h) hi ?_ ho
      have := objOk_lt ho
      rw [hg.1, Array.getElem?_push, if_neg (by omega)]
    · rw [h2 o hgi]; exact hob
  · refine inv.bel.trans ⟨hg.2.1, hg.2.2.1, hg.2.2.2, by rw [hg.1]; simp, fun k hk => ?_⟩
    rw [hg.1, Array.getElem?_push, if_neg (by omega)]
theorem inv_gho {E E' : Env} {R : Nat → Prop} {h h' : H} {w0 w : World} {nid : Nat} (inv : Inv P E R h w0 w) (hn : ¬ R nid) (hag : ∀ j, j ≠ nid → E.Agree E' j)
    (h1 : nid < h'.n) (h2 : h'.get nid = none) (h3 : ∀ j, R j → h'.get j = h.get j) (h4 : h.n ≤ h'.n) (h5 : ∀ i, h'.n ≤ i → h'.get i = none) : Inv P E' (fun j => R j ∨ j = nid) h' w0 w := by
  have hag' : ∀ i, R i → E.Agree E' i := fun i hi => hag i fun e => hn (e ▸ hi)
  have no : ∀ {o : AO}, h'.get nid = some o → False := fun h => by rw [h2] at h; cases h
  refine ⟨fun i hi => ?_, h5, fun i o hi hg' => ?_, fun i j o p hi hj hgi hgj he => ?_, fun i o hi hgi => ?_, inv.bel⟩
  · rcases hi with hi | rfl
    · exact Nat.lt_of_lt_of_le (inv.dom i hi) h4
    · exact h1
  · rcases hi with hi | rfl
    · rw [(hag' i hi).blk]; exact inv.low i o hi (h3 i hi ▸ hg')
    · exact (no hg').elim
  · rcases hi with hi | rfl
    · rcases hj with hj | rfl
      · rw [(hag' i hi).blk, (hag' j hj).blk] at he
        exact inv.inj i j o p hi hj (h3 i hi ▸ hgi) (h3 j hj ▸ hgj) he
      · exact (no hgj).elim
    · exact (no hgi).elim
  · rcases hi with hi | rfl
    · exact objOk_step hag' (fun _ h => .inl h) hi rfl (inv.obj i o hi (h3 i hi ▸ hgi))
    · exact (no hgi).elim
/-- one block turned, the others as they were -/
structure Turn (b : Nat) (w w' : World) : Prop where
  size : w'.heap.size = w.heap.size
  rest : ∀ k, k ≠ b → w'.heap[k]? = w.heap[k]?
  os : w'.os = w.os
  tape : w'.tape = w.tape
  output : w'.output = w.output
theorem Turn.refl (b : Nat) (w : World) : Turn b w w := ⟨rfl, fun _ _ => rfl, rfl, rfl, rfl⟩
theorem Turn.trans {b : Nat} {w w' w'' : World} (x : Turn b w w') (y : Turn b w' w'') : Turn b w w'' :=
  ⟨y.size.trans x.size, fun k hk => (y.rest k hk).trans (x.rest k hk), y.os.trans x.os, y.tape.trans x.tape, y.output.trans x.output⟩
theorem inv_put {E : Env} {R : Nat → Prop} {h : H} {w0 w w' : World} {i : Nat} {o o' : AO} (inv : Inv P E R h w0 w) (hi : R i) (hg : h.get i = some o) (ht : Turn (E.blk i) w w') (ho : ObjOk P E R i w' o') : Inv P E R (h.set i o') w0 w' := by
  have hget : ∀ j p, R j → (h.set i o').get j = some p → (j = i ∧ p = o') ∨ (j ≠ i ∧ h.get j = some p) ∨ (j = i ∧ h.get i = some p) := by
    intro j p hj hp
    rw [H.set, put_get] at hp
    split at hp
    · rename_i hc; exact .inl ⟨hc.1, by injection hp with hp; exact hp.symm⟩
    · by_cases e : j = i
      · exact .inr (.inr ⟨e, e ▸ hp⟩)
      · exact .inr (.inl ⟨e, hp⟩)
  have hlt : i < 65536 := by
    rw [H.get_eq] at hg
    split at hg
    · assumption
    · cases hg
  have hget' : ∀ j p, R j → (h.set i o').get j = some p → (j = i ∧ p = o') ∨ (j ≠ i ∧ h.get j = some p) := by
    intro j p hj hp
    rw [H.set, put_get] at hp
    split at hp
    · rename_i hc; exact .inl ⟨hc.1, by injection hp with hp; exact hp.symm⟩
    · rename_i hc; exact .inr ⟨fun e => hc ⟨e, hlt⟩, hp⟩
  have hsome : ∀ j p, R j → (h.set i o').get j = some p → ∃ q, h.get j = some q := by
    intro j p hj hp
    rcases hget' j p hj hp with ⟨rfl, _⟩ | ⟨_, hp⟩
    · exact ⟨_, hg⟩
    · exact ⟨_, hp⟩
  refine ⟨fun j hj => inv.dom j hj, fun j hj => ?_, fun j p hj hp => ?_, fun j k p q hj hk hp hq he => ?_, fun j p hj hp => ?_, ?_⟩
  · have := inv.dom i hi
    have hj : h.n ≤ j := hj
    rw [H.set, put_get, if_neg (by omega)]
    exact inv.top j hj
  · obtain ⟨q, hq⟩ := hsome j p hj hp
    exact inv.low j q hj hq
  · obtain ⟨p', hp⟩ := hsome j p hj hp
    obtain ⟨q', hq⟩ := hsome k q hk hq
    exact inv.inj j k p' q' hj hk hp hq he
  · rcases hget' j p hj hp with ⟨rfl, rfl⟩ | ⟨hne, hp⟩
    · exact ho
    · refine objOk_step (fun i hi => ⟨rfl, rfl, rfl, rfl⟩) (fun _ h => h) hj ?_ (inv.obj j p hj hp)
      exact ht.rest _ fun e => hne (inv.inj j i p o hj hi hp hg e)
  · exact inv.bel.trans ⟨ht.os, ht.tape, ht.output, by rw [ht.size]; exact Nat.le_refl _, fun k hk => ht.rest k fun e => by have := inv.low i o hi hg; omega⟩
theorem step_put {E : Env} {R : Nat → Prop} {h : H} {i : Nat} (o : Option AO) (hi : R i) : Step E R h E R (h.put i o) :=
  ⟨Nat.le_refl _, fun _ _ => ⟨rfl, rfl, rfl, rfl⟩, fun _ h => h, fun j hj hn => ⟨hn, by rw [put_get, if_neg (fun (hc : j = i ∧ i < 65536) => hn (hc.1 ▸ hi))]⟩⟩
/-- cells written -/
theorem storeCells_run {b o : Nat} {t : TypeId} {fz : Nat × Nat} : ∀ (vs : List Value) (i : Nat) (w : World) (cs : Array Value), w.heap[b]? = some (.cells cs t fz) → (∀ k, k < cs.size → ¬ (fz.1 ≤ k ∧ k < fz.2)) → o + i + vs.length ≤ cs.size → (∀ v ∈ vs, v.oneCell' = true) →
    ∃ w' cs', (storeCells ⟨b, o, none⟩ vs i).run P w = .ok () w' ∧ w'.heap[b]? = some (.cells cs' t fz) ∧ cs'.size = cs.size ∧ Turn b w w' ∧
      (∀ k, o + i ≤ k → k < o + i + vs.length → cs'[k]? = vs[k - (o + i)]?) ∧ (∀ k, k < o + i ∨ o + i + vs.length ≤ k → cs'[k]? = cs[k]?)
  | [], i, w, cs, h, _, _, _ => ⟨w, cs, rfl, h, rfl, Turn.refl b w, fun k h1 h2 => by simp at h2; omega, fun k _ => rfl⟩
  | v :: vs, i, w, cs, h, hf, hl, h1 => by
    have hl' : o + i + (vs.length + 1) ≤ cs.size := hl
    have hcell : w.cell? ⟨b, o + i, none⟩ = some cs[o + i] := by
      simp only [World.cell?, h]
      exact Array.getElem?_eq_getElem (by omega)
    have hfz : w.frozen? ⟨b, o + i, none⟩ = false := by
      simp only [World.frozen?, h]
      have := hf (o + i) (by omega)
      simp only [Bool.and_eq_false_iff, decide_eq_false_iff_not]
      by_cases h2 : fz.1 ≤ o + i
      · exact .inr fun h3 => this ⟨h2, h3⟩
      · exact .inl h2
    have hst : (store ((⟨b, o, none⟩ : Addr).add i) v).run P w = .ok () (w.setCell ⟨b, o + i, none⟩ v) := by
      rw [addr_add, run_store P w _ v _ (h1 v (List.mem_cons_self ..)), hcell]
      simp [hfz]
    have hblk : b < w.heap.size := (Array.getElem?_eq_some_iff.1 h).1
    have h' : (w.setCell ⟨b, o + i, none⟩ v).heap[b]? = some (.cells (cs.setIfInBounds (o + i) v) t fz) := by
      simp only [World.setCell, Array.getElem?_modify, if_true, h]
      rfl
    have ht : Turn b w (w.setCell ⟨b, o + i, none⟩ v) := ⟨by simp [World.setCell], fun k hk => RowKit.Below.heap_setCell w _ _ k hk, rfl, rfl, rfl⟩
    obtain ⟨w', cs', r1, r2, r3, r4, r5, r6⟩ := storeCells_run (b := b) (o := o) (fz := fz) vs (i + 1) _ _ h' (by simpa using hf) (by simp; omega) (fun x hx => h1 x (List.mem_cons_of_mem _ hx))
    refine ⟨w', cs', ?_, r2, by simpa using r3, ht.trans r4, fun k h2 h3 => ?_, fun k h2 => ?_⟩
    · rw [storeCells, run_b hst]; exact r1
    · simp only [List.length_cons] at h3
      by_cases e : k = o + i
      · subst e
        rw [r6 _ (by omega), Nat.sub_self, List.getElem?_cons_zero, Array.getElem?_setIfInBounds_self_of_lt (by omega)]
      · rw [r5 k (by omega) (by omega), show k - (o + i) = (k - (o + (i + 1))) + 1 by omega, List.getElem?_cons_succ]
    · simp only [List.length_cons] at h2
      rw [r6 k (by omega), Array.getElem?_setIfInBounds_ne (by omega)]
/-- the store into a realized row -/
theorem sto_run {E : Env} {R : Nat → Prop} {h h' : H} {w0 w : World} {i o : Nat} {l : List AV} (inv : Inv P E R h w0 w) (hi : R i) (hl : Ons R l) (hs : stoA h i o l = some h') :
    ∃ w', (storeCells ⟨E.blk i, E.base i + o, none⟩ (concs E l)).run P w = .ok () w' ∧ Inv P E R h' w0 w' ∧ Step E R h E R h' := by
  obtain ⟨r, sp, hg, q1⟩ := onCells_some hs
  obtain ⟨q2, q3⟩ := cnd_some q1
  obtain ⟨q4, q5⟩ := cnd_some q3
  have q2 := ble_le q2
  rw [lenL_eq] at q2
  injection q5 with q5
  subst q5
  obtain ⟨cs, t, fz, h1, h2⟩ := inv.obj i _ hi hg
  have hle : o + l.length ≤ r.len := q2
  have hsz := h2.size
  have hlen : (concs E l).length = l.length := by rw [concs_map, List.length_map]
  obtain ⟨w', cs', r1, r2, r3, r4, r5, r6⟩ := storeCells_run (P := P) (concs E l) 0 w cs (b := E.blk i) (o := E.base i + o) h1 h2.free (by rw [hlen]; omega) (fun v hv => by
    rw [concs_map] at hv
    obtain ⟨x, hx, rfl⟩ := List.mem_map.1 hv
    exact one_conc ((oneL_iff l).1 q4 x hx))
  refine ⟨w', r1, ?_, step_put _ hi⟩
  refine inv_put inv hi hg r4 ⟨cs', t, fz, r2, puts_wf r o l h2.wf, by rw [puts_len r o l hle, r3]; exact hsz, by rw [r3]; exact h2.free, fun k v hv => ?_⟩
  rcases puts_get h2.wf hv with ⟨p1, p2, p3⟩ | ⟨p1, p2⟩
  · refine ⟨(Ons_iff l).1 hl v (List.mem_of_getElem? p3), (oneL_iff l).1 q4 v (List.mem_of_getElem? p3), by rw [puts_len r o l hle]; omega, ?_⟩
    rw [r5 _ (by omega) (by rw [hlen]; omega), concs_map, List.getElem?_map, show E.base i + k - (E.base i + o + 0) = k - o by omega, p3]; rfl
  · obtain ⟨c1, c2, c3, c4⟩ := h2.cell k v p2
    refine ⟨c1, c2, by rw [puts_len r o l hle]; exact c3, ?_⟩
    rw [r6 _ (by rw [hlen]; omega)]; exact c4
end
end Go.Proofs.YtccadcefhfdmgaaGreatDoor.Ev
namespace Go.Proofs.YtccadcefhfdmgaaGreatDoor.Ev
open Go
def NxOk (E : Env) (R : Nat → Prop) (v : AV) (nx : Next) : Prop := (nx = .skip ∧ v = und) ∨ ∃ v', nx = .value v' ∧ Rel E R v v'
def ChgOk (P : Program) (o : Oper) (cd : Operand → Bx Od) (f : List AV → A → H → Option (AV × H)) : Prop :=
  ∀ (E : Env) (R : Nat → Prop) (h : H) (w0 w : World) (e : List AV) (a : A) (ρ : Operand → Value) (v : AV) (h' : H), Inv P E R h w0 w → OpsRel E R cd e a ρ o.op.operands.toList → f e a h = some (v, h') →
    ∃ (nx : Next) (w' : World) (E' : Env) (R' : Nat → Prop), (execOp ρ o).run P w = .ok nx w' ∧ NxOk E' R' v nx ∧ Inv P E' R' h' w0 w' ∧ Step E R h E' R' h'
section
variable {P : Program} {o : Oper} {cd : Operand → Bx Od}
theorem ok_store {t : TypeId} {x y : Operand} {n : Nat} (ho : o.op = .store t x y) (ht : szT P t = some n) : ChgOk P o cd (cSto n (cd x).out (cd y).out) := by
  intro E R h w0 w e a ρ v h' inv rel hq
  rw [ho] at rel
  obtain ⟨i, k, hx, q1⟩ := onPtr_some hq
  obtain ⟨q2, q3⟩ := cnd_some q1
  obtain ⟨h1, q4, q5⟩ := onO_some q3
  rw [Option.some.injEq, Prod.mk.injEq] at q5
  obtain ⟨rfl, rfl⟩ := q5
  have q2 := beq_e q2
  rw [lenL_eq] at q2
  have rx := rel x (by simp [Op.operands]); rw [hx] at rx; obtain ⟨rx, hi⟩ := rx.ptr
  have ry := rel y (by simp [Op.operands])
  have hone : oneL ((cd y).out e a).cells = true := by
    obtain ⟨r, sp, _, p1⟩ := onCells_some q4
    exact (cnd_some (cnd_some p1).2).1
  obtain ⟨r1, r2, r3⟩ := cells_rel ry hone
  obtain ⟨w', s1, s2, s3⟩ := sto_run inv hi r3 q4
  refine ⟨.skip, w', E, R, ?_, .inl ⟨rfl, rfl⟩, s2, s3⟩
  simp only [execOp, ho, rx, r1]
  refine run_u ?_
  rw [Instr.storeAt]
  simp only [Instr.sureAddr]
  rw [run_b (Sem.run_pure P w _), storeVar, run_b (run_S ht), conc_cells]
  have hsz : (concs E ((cd y).out e a).cells).toArray.size = n := by rw [concs_map]; simpa using q2
  rw [if_neg (by rw [hsz]; simp)]
  exact s1
/-! the first cells of a slice, of a text -/
theorem first_run {E : Env} {R : Nat → Prop} {h : H} {w0 w : World} {v : AV} {v' : Value} {sz n : Nat} {l : List AV} (inv : Inv P E R h w0 w) (hr : Rel E R v v') (hl : firstN h sz n v = some l) (hn : ∀ s, v = .str s → n ≤ s.length) :
    (Builtin.firstCells sz n v').run P w = .ok (concs E l).toArray w ∧ Ons R l ∧ oneL l = true ∧ l.length = n * sz := by
  cases v with
  | str s =>
    obtain ⟨rx, hs⟩ := hr.str
    obtain ⟨h1, h2⟩ := cnd_some (show cnd (Nat.beq sz 1) (some (intsOf (takeL n s))) none = some l from hl)
    have h1 := beq_e h1
    subst h1
    rw [takeL_eq, Option.some.injEq] at h2
    subst h2
    have hn := hn s rfl
    have key : ∀ l : List Nat, Ons R (intsOf l) ∧ oneL (intsOf l) = true ∧ (intsOf l).length = l.length := by
      intro l
      induction l with
      | nil => exact ⟨trivial, rfl, rfl⟩
      | cons a l ih => exact ⟨⟨trivial, ih.1⟩, ih.2.1, congrArg Nat.succ ih.2.2⟩
    obtain ⟨k1, k2, k3⟩ := key (s.take n)
    refine ⟨?_, k1, k2, by rw [k3, List.length_take]; omega⟩
    rw [rx, Builtin.firstCells]
    simp only [Sem.run_pure]
    congr 1
    rw [concs_intsOf]
    apply Array.ext'
    simp only [strV, ByteArray.data_extract, Array.toList_map]
    simp only [List.extract_toArray, List.extract_eq_take_drop, List.drop_zero, Nat.sub_zero, List.map_map, ← List.map_take]
    refine List.map_congr_left fun b hb => ?_
    simp [Nat.mod_eq_of_lt (hs b (List.mem_of_mem_take hb))]
  | sl i o len cap ex =>
    obtain ⟨rx, hi⟩ := hr.sl
    have hl' : onCells (h.get i) (cnd (Nat.beq n 0) (some []) none) (fun r _ => r.ext o (Nat.mul n sz)) = some l := hl
    rw [rx]
    show (loadCells ⟨E.blk i, E.base i + o, none⟩ (n * sz)).run P w = _ ∧ _
    have zero : n = 0 → l = [] → (loadCells ⟨E.blk i, E.base i + o, none⟩ (n * sz)).run P w = .ok (concs E l).toArray w ∧ Ons R l ∧ oneL l = true ∧ l.length = n * sz := by
      rintro rfl rfl
      rw [Nat.zero_mul]
      exact ⟨rfl, trivial, rfl, rfl⟩
    cases hg : h.get i with
    | none =>
      rw [hg] at hl'
      obtain ⟨h1, h2⟩ := cnd_some (show cnd (Nat.beq n 0) (some []) none = some l from hl')
      injection h2 with h2
      exact zero (beq_e h1) h2.symm
    | some ob =>
      rw [hg] at hl'
      cases ob with
      | cells r sp =>
        have hv : r.ext o (n * sz) = some l := hl'
        obtain ⟨h1, h2, h3⟩ := loads_of inv hi hg hv
        exact ⟨h1, h2, (oneL_iff l).2 h3, (ext_get hv).1⟩
      | _ =>
        obtain ⟨h1, h2⟩ := cnd_some (show cnd (Nat.beq n 0) (some []) none = some l from hl')
        injection h2 with h2
        exact zero (beq_e h1) h2.symm
  | nil t =>
    obtain ⟨h1, h2⟩ := cnd_some (show cnd (Nat.beq t 1) (cnd (Nat.beq n 0) (some []) none) none = some l from hl)
    obtain ⟨h3, h4⟩ := cnd_some h2
    have h1 := beq_e h1
    have h3 := beq_e h3
    subst h1 h3
    injection h4 with h4
    subst h4
    have rx : v' = .slice none 0 0 := (hr rfl).2
    rw [rx]
    exact ⟨rfl, trivial, rfl, by simp⟩
  | _ => cases hl
theorem lenOf_run {E : Env} {R : Nat → Prop} {w : World} {v : AV} {v' : Value} {n : Nat} (hr : Rel E R v v') (hl : lenA v = some n) : (Builtin.lenOf v').run P w = .ok n w ∧ (∀ s, v = .str s → n = s.length) := by
  cases v with
  | str s =>
    obtain ⟨rx, hs⟩ := hr.str
    have hl : some (lenL s) = some n := hl
    injection hl with hl
    rw [lenL_eq] at hl
    subst hl
    exact ⟨by rw [rx, Builtin.lenOf, strV_size]; rfl, fun t e => by injection e with e; rw [e]⟩
  | sl i o len cap ex =>
    obtain ⟨rx, hi⟩ := hr.sl
    have hl : some len = some n := hl
    injection hl with hl
    subst hl
    exact ⟨by rw [rx]; rfl, fun t e => by cases e⟩
  | nil t =>
    obtain ⟨h1, h2⟩ := cnd_some (show cnd (Nat.beq t 1) (some 0) none = some n from hl)
    have h1 := beq_e h1
    subst h1
    injection h2 with h2
    subst h2
    have rx : v' = .slice none 0 0 := (hr rfl).2
    exact ⟨by rw [rx]; rfl, fun t e => by cases e⟩
  | _ => cases hl
theorem builtin_step {c : Call} {b : Builtin} {l : List Operand} {ρ : Operand → Value} {w w' : World} {nx : Next} (ho : o.op = .call c) (hc : c.callee = .builtin b) (ha : c.args.toList = l)
    (h : ∀ cs, (builtin b c.argTypes o.type cs (l.map ρ).toArray).run P w = .ok nx w') : (execOp ρ o).run P w = .ok nx w' := by
  have hm : c.args.map ρ = (l.map ρ).toArray := Array.ext' (by rw [Array.toList_map, ha])
  simp only [execOp, ho, resolve, hc, hm]
  rw [run_b (Sem.run_pure P w _)]
  simp only [invoke]
  exact h _
theorem ok_copy {c : Call} {d s : Operand} {t el : TypeId} {ts : List TypeId} {n : Nat} (ho : o.op = .call c) (hc : c.callee = .builtin .copy) (ha : c.args.toList = [d, s]) (ht : c.argTypes.toList = t :: ts) (hu : P.underlying t = some (.slice el)) (hn : szT P el = some n) :
    ChgOk P o cd (cCpy n (cd d).out (cd s).out) := by
  intro E R h w0 w e a ρ v h' inv rel hq
  rw [ho] at rel
  have rd : Rel E R ((cd d).out e a) (ρ d) := rel_args hc rel d (by rw [ha]; simp)
  have rs : Rel E R ((cd s).out e a) (ρ s) := rel_args hc rel s (by rw [ha]; simp)
  obtain ⟨dl, q1, q2⟩ := onO_some hq
  obtain ⟨sl, q3, q4⟩ := onO_some q2
  rw [stN_eq, minN_eq] at q4
  obtain ⟨l, q5, q6⟩ := onO_some q4
  obtain ⟨l1, l2⟩ := lenOf_run (P := P) (w := w) rs q3
  obtain ⟨f1, f2, f3, f4⟩ := first_run (P := P) inv rs q5 (fun t e => by have := l2 t e; omega)
  have run : ∀ (ad : Option Addr) (cap : Nat) (w' : World), ρ d = .slice ad dl cap → (match ad with | some a => storeCells a (concs E l) | none => pure ()).run P w = .ok () w' → (execOp ρ o).run P w = .ok (.value (.int .i64 ((min sl dl : Nat) : Int))) w' := by
    intro ad cap w' h1 h2
    refine builtin_step ho hc ha fun cs => ?_
    simp only [builtin]
    refine run_v ?_
    have ha1 : ((List.map ρ [d, s]).toArray)[0]? = some (ρ d) := rfl
    have ha2 : ((List.map ρ [d, s]).toArray)[1]? = some (ρ s) := rfl
    rw [Builtin.copy_, arg0 ht, ha1, ha2]
    simp only []
    rw [run_b (run_U hu), h1]
    simp only []
    rw [run_b l1, run_b (run_S hn)]
    have f1' : (Builtin.firstCells n (Nat.min sl dl) (ρ s)).run P w = .ok (concs E l).toArray w := f1
    rw [run_b f1']
    cases ad with
    | none =>
      have h2 : Result.ok () w = Result.ok () w' := h2
      injection h2 with _ h2
      subst h2
      rfl
    | some a =>
      simp only []
      rw [run_b h2]
      rfl
  rcases onSl_some q6 with ⟨hx, q7⟩ | ⟨i, k, len, cp, ex, hx, q7⟩
  · rw [Option.some.injEq, Prod.mk.injEq] at q7
    obtain ⟨rfl, rfl⟩ := q7
    rw [hx] at rd q1
    have rd : ρ d = .slice none 0 0 := (rd rfl).2
    have e0 : dl = 0 := by
      have : some 0 = some dl := q1
      injection this with this; exact this.symm
    subst e0
    refine ⟨_, w, E, R, run none 0 w rd rfl, .inr ⟨_, rfl, ?_⟩, inv, Step.refl E R h⟩
    rw [Nat.min_zero]
    exact Rel.of (v := .int .i64 (.ofNat 0)) trivial
  · rw [hx] at rd q1
    obtain ⟨rd, hi⟩ := rd.sl
    have e0 : dl = len := by
      have : some len = some dl := q1
      injection this with this; exact this.symm
    subst e0
    have q7 : cnd (Nat.beq (min sl dl) 0) (some (.int .i64 (.ofNat 0), h)) (onO (stoA h i k l) none fun h => some (.int .i64 (.ofNat (min sl dl)), h)) = some (v, h') := q7
    cases hz : Nat.beq (min sl dl) 0 with
    | true =>
      rw [hz, cnd_t, Option.some.injEq, Prod.mk.injEq] at q7
      obtain ⟨rfl, rfl⟩ := q7
      have hz := beq_e hz
      rw [hz, Nat.zero_mul] at f4
      have hl0 : l = [] := List.length_eq_zero_iff.1 f4
      refine ⟨_, w, E, R, run _ _ w rd (by rw [hl0]; rfl), .inr ⟨_, rfl, ?_⟩, inv, Step.refl E R h⟩
      rw [hz]
      exact Rel.of (v := .int .i64 (.ofNat 0)) trivial
    | false =>
      rw [hz, cnd_f] at q7
      obtain ⟨h1, q8, q9⟩ := onO_some q7
      rw [Option.some.injEq, Prod.mk.injEq] at q9
      obtain ⟨rfl, rfl⟩ := q9
      obtain ⟨w', s1, s2, s3⟩ := sto_run inv hi f2 q8
      exact ⟨_, w', E, R, run _ _ w' rd s1, .inr ⟨_, rfl, Rel.of (v := .int .i64 _) trivial⟩, s2, s3⟩
theorem ok_clear {c : Call} {x : Operand} {t el : TypeId} {ts : List TypeId} {z : AV} (ho : o.op = .call c) (hc : c.callee = .builtin .clear) (ha : c.args.toList = [x]) (ht : c.argTypes.toList = t :: ts) (hu : P.underlying t = some (.slice el)) (hz : zeroT P el = some z) :
    ChgOk P o cd (cClr z.cells (cd x).out) := by
  intro E R h w0 w e a ρ v h' inv rel hq
  rw [ho] at rel
  have rx : Rel E R ((cd x).out e a) (ρ x) := rel_args hc rel x (by rw [ha]; simp)
  have fin : ∀ w', (Builtin.clear_ c.argTypes o.type #[ρ x]).run P w = .ok (.tuple #[]) w' → (execOp ρ o).run P w = .ok (.value (.tuple #[])) w' := by
    intro w' h1
    refine builtin_step ho hc ha fun cs => ?_
    simp only [builtin]
    exact run_v h1
  have ru : Rel E R und (.tuple #[]) := Rel.of (v := und) trivial
  have ha1 : (#[ρ x] : Array Value)[0]? = some (ρ x) := rfl
  rcases onSl_some hq with ⟨hx, q1⟩ | ⟨i, k, n, cp, ex, hx, q1⟩
  · rw [Option.some.injEq, Prod.mk.injEq] at q1
    obtain ⟨rfl, rfl⟩ := q1
    rw [hx] at rx
    have rx : ρ x = .slice none 0 0 := (rx rfl).2
    refine ⟨_, w, E, R, fin w ?_, .inr ⟨_, rfl, ru⟩, inv, Step.refl E R h⟩
    rw [Builtin.clear_, arg0 ht, ha1]
    simp only []
    rw [run_b (run_U hu), rx]
    rfl
  · rw [hx] at rx
    obtain ⟨rx, hi⟩ := rx.sl
    cases h0 : Nat.beq n 0 with
    | true =>
      rw [h0, cnd_t, Option.some.injEq, Prod.mk.injEq] at q1
      obtain ⟨rfl, rfl⟩ := q1
      have h0 := beq_e h0
      subst h0
      refine ⟨_, w, E, R, fin w ?_, .inr ⟨_, rfl, ru⟩, inv, Step.refl E R h⟩
      rw [Builtin.clear_, arg0 ht, ha1]
      simp only []
      rw [run_b (run_U hu), rx]
      rfl
    | false =>
      have h0' := beq_ne h0
      rw [h0, cnd_f] at q1
      obtain ⟨h1, q8, q9⟩ := onO_some q1
      rw [Option.some.injEq, Prod.mk.injEq] at q9
      obtain ⟨rfl, rfl⟩ := q9
      obtain ⟨z1, z2⟩ := run_zero (w := w) E R hz
      have z3 : Ons R z.cells := by
        cases z with
        | agg b l => cases b with | false => exact z2 | true => exact ⟨z2, trivial⟩
        | _ => exact ⟨z2, trivial⟩
      have z4 : Ons R (repL z.cells n) := by
        rw [Ons_iff] at z3 ⊢
        exact fun v hv => z3 v (repL_all v hv)
      obtain ⟨w', s1, s2, s3⟩ := sto_run inv hi z4 q8
      refine ⟨_, w', E, R, fin w' ?_, .inr ⟨_, rfl, ru⟩, s2, s3⟩
      rw [Builtin.clear_, arg0 ht, ha1]
      simp only []
      rw [run_b (run_U hu), rx]
      obtain ⟨m, rfl⟩ : ∃ m, n = m + 1 := ⟨n - 1, by omega⟩
      simp only []
      rw [run_b z1]
      have hzc : (Builtin.zeroCells (conc E z).cells (m + 1)).toList = concs E (repL z.cells (m + 1)) := by
        rw [conc_cells, Builtin.zeroCells]
        have hs : (concs E z.cells).toArray.size = z.cells.length := by rw [concs_map]; simp
        have hzz := zero_cells E z.cells (m + 1) z.cells.length rfl (concs E z.cells).toArray (fun _ => rfl)
        rw [hs] at hzz
        rw [hs, hzz]
      rw [hzc, run_b s1]
      rfl
end
end Go.Proofs.YtccadcefhfdmgaaGreatDoor.Ev
namespace Go.Proofs.YtccadcefhfdmgaaGreatDoor.Ev
open Go
section
variable {P : Program} {o : Oper} {cd : Operand → Bx Od}
theorem setObj_turn {w : World} {b : Nat} {x : Obj} (y : Obj) (h : w.heap[b]? = some x) (hn : ∀ c t f, x ≠ .cells c t f) : ∃ w', (setObj b y).run P w = .ok () w' ∧ w'.heap[b]? = some y ∧ Turn b w w' := by
  have hlt := (Array.getElem?_eq_some_iff.1 h).1
  refine ⟨{ w with heap := w.heap.setIfInBounds b y }, ?_, ?_, ?_⟩
  · cases x <;> first | exact absurd rfl (hn _ _ _) | simp [setObj, Sem.run, h]
  · rw [Array.getElem?_setIfInBounds_self_of_lt hlt]
  · exact ⟨by simp, fun k hk => Array.getElem?_setIfInBounds_ne (fun e => hk e.symm), rfl, rfl, rfl⟩
theorem flat_same {E : Env} {k : AV} (h : flatK k = true) : Instr.sameBits 10000 (conc E k) (conc E k) = true := by
  have hb : ∀ s : ByteArray, (s == s) = true := fun s => by rw [beq_toListBytes]; exact beq_self_eq_true _
  have one : ∀ v : AV, flat1 v = true → ∀ n, Instr.sameBits n (conc E v) (conc E v) = true := by
    intro v hv n
    cases v with
    | int j m => simp [conc, Instr.sameBits]
    | str s => simp [conc, Instr.sameBits, hb]
    | bool b => simp [conc, Instr.sameBits]
    | _ => cases hv
  cases k with
  | agg b l =>
    cases b with
    | true => cases h
    | false =>
    have hl : allF l = true := h
    have hs : ∀ v ∈ l, flat1 v = true := by
      clear h
      induction l with
      | nil => intro v hv; cases hv
      | cons a l ih =>
        obtain ⟨h1, h2⟩ := cnd_and (show cnd (flat1 a) (allF l) false = true from hl)
        intro v hv
        rcases List.mem_cons.1 hv with rfl | hv
        · exact h1
        · exact ih h2 v hv
    show Instr.sameBits (9999 + 1) (.agg (concs E l).toArray) (.agg (concs E l).toArray) = true
    rw [Instr.sameBits]
    simp only [beq_self_eq_true, Bool.true_and]
    rw [List.all_eq_true]
    intro p hp
    obtain ⟨j, hj⟩ := List.mem_iff_getElem?.1 hp
    rw [List.getElem?_zip_eq_some] at hj
    obtain ⟨h1, h2⟩ := hj
    rw [h1] at h2
    injection h2 with h2
    rw [concs_map] at h1
    simp only [List.getElem?_map, Option.map_eq_some_iff] at h1
    obtain ⟨v, h3, h4⟩ := h1
    rw [← h2, ← h4]
    exact one v (hs v (List.mem_of_getElem? h3)) 9999
  | _ => refine one _ ?_ _; exact h
theorem modE_get (v : AV) : ∀ (es : List (AV × AV × Nat)) (j n : Nat), (modE v es j)[n]? = if n = j then (es[n]?).map (fun x => (x.1, v, x.2.2)) else es[n]?
  | [], j, n => by
    show ([] : List (AV × AV × Nat))[n]? = _
    simp
  | x :: es, 0, n => by
    show ((x.1, v, x.2.2) :: es)[n]? = _
    cases n <;> simp
  | x :: es, j + 1, n => by
    show (x :: modE v es j)[n]? = _
    cases n with
    | zero => simp
    | succ n => simp only [List.getElem?_cons_succ, modE_get v es j n, Nat.add_right_cancel_iff]
theorem delE_eq : ∀ (es : List (AV × AV × Nat)) (j : Nat), delE es j = es.eraseIdx j
  | [], _ => rfl
  | _ :: _, 0 => rfl
  | x :: es, j + 1 => congrArg (x :: ·) (delE_eq es j)
theorem ok_mapUpdate {t kt el : TypeId} {m k x : Operand} {y : KT} (ho : o.op = .mapUpdate t m k x ∨ o.op = .insert t m k x) (ht : P.underlying t = some (.map kt el)) (hf : keyT P kt = some y) :
    ChgOk P o cd (cMup y.eq y.chk (cd m).out (cd k).out (cd x).out) := by
  intro E R h w0 w e a ρ v h' inv rel hq
  have rel' : OpsRel E R cd e a ρ [m, k, x] := by
    rcases ho with ho | ho <;> (rw [ho] at rel; exact rel)
  have rm := rel' m (by simp)
  have rk := rel' k (by simp)
  have rx := rel' x (by simp)
  have run : ∀ w', (Instr.mapUpdate t (ρ m) (ρ k) (ρ x)).run P w = .ok () w' → (execOp ρ o).run P w = .ok .skip w' := by
    intro w' h1
    rcases ho with ho | ho <;> (simp only [execOp, ho]; exact run_u h1)
  rcases onRef_some hq with ⟨u, i, hx, q1⟩ | ⟨q1, _⟩
  · rw [hx] at rm
    obtain ⟨q2, q3⟩ := cnd_some q1
    have q2 := beq_e q2
    subst q2
    obtain ⟨⟨_, hi⟩, rm⟩ := rm rfl
    have rm : ρ m = .map (some (E.blk i)) := rm
    obtain ⟨q4, q5⟩ := cnd_some q3
    obtain ⟨q6, q7⟩ := cnd_and q4
    obtain ⟨es, c, q8, q9⟩ := onMap_some q5
    obtain ⟨r, q10, q11⟩ := onO_some q9
    obtain ⟨hm, hes⟩ := inv.obj i _ hi q8
    obtain ⟨d, hk⟩ := keyT_some hf
    have hck := checkKey_run (P := P) (w := w) (em := false) hk q7 rk
    have hfk := findKey_run (P := P) (w := w) hk q7 rk (fun x hx => (hes x hx).1) q10
    obtain ⟨vx, ex⟩ := rx q6
    have step1 : ∀ (y : Obj) w', (setObj (E.blk i) y).run P w = .ok () w' → True := fun _ _ _ => trivial
    cases r with
    | none =>
      obtain ⟨q12, q13⟩ := cnd_some (show cnd ((cd k).out e a).known (stN (Nat.succ c) fun c' => some (und, h.set i (.map (appL es [((cd k).out e a, (cd x).out e a, c)]) c'))) none = some (v, h') from q11)
      rw [stN_eq, appL_eq, Option.some.injEq, Prod.mk.injEq] at q13
      obtain ⟨rfl, rfl⟩ := q13
      obtain ⟨vk, ek⟩ := rk q12
      obtain ⟨w', s1, s2, s3⟩ := setObj_turn (P := P) (.map ((es ++ [((cd k).out e a, (cd x).out e a, c)]).map (concE E)).toArray (c + 1)) hm (fun _ _ _ h => by cases h)
      refine ⟨.skip, w', E, R, run w' ?_, .inl ⟨rfl, rfl⟩, inv_put inv hi q8 s3 ⟨s2, fun z hz => ?_⟩, step_put _ hi⟩
      · rw [Instr.mapUpdate, run_b (run_U ht), rm]
        simp only []
        rw [run_b (getObj_map hm)]
        simp only []
        rw [run_b hck, run_b hfk]
        simp only [Option.map_none]
        rw [← s1]
        congr 2
        simp [concE, ek, ex]
      · rcases List.mem_append.1 hz with hz | hz
        · have := hes z hz; exact ⟨this.1, this.2.1, by omega⟩
        · simp only [List.mem_singleton] at hz
          subst hz
          exact ⟨vk, vx, Nat.lt_succ_self c⟩
    | some p =>
      obtain ⟨q12, q13⟩ := cnd_some (show cnd (cnd (keyAt es p.1 ((cd k).out e a)) (flatK ((cd k).out e a)) false) (some (und, h.set i (.map (modE ((cd x).out e a) es p.1) c))) none = some (v, h') from q11)
      obtain ⟨q14, q15⟩ := cnd_and q12
      rw [Option.some.injEq, Prod.mk.injEq] at q13
      obtain ⟨rfl, rfl⟩ := q13
      unfold keyAt at q14
      rw [nthL_eq] at q14
      cases hz : es[p.1]? with
      | none => rw [hz] at q14; cases q14
      | some z =>
        rw [hz, onO_s] at q14
        have q14 := eqV_eq _ _ q14
        have hkn : ((cd k).out e a).known = true := by rw [q14]; exact On.known (hes z (List.mem_of_getElem? hz)).1
        obtain ⟨vk, ek⟩ := rk hkn
        have hmod : ∀ (es : List (AV × AV × Nat)) (j : Nat), es[j]? = some z → ((es.map (concE E)).toArray.modify j fun e' => { e' with key := ρ k, val := ρ x }) = ((modE ((cd x).out e a) es j).map (concE E)).toArray := by
          intro es j hj
          apply Array.ext_getElem?
          intro n
          rw [Array.getElem?_modify, List.getElem?_toArray, List.getElem?_toArray, List.getElem?_map, List.getElem?_map, modE_get]
          by_cases hn : j = n
          · subst hn
            rw [if_pos rfl, if_pos rfl, hj]
            simp only [Option.map_some, concE, ek, ex, q14]
          · rw [if_neg hn, if_neg (fun e => hn e.symm)]
        obtain ⟨w', s1, s2, s3⟩ := setObj_turn (P := P) (.map ((modE ((cd x).out e a) es p.1).map (concE E)).toArray c) hm (fun _ _ _ h => by cases h)
        refine ⟨.skip, w', E, R, run w' ?_, .inl ⟨rfl, rfl⟩, inv_put inv hi q8 s3 ⟨s2, fun z hz => ?_⟩, step_put _ hi⟩
        · rw [Instr.mapUpdate, run_b (run_U ht), rm]
          simp only []
          rw [run_b (getObj_map hm)]
          simp only []
          rw [run_b hck, run_b hfk]
          simp only [Option.map_some]
          have hkt : (Instr.keyThatStays ((((es.map (concE E)).toArray[p.1]?).map (·.key)).getD (ρ k)) (ρ k)).run P w = .ok (ρ k) w := by
            have : (((es.map (concE E)).toArray[p.1]?).map (·.key)).getD (ρ k) = ρ k := by
              rw [List.getElem?_toArray, List.getElem?_map, hz]
              simp only [Option.map_some, Option.getD_some, concE, ← q14, ← ek]
            rw [this, Instr.keyThatStays, ek, flat_same q15]
            rfl
          rw [run_b hkt, hmod es p.1 hz]
          exact s1
        · obtain ⟨n, hn⟩ := List.mem_iff_getElem?.1 hz
          rw [modE_get] at hn
          split at hn
          · obtain ⟨y, hy, rfl⟩ := Option.map_eq_some_iff.1 hn
            have := hes y (List.mem_of_getElem? hy)
            exact ⟨this.1, vx, this.2.2⟩
          · exact hes z (List.mem_of_getElem? hn)
  · cases q1
theorem map_erase {α β : Type} (f : α → β) : ∀ (l : List α) (j : Nat), (l.eraseIdx j).map f = (l.map f).eraseIdx j
  | [], _ => rfl
  | _ :: _, 0 => rfl
  | x :: l, j + 1 => congrArg (f x :: ·) (map_erase f l j)
theorem ok_delete {c : Call} {m k : Operand} {t kt el : TypeId} {ts : List TypeId} {y : KT} (ho : o.op = .call c) (hc : c.callee = .builtin .delete) (ha : c.args.toList = [m, k]) (ht : c.argTypes.toList = t :: ts) (hu : P.underlying t = some (.map kt el)) (hf : keyT P kt = some y) :
    ChgOk P o cd (cDel y.eq y.chk (cd m).out (cd k).out) := by
  intro E R h w0 w e a ρ v h' inv rel hq
  rw [ho] at rel
  have rm : Rel E R ((cd m).out e a) (ρ m) := rel_args hc rel m (by rw [ha]; simp)
  have rk : Rel E R ((cd k).out e a) (ρ k) := rel_args hc rel k (by rw [ha]; simp)
  obtain ⟨q7, hq⟩ := cnd_some hq
  obtain ⟨d, hk⟩ := keyT_some hf
  have hck := fun em => checkKey_run (P := P) (w := w) (em := em) hk q7 rk
  have fin : ∀ w', (Builtin.delete_ c.argTypes o.type #[ρ m, ρ k]).run P w = .ok (.tuple #[]) w' → (execOp ρ o).run P w = .ok (.value (.tuple #[])) w' := by
    intro w' h1
    refine builtin_step ho hc ha fun cs => ?_
    simp only [builtin]
    exact run_v h1
  have ru : Rel E R und (.tuple #[]) := Rel.of (v := und) trivial
  have ha1 : (#[ρ m, ρ k] : Array Value)[0]? = some (ρ m) := rfl
  have ha2 : (#[ρ m, ρ k] : Array Value)[1]? = some (ρ k) := rfl
  rcases onRef_some hq with ⟨u, i, hx, q1⟩ | ⟨q1, _⟩
  · rw [hx] at rm
    obtain ⟨q2, q3⟩ := cnd_some q1
    have q2 := beq_e q2
    subst q2
    obtain ⟨⟨_, hi⟩, rm⟩ := rm rfl
    have rm : ρ m = .map (some (E.blk i)) := rm
    obtain ⟨es, cl, q8, q9⟩ := onMap_some q3
    obtain ⟨r, q10, q11⟩ := onO_some q9
    obtain ⟨hm, hes⟩ := inv.obj i _ hi q8
    have hfk := findKey_run (P := P) (w := w) hk q7 rk (fun x hx => (hes x hx).1) q10
    cases r with
    | none =>
      have q11 : some (und, h) = some (v, h') := q11
      rw [Option.some.injEq, Prod.mk.injEq] at q11
      obtain ⟨rfl, rfl⟩ := q11
      obtain ⟨w', s1, s2, s3⟩ := setObj_turn (P := P) (.map (es.map (concE E)).toArray cl) hm (fun _ _ _ h => by cases h)
      refine ⟨_, w', E, R, fin w' ?_, .inr ⟨_, rfl, ru⟩, ?_, Step.refl E R h⟩
      · rw [Builtin.delete_, arg0 ht, ha1, ha2]
        simp only []
        rw [run_b (run_U hu), rm]
        simp only []
        rw [run_b (getObj_map hm)]
        simp only []
        rw [run_b (hck _), run_b hfk]
        simp only [Option.map_none]
        rw [run_b s1]; rfl
      · have := inv_put inv hi q8 s3 (o' := .map es cl) ⟨s2, hes⟩
        refine ⟨this.dom, inv.top, inv.low, inv.inj, fun j p hj hp => ?_, this.bel⟩
        by_cases e : j = i
        · subst e
          rw [q8] at hp
          injection hp with hp
          subst hp
          exact ⟨s2, hes⟩
        · exact objOk_step (fun i hi => ⟨rfl, rfl, rfl, rfl⟩) (fun _ h => h) hj (s3.rest _ fun e' => e (inv.inj j i p _ hj hi hp q8 e')) (inv.obj j p hj hp)
    | some p =>
      have q11 : some (und, h.set i (.map (delE es p.1) cl)) = some (v, h') := q11
      rw [Option.some.injEq, Prod.mk.injEq] at q11
      obtain ⟨rfl, rfl⟩ := q11
      obtain ⟨w', s1, s2, s3⟩ := setObj_turn (P := P) (.map ((delE es p.1).map (concE E)).toArray cl) hm (fun _ _ _ h => by cases h)
      obtain ⟨_, z, hz, _⟩ := findK_at es 0 p q10
      have hlt : p.1 < es.length := by
        have := (List.getElem?_eq_some_iff.1 hz).1
        simpa using this
      refine ⟨_, w', E, R, fin w' ?_, .inr ⟨_, rfl, ru⟩, inv_put inv hi q8 s3 ⟨s2, fun z hz => ?_⟩, step_put _ hi⟩
      · rw [Builtin.delete_, arg0 ht, ha1, ha2]
        simp only []
        rw [run_b (run_U hu), rm]
        simp only []
        rw [run_b (getObj_map hm)]
        simp only []
        rw [run_b (hck _), run_b hfk]
        simp only [Option.map_some]
        have he : ((es.map (concE E)).toArray.eraseIdxIfInBounds p.1) = ((delE es p.1).map (concE E)).toArray := by
          rw [delE_eq]
          simp [Array.eraseIdxIfInBounds, hlt, map_erase]
        rw [he, run_b s1]; rfl
      · rw [delE_eq] at hz
        exact hes z (List.mem_of_mem_eraseIdx hz)
  · obtain ⟨u, hx, q2⟩ := onNil_some q1
    obtain ⟨q3, q4⟩ := cnd_some q2
    have q3 := beq_e q3
    subst q3
    rw [Option.some.injEq, Prod.mk.injEq] at q4
    obtain ⟨rfl, rfl⟩ := q4
    rw [hx] at rm
    have rm : ρ m = .map none := (rm rfl).2
    refine ⟨_, w, E, R, fin w ?_, .inr ⟨_, rfl, ru⟩, inv, Step.refl E R h⟩
    rw [Builtin.delete_, arg0 ht, ha1, ha2]
    simp only []
    rw [run_b (run_U hu), rm]
    simp only []
    rw [run_b (hck true)]; rfl
end
end Go.Proofs.YtccadcefhfdmgaaGreatDoor.Ev
