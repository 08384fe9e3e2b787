/- wire.Valid by contract. No condition beyond what each theorem states. -/
import Derived.Test.YtbnpdghfbiacaaaMx
import Derived.Test.YtbnpdghfbiacaaaMy
import Derived.Test.YtbnpdghfbiacaaaMz
namespace Go.Proofs.Ytbnpdghfbiacaaa
open Go Go.RowKit Go.PlainAid

/-- the bytes of a field that may be are few -/
theorem may_out {m : Msg} (hr : Rng m) : ∀ f ∈ fieldsF vpP m, f.may m = true → (f.out m).length ≤ 30 := by
  have N : ∀ x : Int, x < 9223372036854775808 → (nS x).length ≤ 30 := fun x h => by
    have := nS_len h; omega
  have hp : (fPath vpP).may m = true → ((fPath vpP).out m).length ≤ 30 := fun h => by
    have := textS_le (vpP_len m.path h)
    simp only [fPath]; omega
  have hst : fStamp.may m = true → (fStamp.out m).length ≤ 30 := fun h => by
    have : stampI m.stamp := by simpa [fStamp] using h
    exact cS_le this
  have hf : fFresh.may m = true → (fFresh.out m).length ≤ 30 := fun _ => N _ (by split <;> omega)
  have hn : fNone.may m = true → (fNone.out m).length ≤ 30 := fun _ => by simp [fNone]
  have b : fBoot.may m = true → (fBoot.out m).length ≤ 30 := fun _ => N _ (boot_num.rng m hr)
  have s : fSeq.may m = true → (fSeq.out m).length ≤ 30 := fun _ => N _ (seq_num.rng m hr)
  have lo : fLow.may m = true → (fLow.out m).length ≤ 30 := fun _ => N _ (low_num.rng m hr)
  have ve : fVerb.may m = true → (fVerb.out m).length ≤ 30 := fun _ => N _ (verb_num.rng m hr)
  have co : fCode.may m = true → (fCode.out m).length ≤ 30 := fun _ => N _ (code_num.rng m hr)
  have mo : fMode.may m = true → (fMode.out m).length ≤ 30 := fun _ => N _ (mode_num.rng m hr)
  have te : fTerm.may m = true → (fTerm.out m).length ≤ 30 := fun _ => N _ (term_num.rng m hr)
  have gr : fGrant.may m = true → (fGrant.out m).length ≤ 30 := fun _ => N _ (term_num.rng m hr)
  have i : fId.may m = true → (fId.out m).length ≤ 30 := fun _ => N _ (id_num.rng m hr)
  have o : fOrigin.may m = true → (fOrigin.out m).length ≤ 30 := fun _ => N _ (origin_num.rng m hr)
  have nu : fNumber.may m = true → (fNumber.out m).length ≤ 30 := fun _ => N _ (number_num.rng m hr)
  unfold fieldsF askedF
  repeat' split
  all_goals
    intro f hf'
    simp only [List.mem_append, List.mem_cons, List.not_mem_nil, or_false, List.append_nil] at hf'
  all_goals first
    | (rcases hf' with (rfl | rfl | rfl | rfl) | rfl | rfl | rfl <;> assumption)
    | (rcases hf' with (rfl | rfl | rfl) | rfl | rfl | rfl <;> assumption)
    | (rcases hf' with (rfl | rfl | rfl | rfl) | rfl <;> assumption)
    | (rcases hf' with rfl | rfl | rfl | rfl <;> assumption)
    | (rcases hf' with rfl | rfl | rfl <;> assumption)
    | (exact hf'.elim)
theorem outF_len30 {m : Msg} : ∀ (L : List Fld), (∀ f ∈ L, (f.out m).length ≤ 30) → (outF L m).length ≤ 30 * L.length
  | [], _ => by simp [outF]
  | f :: L, h => by
    have h1 := outF_len30 L fun y hy => h y (List.mem_cons_of_mem _ hy)
    have h2 := h f (List.mem_cons_self ..)
    simp only [outF, List.map_cons, List.flatten_cons, List.length_append, List.length_cons] at h1 ⊢
    omega
theorem body_len {m : Msg} (hr : Rng m) (h : ((fieldsF vpP m).all fun f => f.may m) = true) : (bodyS m).length ≤ 1000 := by
  have h1 := outF_len30 (m := m) (fieldsF vpP m) fun f hf => may_out hr f hf (List.all_eq_true.1 h f hf)
  have h2 := fields_le vpP m
  have a1 := nS_len (hr.1 m.kind (by simp)); have a2 := nS_len (hr.1 m.from_ (by simp)); have a3 := nS_len (hr.1 m.dest (by simp))
  rw [body_fields vpP m, List.length_append, List.length_append, List.length_append]
  omega
theorem rdCnts_len (s : Rd) : (rdCnts s).1.length ≤ 5 := by
  unfold rdCnts
  rw [(rdNums_len _ _).1]; omega
theorem take_stamp (b : List UInt8) : (takeMsg b).stamp.length ≤ 5 := by
  unfold takeMsg
  simp only
  repeat' split
  all_goals simp
  all_goals exact rdCnts_len _
theorem mayS_iff (m : Msg) : mayS vpP m ↔ validP vpP m ∧ takeMsg (bodyS m) = m := valid_iff vpP vpP_len m
set_option maxRecDepth 100000 in
set_option maxHeartbeats 8000000 in
theorem valid10_any (m : Msg) (sv : Value) (W : World) (hs : SlI W sv m.stamp) (hr : Rng m) (hsh : Short maxLen m) :
    Calls Try.prog 10 #[.agg (mcells m sv).toArray] W fun e w' => e = .returned (.bool (decide (mayS vpP m))) ∧ Kp No W w' := by
  obtain ⟨A, c, rfl, _⟩ : ∃ A c, sv = .slice A m.stamp.length c ∧ m.stamp.length ≤ c := by obtain ⟨A, c, e, hc, _⟩ := hs; exact ⟨A, c, e, hc⟩
  have HS := Lib.hid hs; have HR := Lib.hid hr; have HSH := Lib.hid hsh; have HI := Lib.hid (mayS_iff m)
  clear hs hr hsh
  have kA : Kp No W (W.alloc (.cells (mcells m (.slice A m.stamp.length c)).toArray 29)) := (Kp.refl No W).alloc _
  have hM : MsgB (W.alloc (.cells (mcells m (.slice A m.stamp.length c)).toArray 29)) W.heap.size m (.slice A m.stamp.length c) := ⟨Bk.new' rfl rfl, HS.out.no kA⟩
  have pf := fields_any W.heap.size m _ _ hM
  have HM := Lib.hid hM; have HKA := Lib.hid kA
  clear hM kA
  unfold mcells at pf HM HKA ⊢
  go_enter Try.func10, Try.ntmps10
  go_wp2_with fail
  refine pf.mono ?_
  rintro e w1 ⟨fv, rfl, hfs, k1⟩
  obtain ⟨A1, c1, rfl⟩ := hfs.form
  have HM1 := Lib.hid (show MsgB w1 W.heap.size m (.slice A m.stamp.length c) from HM.out.no k1)
  have HK1 := Lib.hid (HKA.out.trans k1); have HFS := Lib.hid hfs
  have hle7 := fields_le vpP m
  clear hfs k1 pf HM HKA
  have z0 : w1.cell? ⟨W.heap.size, 0, none⟩ = some (.int .i64 m.kind) := HM1.out.1.cell 0
  have z1 : w1.cell? ⟨W.heap.size, 1, none⟩ = some (.int .i64 m.from_) := HM1.out.1.cell 1
  have z2 : w1.cell? ⟨W.heap.size, 2, none⟩ = some (.int .i64 m.dest) := HM1.out.1.cell 2
  by_cases c1' : (fieldsF vpP m).length = 0
  · have HX := Lib.hid (show decide (mayS vpP m) = false by rw [decide_eq_false_iff_not, HI.out]; rintro ⟨h, _⟩; exact h.1 (List.eq_nil_of_length_eq_zero c1'))
    go_wp2
    go_ret
    exact ⟨ret_bool rfl HX.out.symm, HK1.out⟩
  have d1 : (((fieldsF vpP m).length : Int) == 0) = false := by rw [beq_eq_false_iff_ne]; omega
  have HC1 := Lib.hid c1'; clear c1'
  have HD := Lib.hid (show nodeI m.from_ ∨ ¬ nodeI m.from_ from Decidable.em _)
  rcases HD.out with c2 | c2
  · have d2 : decide (nodeI m.from_) = true := by simpa using c2
    have HC2 := Lib.hid c2; clear c2
    by_cases c3 : m.from_ = m.dest
    · have HX := Lib.hid (show decide (mayS vpP m) = false by rw [decide_eq_false_iff_not, HI.out]; rintro ⟨h, _⟩; exact h.2.2.1 c3)
      have d3 : (m.from_ == m.dest) = true := by simpa using c3
      clear c3
      go_wp2_with (go_at_call 19; refine (isNode_any _ _).mono ?_; rintro e w' ⟨rfl, rfl⟩; rw [d2])
      go_ret
      exact ⟨ret_bool rfl HX.out.symm, HK1.out⟩
    · have d3 : (m.from_ == m.dest) = false := by rw [beq_eq_false_iff_ne]; exact c3
      have HC3 := Lib.hid c3; clear c3
      have HT : Hid ((m.kind = 5 ∧ ¬ (8 ≤ m.dest ∧ m.dest < 12) ∨ m.kind ≠ 5 ∧ ¬ nodeI m.dest) ∨ ((m.kind = 5 → 8 ≤ m.dest ∧ m.dest < 12) ∧ (m.kind ≠ 5 → nodeI m.dest))) := Lib.hid (by
        by_cases h5 : m.kind = 5
        · by_cases ht : 8 ≤ m.dest ∧ m.dest < 12
          · exact .inr ⟨fun _ => ht, fun h => absurd h5 h⟩
          · exact .inl (.inl ⟨h5, ht⟩)
        · by_cases ht : nodeI m.dest
          · exact .inr ⟨fun h => absurd h h5, fun _ => ht⟩
          · exact .inl (.inr ⟨h5, ht⟩))
      rcases HT.out with (⟨h5, ht⟩ | ⟨h5, ht⟩) | hto
      · have HX := Lib.hid (show decide (mayS vpP m) = false by rw [decide_eq_false_iff_not, HI.out]; rintro ⟨h, _⟩; exact ht (h.2.2.2.1 h5))
        rw [h5] at z0
        have d5 : m.dest < 8 ∨ 8 ≤ m.dest ∧ 12 ≤ m.dest := by omega
        clear h5 ht
        rcases d5 with d5 | ⟨d5, d6⟩
        all_goals
          go_wp2_with (go_at_call 19; refine (isNode_any _ _).mono ?_; rintro e w' ⟨rfl, rfl⟩; rw [d2])
          go_ret
          exact ⟨ret_bool rfl HX.out.symm, HK1.out⟩
      · have HX := Lib.hid (show decide (mayS vpP m) = false by rw [decide_eq_false_iff_not, HI.out]; rintro ⟨h, _⟩; exact ht (h.2.2.2.2.1 h5))
        have d5 : (m.kind == 5) = false := by rw [beq_eq_false_iff_ne]; exact h5
        have d6 : (m.kind != 5) = true := by rw [bne_iff_ne]; exact h5
        have d7 : decide (nodeI m.dest) = false := by simpa using ht
        clear h5 ht
        go_wp2_with (go_at_call 19; refine (isNode_any _ _).mono ?_; rintro e w' ⟨rfl, rfl⟩; first | rw [d2] | rw [d7])
        go_ret
        exact ⟨ret_bool rfl HX.out.symm, HK1.out⟩
      · have HTO := Lib.hid hto
        have dd : (m.kind == 5) = true ∧ (m.kind != 5) = false ∧ ¬ m.dest < 8 ∧ m.dest < 12 ∨ (m.kind == 5) = false ∧ (m.kind != 5) = true ∧ decide (nodeI m.dest) = true := by
          by_cases h5 : m.kind = 5
          · left; have := hto.1 h5; exact ⟨by simpa using h5, by simpa using h5, by omega, by omega⟩
          · right; have := hto.2 h5; exact ⟨by simpa using h5, by simpa using h5, by simpa using this⟩
        clear hto
        have sk : ∀ W2, Kp No w1 W2 → W2.cell? ⟨W.heap.size, 0, none⟩ = some (.int .i64 m.kind) ∧ W2.cell? ⟨W.heap.size, 1, none⟩ = some (.int .i64 m.from_) ∧ W2.cell? ⟨W.heap.size, 2, none⟩ = some (.int .i64 m.dest) ∧ W2.cell? ⟨W.heap.size, 3, none⟩ = some (.int .i64 m.boot) ∧ W2.cell? ⟨W.heap.size, 4, none⟩ = some (.int .i64 m.seq) ∧ W2.cell? ⟨W.heap.size, 5, none⟩ = some (.int .i64 m.low) ∧ W2.cell? ⟨W.heap.size, 6, none⟩ = some (.int .i64 m.verb) ∧ W2.cell? ⟨W.heap.size, 7, none⟩ = some (.string ⟨m.path.toArray⟩) ∧ W2.cell? ⟨W.heap.size, 8, none⟩ = some (.int .i64 m.mode) ∧ W2.cell? ⟨W.heap.size, 9, none⟩ = some (.int .i64 m.term) ∧ W2.cell? ⟨W.heap.size, 10, none⟩ = some (.int .i64 m.id) ∧ W2.cell? ⟨W.heap.size, 11, none⟩ = some (.bool m.fresh) ∧ W2.cell? ⟨W.heap.size, 12, none⟩ = some (.int .i64 m.code) ∧ W2.cell? ⟨W.heap.size, 13, none⟩ = some (.slice A m.stamp.length c) ∧ W2.cell? ⟨W.heap.size, 14, none⟩ = some (.int .i64 m.origin) ∧ W2.cell? ⟨W.heap.size, 15, none⟩ = some (.int .i64 m.number) := fun W2 k => ⟨(HM1.out.1.no k).cell 0, (HM1.out.1.no k).cell 1, (HM1.out.1.no k).cell 2, (HM1.out.1.no k).cell 3, (HM1.out.1.no k).cell 4, (HM1.out.1.no k).cell 5, (HM1.out.1.no k).cell 6, (HM1.out.1.no k).cell 7, (HM1.out.1.no k).cell 8, (HM1.out.1.no k).cell 9, (HM1.out.1.no k).cell 10, (HM1.out.1.no k).cell 11, (HM1.out.1.no k).cell 12, (HM1.out.1.no k).cell 13, (HM1.out.1.no k).cell 14, (HM1.out.1.no k).cell 15⟩
        have hl7 : (fieldsF vpP m).length ≤ 1000 := by omega
        have qc : ∀ W2, Kp No w1 W2 → Calls Try.prog 20 #[.slice A1 (fieldsF vpP m).length c1, .func (.func 21) #[] #[.pointer (some ⟨W.heap.size, 0, none⟩)]] W2 fun e w' => e = .returned (.bool (!((fieldsF vpP m).all fun f => f.may m))) ∧ Kp No w1 w' := fun W2 k =>
          (containsFld_any A1 c1 _ _ W.heap.size m _ W2 (HFS.out.no k) hl7 (HM1.out.no k) HSH.out).mono fun e w' ⟨h, k2⟩ => ⟨h, k.trans k2⟩
        have QC := Lib.hid qc; have SK := Lib.hid sk
        clear qc sk hl7
        have HALL : Hid (((fieldsF vpP m).all fun f => f.may m) = true ∨ ((fieldsF vpP m).all fun f => f.may m) = false) := Lib.hid (by cases ((fieldsF vpP m).all fun f => f.may m) <;> simp)
        rcases HALL.out with hall | hall
        · as_aux_lemma =>
            have HL := Lib.hid (body_len HR.out hall)
            have HOL := Lib.hid (fun f (hf : f ∈ fieldsF vpP m) => Nat.le_trans (may_out HR.out f hf (List.all_eq_true.1 hall f hf)) (by omega : (30 : Nat) ≤ 10000))
            have HX := Lib.hid (show decide (takeMsg (bodyS m) = m) = decide (mayS vpP m) by
              rw [decide_eq_decide, HI.out]
              have hv : validP vpP m := ⟨fun h => HC1.out (by rw [h]; rfl), HC2.out, HC3.out, HTO.out.1, HTO.out.2, fun f hf => List.all_eq_true.1 hall f hf⟩
              exact ⟨fun h => ⟨hv, h⟩, fun h => h.2⟩)
            have HTS := Lib.hid (show (takeMsg (bodyS m)).stamp.length ≤ maxLen by have := take_stamp (bodyS m); unfold maxLen; omega)
            have qc := fun W2 k => (QC.out W2 k)
            rw [hall] at qc
            simp only [Bool.not_true] at qc
            have sk := SK.out
            have qb : ∀ W2, Kp No w1 W2 → Calls Try.prog 15 #[(.agg #[.int .i64 m.kind, .int .i64 m.from_, .int .i64 m.dest, .int .i64 m.boot, .int .i64 m.seq, .int .i64 m.low, .int .i64 m.verb, .string ⟨m.path.toArray⟩, .int .i64 m.mode, .int .i64 m.term, .int .i64 m.id, .bool m.fresh, .int .i64 m.code, .slice A m.stamp.length c, .int .i64 m.origin, .int .i64 m.number] : Value)] W2 fun e w' => ∃ A2 c2, e = .returned (.slice A2 (bodyS m).length c2) ∧ ArgB w' (.slice A2 (bodyS m).length c2) (bodyS m) ∧ Kp No w1 w' := fun W2 k =>
              (body_any m (.slice A m.stamp.length c) W2 (HM1.out.2.no k) HR.out HOL.out).mono fun e w' ⟨v, h, ho, k2⟩ => by
                obtain ⟨A2, c2, e2, _⟩ := own_len ho
                subst e2
                exact ⟨A2, c2, h, own_argB ho, k.trans k2⟩
            have qr : ∀ W2 A2 c2, Kp No w1 W2 → ArgB W2 (.slice A2 (bodyS m).length c2) (bodyS m) → Calls Try.prog 22 #[.slice A2 (bodyS m).length c2] W2 fun e w' => ∃ A3 c3, e = .returned (.agg (mcells (takeMsg (bodyS m)) (.slice A3 (takeMsg (bodyS m)).stamp.length c3)).toArray) ∧ ArgInts w' (.slice A3 (takeMsg (bodyS m)).stamp.length c3) (takeMsg (bodyS m)).stamp ∧ Kp No w1 w' := fun W2 A2 c2 k hb =>
              (read_any A2 c2 (bodyS m) W2 hb HL.out).mono fun e w' ⟨v, h, ho, k2⟩ => by
                obtain ⟨A3, c3, e2, _⟩ := own_len ho
                subst e2
                exact ⟨A3, c3, h, own_argI ho, k.trans k2⟩
            have qs : ∀ W2 A3 c3, Kp No w1 W2 → ArgInts W2 (.slice A3 (takeMsg (bodyS m)).stamp.length c3) (takeMsg (bodyS m)).stamp → Calls Try.prog 13 #[.agg (mcells (takeMsg (bodyS m)) (.slice A3 (takeMsg (bodyS m)).stamp.length c3)).toArray, (.agg #[.int .i64 m.kind, .int .i64 m.from_, .int .i64 m.dest, .int .i64 m.boot, .int .i64 m.seq, .int .i64 m.low, .int .i64 m.verb, .string ⟨m.path.toArray⟩, .int .i64 m.mode, .int .i64 m.term, .int .i64 m.id, .bool m.fresh, .int .i64 m.code, .slice A m.stamp.length c, .int .i64 m.origin, .int .i64 m.number] : Value)] W2 fun e w' => e = .returned (.bool (decide (takeMsg (bodyS m) = m))) ∧ Kp No w1 w' := fun W2 A3 c3 k h3 =>
              (same_any (takeMsg (bodyS m)) m _ (.slice A m.stamp.length c) W2 h3 (HM1.out.2.no k).arg HTS.out HSH.out.2).mono fun e w' ⟨h, k2⟩ => ⟨h, k.trans k2⟩
            rw [HX.out] at qs
            obtain ⟨R, hR⟩ : ∃ R, R = decide (mayS vpP m) := ⟨_, rfl⟩
            rw [← hR] at qs
            have HRR := Lib.hid hR; clear hR
            generalize takeMsg (bodyS m) = T at *
            generalize hbl : (bodyS m).length = bl at *
            generalize bodyS m = BS at *
            simp only [mcells] at qr qs
            have hmf : ∀ (fn : Fn) (first cap : Array Value) (w : World), (Instr.makeFunc fn first cap).run Try.prog w = .ok (.func fn first cap) w := fun _ _ _ _ => rfl
            clear hall hbl
            rcases dd with ⟨e1, e2, e3, e4⟩ | ⟨e1, e2, e3⟩
            all_goals
              go_upto_region 6 with (go_at_call 19; refine (isNode_any _ _).mono ?_; rintro e w' ⟨rfl, rfl⟩; first | rw [d2] | rw [e3])
              clear QC SK z0 z1 z2
              go_region_held3 (fun W2 => W2.cell? ⟨W.heap.size, 0, none⟩ = some (.int .i64 m.kind) ∧ W2.cell? ⟨W.heap.size, 1, none⟩ = some (.int .i64 m.from_) ∧ W2.cell? ⟨W.heap.size, 2, none⟩ = some (.int .i64 m.dest) ∧ W2.cell? ⟨W.heap.size, 3, none⟩ = some (.int .i64 m.boot) ∧ W2.cell? ⟨W.heap.size, 4, none⟩ = some (.int .i64 m.seq) ∧ W2.cell? ⟨W.heap.size, 5, none⟩ = some (.int .i64 m.low) ∧ W2.cell? ⟨W.heap.size, 6, none⟩ = some (.int .i64 m.verb) ∧ W2.cell? ⟨W.heap.size, 7, none⟩ = some (.string ⟨m.path.toArray⟩) ∧ W2.cell? ⟨W.heap.size, 8, none⟩ = some (.int .i64 m.mode) ∧ W2.cell? ⟨W.heap.size, 9, none⟩ = some (.int .i64 m.term) ∧ W2.cell? ⟨W.heap.size, 10, none⟩ = some (.int .i64 m.id) ∧ W2.cell? ⟨W.heap.size, 11, none⟩ = some (.bool m.fresh) ∧ W2.cell? ⟨W.heap.size, 12, none⟩ = some (.int .i64 m.code) ∧ W2.cell? ⟨W.heap.size, 13, none⟩ = some (.slice A m.stamp.length c) ∧ W2.cell? ⟨W.heap.size, 14, none⟩ = some (.int .i64 m.origin) ∧ W2.cell? ⟨W.heap.size, 15, none⟩ = some (.int .i64 m.number)) (first | (go_keep; done) | exact sk _ (by with_reducible repeat (first | assumption | exact Kp.refl _ _ | refine Kp.drew ?_ | refine Kp.drewN ?_ _)))
                (first
                  | (go_at_call 20; (with_reducible refine (qc _ (by with_reducible repeat (first | assumption | exact Kp.refl _ _ | refine Kp.drew ?_ | refine Kp.drewN ?_ _))).mono ?_); rintro e w2 ⟨rfl, k2⟩)
                  | (go_at_call 15; (with_reducible refine (qb _ (by with_reducible repeat (first | assumption | exact Kp.refl _ _ | refine Kp.drew ?_ | refine Kp.drewN ?_ _))).mono ?_); rintro e w3 ⟨A2, c2, rfl, hb3, k3⟩)
                  | (go_at_call 22; (with_reducible refine (qr _ _ _ (by with_reducible repeat (first | assumption | exact Kp.refl _ _ | refine Kp.drew ?_ | refine Kp.drewN ?_ _)) (by assumption)).mono ?_); rintro e w4 ⟨A3, c3, rfl, hb4, k4⟩)
                  | (go_at_call 13; (with_reducible refine (qs _ _ _ (by with_reducible repeat (first | assumption | exact Kp.refl _ _ | refine Kp.drew ?_ | refine Kp.drewN ?_ _)) (by assumption)).mono ?_); rintro e w5 ⟨rfl, k5⟩))
              all_goals
                have HK5 := Lib.hid (HK1.out.trans k5)
                clear qc qb qr qs sk k2 k3 k4 k5 hb3 hb4
                go_wp2
                go_ret
                exact ⟨ret_bool rfl HRR.out, HK5.out⟩
        · as_aux_lemma =>
            have HX := Lib.hid (show decide (mayS vpP m) = false by
              rw [decide_eq_false_iff_not, HI.out]
              rintro ⟨h, _⟩
              have h2 : ((fieldsF vpP m).all fun f => f.may m) = true := List.all_eq_true.2 h.2.2.2.2.2
              rw [hall] at h2; cases h2)
            have qc := fun W2 k => (QC.out W2 k)
            rw [hall] at qc
            simp only [Bool.not_false] at qc
            have sk := SK.out
            have hmf : ∀ (fn : Fn) (first cap : Array Value) (w : World), (Instr.makeFunc fn first cap).run Try.prog w = .ok (.func fn first cap) w := fun _ _ _ _ => rfl
            clear hall
            rcases dd with ⟨e1, e2, e3, e4⟩ | ⟨e1, e2, e3⟩
            all_goals
              go_upto_region 6 with (go_at_call 19; refine (isNode_any _ _).mono ?_; rintro e w' ⟨rfl, rfl⟩; first | rw [d2] | rw [e3])
              clear QC SK z0 z1 z2
              go_region_with (go_at_call 20; (with_reducible refine (qc _ (by with_reducible repeat (first | assumption | exact Kp.refl _ _ | refine Kp.drew ?_ | refine Kp.drewN ?_ _))).mono ?_); rintro e w2 ⟨rfl, k2⟩)
              all_goals
                have HK5 := Lib.hid (HK1.out.trans k2)
                clear qc sk k2
                go_wp2
                go_ret
                exact ⟨ret_bool rfl HX.out.symm, HK5.out⟩
  · have HX := Lib.hid (show decide (mayS vpP m) = false by rw [decide_eq_false_iff_not, HI.out]; rintro ⟨h, _⟩; exact c2 h.2.1)
    have d2 : decide (nodeI m.from_) = false := by simpa using c2
    clear c2
    go_wp2_with (go_at_call 19; refine (isNode_any _ _).mono ?_; rintro e w' ⟨rfl, rfl⟩; rw [d2])
    go_ret
    exact ⟨ret_bool rfl HX.out.symm, HK1.out⟩
end Go.Proofs.Ytbnpdghfbiacaaa
