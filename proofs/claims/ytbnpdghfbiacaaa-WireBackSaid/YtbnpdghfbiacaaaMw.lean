/- The body of a message by contract (wire). No condition beyond what each theorem states. -/
import Derived.Test.YtbnpdghfbiacaaaMv
namespace Go.Proofs.Ytbnpdghfbiacaaa
open Go Go.RowKit Go.PlainAid

theorem flat_get : ∀ (vs : List FV) (k : Nat) (h : k < vs.length) (j : Nat), j < 3 → ((vs.map FV.cells).flatten)[k * 3 + j]? = (vs[k]).cells[j]?
  | v :: vs, 0, _, j, hj => by
    simp only [List.map_cons, List.flatten_cons, List.getElem_cons_zero, Nat.zero_mul, Nat.zero_add]
    rw [List.getElem?_append_left (by simpa [FV.cells] using hj)]
  | v :: vs, k + 1, h, j, hj => by
    have ih := flat_get vs k (by simpa using h) j hj
    simp only [List.map_cons, List.flatten_cons, List.getElem_cons_succ]
    rw [List.getElem?_append_right (by simp [FV.cells]; omega), ← ih]
    congr 1
    simp [FV.cells]; omega
theorem range_of {w : World} {g : Nat} {t : TypeId} {cs : List Value} (h : Bk w g t cs) : w.rangeAt g 0 cs := fun j v hv => by rw [h.cell, Nat.zero_add]; exact hv
theorem FsAt.at_ {w : World} {B : Nat} {sv : Value} {L : List Fld} (h : FsAt w B sv L) {k : Nat} (hk : k < L.length) : ∃ g c v, sv = .slice (some ⟨g, 0, none⟩) L.length c ∧
    w.cell? ⟨g, k * 3, none⟩ = some (.func (.func v.wn) #[] v.wc) ∧ w.cell? ⟨g, k * 3 + 1, none⟩ = some (.func (.func v.rn) #[] v.rc) ∧ w.cell? ⟨g, k * 3 + 2, none⟩ = some (.func (.func v.fn) #[] v.fc) ∧ FOk w v L[k] := by
  obtain ⟨vs, h1, h2, h3⟩ := h
  obtain ⟨g, c, e, _⟩ := own_form h1 (by omega)
  have hk2 : k < vs.length := by omega
  have hc : ∀ j x, j < 3 → (vs[k]).cells[j]? = some x → w.cell? ⟨g, k * 3 + j, none⟩ = some x := fun j x hj hx => by
    have := h1.cells (g := g) (by rw [e]; rfl) (k * 3 + j) x (by rw [flat_get vs k hk2 j hj]; exact hx)
    rwa [Addr.add_mid, Nat.zero_add] at this
  refine ⟨g, c, vs[k], e, hc 0 _ (by omega) rfl, hc 1 _ (by omega) rfl, hc 2 _ (by omega) rfl, h3 (vs[k], L[k]) ?_⟩
  have : (vs.zip L)[k]'(by simp; omega) = (vs[k], L[k]) := by simp
  rw [← this]
  exact List.getElem_mem _
theorem FsAt.tys {w w' : World} {B : Nat} {v : Value} {L : List Fld} {M : Nat → Prop} {ts : List TypeId} (h : FsAt w B v L) (hk : Kp M w w') (ht : Tys M w ts) (h1 : 55 ∉ ts) (h2 : ∀ t ∈ FT, t ∉ ts) : FsAt w' B v L :=
  h.stay hk (fun g hg => by
    obtain ⟨vs, o, _⟩ := h
    obtain ⟨cs, hb⟩ := own_bk o g hg
    exact ht.not hb h1) (Stay.of_kp hk ht h2)
theorem SlI.tys {w w' : World} {v : Value} {L : List Int} {M : Nat → Prop} {ts : List TypeId} (h : SlI w v L) (hk : Kp M w w') (ht : Tys M w ts) (h1 : 3 ∉ ts) : SlI w' v L := h.kp hk fun _g _cs hb => ht.not hb h1
theorem WrAft.no {W w w' : World} {b B : Nat} {v : Value} {l : List UInt8} (h : WrAft W b B v l w) (hk : Kp No w w') : WrAft W b B v l w' := by
  obtain ⟨v', h1, h2, h3⟩ := h
  refine ⟨v', ⟨h1.1.no hk, h1.2.no hk⟩, h2.then_ hk fun i _ m => m.elim, h3⟩
theorem outF_snoc {L : List Fld} {k : Nat} (m : Msg) (h : k < L.length) : outF (L.take (k + 1)) m = outF (L.take k) m ++ (L[k]).out m := by
  rw [List.take_succ_eq_append_getElem h]
  simp only [outF, List.map_append, List.flatten_append, List.map_cons, List.map_nil, List.flatten_cons, List.flatten_nil, List.append_nil]
theorem nS_len {x : Int} (h : x < 9223372036854775808) : (nS x).length ≤ 9 := numS_len 8 x.toNat (by omega)
/-- a field's bytes are few -/
theorem out_len {m : Msg} (hr : Rng m) (hs : Short 1000 m) : ∀ f ∈ fieldsF vpP m, (f.out m).length ≤ 10000 := by
  have N : ∀ x : Int, x < 9223372036854775808 → (nS x).length ≤ 10000 := fun x h => by
    have := nS_len h; omega
  have hp : ((fPath vpP).out m).length ≤ 10000 := by
    have := numS_len 8 m.path.length (by have := hs.1; omega)
    have := hs.1
    simp only [fPath, textS, List.length_append]; omega
  have hst : (fStamp.out m).length ≤ 10000 := by
    have h1 := numS_len 8 m.stamp.length (by have := hs.2; omega)
    have h2 := outI_len m.stamp hr.2
    have := hs.2
    simp only [fStamp]; rw [cS_out, List.length_append]; omega
  have hf : (fFresh.out m).length ≤ 10000 := by
    have : (nS (if m.fresh then 1 else 0)).length ≤ 9 := nS_len (by split <;> omega)
    simp only [fFresh]; omega
  have hn : (fNone.out m).length ≤ 10000 := by simp [fNone]
  have b : (fBoot.out m).length ≤ 10000 := N _ (boot_num.rng m hr)
  have s : (fSeq.out m).length ≤ 10000 := N _ (seq_num.rng m hr)
  have lo : (fLow.out m).length ≤ 10000 := N _ (low_num.rng m hr)
  have ve : (fVerb.out m).length ≤ 10000 := N _ (verb_num.rng m hr)
  have co : (fCode.out m).length ≤ 10000 := N _ (code_num.rng m hr)
  have mo : (fMode.out m).length ≤ 10000 := N _ (mode_num.rng m hr)
  have te : (fTerm.out m).length ≤ 10000 := N _ (term_num.rng m hr)
  have gr : (fGrant.out m).length ≤ 10000 := N _ (term_num.rng m hr)
  have i : (fId.out m).length ≤ 10000 := N _ (id_num.rng m hr)
  have o : (fOrigin.out m).length ≤ 10000 := N _ (origin_num.rng m hr)
  have nu : (fNumber.out m).length ≤ 10000 := N _ (number_num.rng m hr)
  unfold fieldsF askedF
  repeat' split
  all_goals
    intro f hf'
    simp only [List.mem_append, List.mem_cons, List.not_mem_nil, or_false, List.append_nil] at hf'
  all_goals first
    | (rcases hf' with (rfl | rfl | rfl | rfl) | rfl | rfl | rfl <;> assumption)
    | (rcases hf' with (rfl | rfl | rfl) | rfl | rfl | rfl <;> assumption)
    | (rcases hf' with (rfl | rfl | rfl | rfl) | rfl <;> assumption)
    | (rcases hf' with rfl | rfl | rfl | rfl <;> assumption)
    | (rcases hf' with rfl | rfl | rfl <;> assumption)
    | (exact hf'.elim)
theorem outF_len {m : Msg} : ∀ (L : List Fld), (∀ f ∈ L, (f.out m).length ≤ 10000) → (outF L m).length ≤ 10000 * L.length
  | [], _ => by simp [outF]
  | f :: L, h => by
    have h1 := outF_len L fun y hy => h y (List.mem_cons_of_mem _ hy)
    have h2 := h f (List.mem_cons_self ..)
    simp only [outF, List.map_cons, List.flatten_cons, List.length_append, List.length_cons] at h1 ⊢
    omega
def BodyR (W : World) (m : Msg) (e : Ending) (w' : World) : Prop := ∃ v, e = .returned v ∧ OwnB w' W.heap.size v (bodyS m) ∧ Kp No W w'
set_option maxRecDepth 100000 in
set_option maxHeartbeats 4000000 in
theorem body_any (m : Msg) (sv : Value) (W : World) (hs : SlI W sv m.stamp) (hr : Rng m) (hol : ∀ f ∈ fieldsF vpP m, (f.out m).length ≤ 10000) : Calls Try.prog 15 #[.agg (mcells m sv).toArray] W (BodyR W m) := by
  have HS := Lib.hid hs; have HR := Lib.hid hr; have HOL := Lib.hid hol
  have hmf : ∀ (fn : Fn) (first cap : Array Value) (w : World), (Instr.makeFunc fn first cap).run Try.prog w = .ok (.func fn first cap) w := fun _ _ _ _ => rfl
  clear hs hr hol
  unfold mcells
  go_enter Try.func15, Try.ntmps15
  go_wp2
  have hM : MsgB (((W.alloc (.cells (mcells m sv).toArray 29)).alloc (.cells #[.slice none 0 0] 62)).alloc (.cells #[.int .i64 m.kind, .int .i64 m.from_, .int .i64 m.dest] 3)) W.heap.size m sv :=
    ⟨((Bk.new' rfl rfl).alloc _).alloc _, HS.out.no ((((Kp.refl No W).alloc _).alloc _).alloc _)⟩
  have hWr : WrB (((W.alloc (.cells (mcells m sv).toArray 29)).alloc (.cells #[.slice none 0 0] 62)).alloc (.cells #[.int .i64 m.kind, .int .i64 m.from_, .int .i64 m.dest] 3)) (W.heap.size + 1) W.heap.size (.slice none 0 0) [] :=
    ⟨(Bk.new' (by simp) rfl).alloc _, OwnB.nil _ _⟩
  have hL : SlI (((W.alloc (.cells (mcells m sv).toArray 29)).alloc (.cells #[.slice none 0 0] 62)).alloc (.cells #[.int .i64 m.kind, .int .i64 m.from_, .int .i64 m.dest] 3)) (.slice (some ⟨W.heap.size + 1 + 1, 0, none⟩) 3 3) [m.kind, m.from_, m.dest] :=
    ⟨_, 3, rfl, by simp, fun _ => ⟨_, 0, _, rfl, Bk.new' (by simp) rfl, range_of (Bk.new' (by simp) rfl)⟩⟩
  have K0 : Kp No W (((W.alloc (.cells (mcells m sv).toArray 29)).alloc (.cells #[.slice none 0 0] 62)).alloc (.cells #[.int .i64 m.kind, .int .i64 m.from_, .int .i64 m.dest] 3)) := (((Kp.refl No W).alloc _).alloc _).alloc _
  simp only [mcells] at hM hWr hL K0
  generalize ((W.alloc (.cells ([.int .i64 m.kind, .int .i64 m.from_, .int .i64 m.dest, .int .i64 m.boot, .int .i64 m.seq, .int .i64 m.low, .int .i64 m.verb, .string ⟨m.path.toArray⟩, .int .i64 m.mode, .int .i64 m.term, .int .i64 m.id, .bool m.fresh, .int .i64 m.code, sv, .int .i64 m.origin, .int .i64 m.number] : List Value).toArray 29)).alloc (.cells #[.slice none 0 0] 62)).alloc (.cells #[.int .i64 m.kind, .int .i64 m.from_, .int .i64 m.dest] 3) = W0 at *
  have H3 := Lib.hid (show ∀ x ∈ [m.kind, m.from_, m.dest], x < 9223372036854775808 from fun x hx => HR.out.1 x (by simp at hx; rcases hx with rfl | rfl | rfl <;> simp))
  have HL3 := Lib.hid (show ([m.kind, m.from_, m.dest] : List Int).length = 3 from rfl)
  have HO3 := Lib.hid (show outI [m.kind, m.from_, m.dest] = nS m.kind ++ nS m.from_ ++ nS m.dest by simp [outI, nS])
  generalize hl3 : ([m.kind, m.from_, m.dest] : List Int) = L3 at *
  have HL := Lib.hid hL; have HM := Lib.hid hM; have HW := Lib.hid hWr; have HK := Lib.hid K0
  have hsz0 : W.heap.size ≤ W0.heap.size := K0.size
  clear hL hM hWr K0 hl3
  go_loopw [16] (fun i wr => ∃ k : Nat, k ≤ 3 ∧ i = .int .i64 k ∧ WrAft W0 (W.heap.size + 1) W.heap.size (.slice none 0 0) (outI (L3.take k)) wr) (fun i _ => 3 - (intOf i).toNat)
  case atStart => exact ⟨0, Nat.zero_le _, rfl, WrAft.start HW.out⟩
  case round =>
    obtain ⟨k, hk, rfl, hF⟩ := hrel
    by_cases hlt : k < 3
    · have hlt3 : k < L3.length := by rw [HL3.out]; exact hlt
      have hk0 : (0 : Int) ≤ (k : Int) := by omega
      have hk1 : (k : Int) < 3 := by omega
      have hLr : SlI wr (.slice (some ⟨W.heap.size + 1 + 1, 0, none⟩) 3 3) L3 := by
        obtain ⟨v', _, k2, _⟩ := hF
        exact HL.out.tys k2 (wrm_tys HW.out) (by decide)
      obtain ⟨g', o, c', e1, hxx⟩ := hLr.arg.at_ hlt3
      have hx := hxx k _ (List.getElem?_eq_getElem hlt3)
      rw [HL3.out] at e1
      clear hxx hLr
      injection e1 with e1 _ e1c
      injection e1 with e1
      injection e1 with e1 e2 _
      subst e1 e1c
      subst e2
      rw [Nat.zero_add] at hx
      have HT := Lib.hid (outI_snoc hlt3)
      have HX := Lib.hid (H3.out _ (List.getElem_mem hlt3))
      have hol := outI_len (L3.take k) fun x hx => H3.out x (List.mem_of_mem_take hx)
      rw [List.length_take] at hol
      generalize L3[k] = x at *
      obtain ⟨va, hwa, hka, hna⟩ := hF
      have pa := wnum_any (W.heap.size + 1) W.heap.size va (outI (L3.take k)) x wr hwa (Nat.le_trans hsz0 hka.size) (by omega) HX.out
      have HK2 := Lib.hid hka; have HN := Lib.hid hna
      clear hka hna hwa hol hlt3
      go_wp2_with fail
      refine pa.mono ?_
      rintro e w' ⟨rfl, h2⟩
      have H2 := Lib.hid h2; clear h2 pa
      go_wp2
      go_roundw
      case rel => exact ⟨k + 1, by omega, by go_num, by rw [HT.out]; exact WrAft.then_ HK2.out HN.out H2.out⟩
      case measure => simp [intOf]; omega
    · obtain rfl : k = 3 := by omega
      clear hlt
      have hF2 : WrAft W0 (W.heap.size + 1) W.heap.size (.slice none 0 0) (nS m.kind ++ nS m.from_ ++ nS m.dest) wr := by
        rw [← HO3.out]; rw [List.take_of_length_le (by rw [HL3.out]; omega)] at hF; exact hF
      have hMr := hF2.msg HW.out HM.out
      have pf := fields_any W.heap.size m sv wr hMr
      have HF := Lib.hid hF2; have HMr := Lib.hid hMr
      clear hF hF2 hMr
      go_wp2_with fail
      refine pf.mono ?_
      rintro e w1 ⟨fv, rfl, hfs, k1⟩
      obtain ⟨A, c, rfl⟩ := hfs.form
      have HA := Lib.hid (HF.out.no k1)
      have HM1 := Lib.hid (HMr.out.no k1)
      have hfl := fields_le vpP m
      have HBF := Lib.hid (body_fields vpP m)
      have HFS := Lib.hid hfs
      have hsz1 : W.heap.size ≤ w1.heap.size := by obtain ⟨_, _, k2, _⟩ := HA.out; exact Nat.le_trans hsz0 k2.size
      have HBW := Lib.hid (show wr.heap.size ≤ w1.heap.size from k1.size)
      have HNN := Lib.hid (show (nS m.kind ++ nS m.from_ ++ nS m.dest).length ≤ 27 by
        have a1 := nS_len (HR.out.1 m.kind (by simp)); have a2 := nS_len (HR.out.1 m.from_ (by simp)); have a3 := nS_len (HR.out.1 m.dest (by simp))
        rw [List.length_append, List.length_append]; omega)
      clear hfs k1 pf HF HMr
      generalize fieldsF vpP m = L at *
      generalize wr.heap.size = Bf at *
      generalize hN3 : nS m.kind ++ nS m.from_ ++ nS m.dest = N3 at *
      clear hN3
      go_wp2
      go_loopw [25] (fun i wr => ∃ k : Nat, k ≤ L.length ∧ i = .int .i64 k ∧ WrAft W0 (W.heap.size + 1) W.heap.size (.slice none 0 0) (N3 ++ outF (L.take k) m) wr ∧ FsAt wr Bf (.slice A L.length c) L ∧ MsgB wr W.heap.size m sv) (fun i _ => L.length - (intOf i).toNat)
      case atStart => exact ⟨0, Nat.zero_le _, rfl, by simpa [outF] using HA.out, HFS.out, HM1.out⟩
      case round =>
        obtain ⟨k, hk, rfl, hF, hfs, hmr⟩ := hrel
        by_cases hlt : k < L.length
        · have hk0 : (0 : Int) ≤ (k : Int) := by omega
          have hk1 : (k : Int) < (L.length : Int) := by omega
          obtain ⟨g', c', v, e1, c0, c1, c2, hv⟩ := hfs.at_ hlt
          injection e1 with e1 _ e1c
          subst e1 e1c
          have HT := Lib.hid (outF_snoc m hlt)
          have hol := outF_len (m := m) (L.take k) fun f hf => HOL.out f (List.mem_of_mem_take hf)
          rw [List.length_take] at hol
          have HXL := Lib.hid (HOL.out _ (List.getElem_mem hlt))
          generalize L[k] = fl at *
          obtain ⟨va, hwa, hka, hna⟩ := hF
          have hWA := (hwa.1.alloc (.cells #[.func (.func v.wn) #[] v.wc, .func (.func v.rn) #[] v.rc, .func (.func v.fn) #[] v.fc] 55))
          have hWO := hwa.2.alloc (.cells #[.func (.func v.wn) #[] v.wc, .func (.func v.rn) #[] v.rc, .func (.func v.fn) #[] v.fc] 55)
          have kA : Kp No wr (wr.alloc (.cells #[.func (.func v.wn) #[] v.wc, .func (.func v.rn) #[] v.rc, .func (.func v.fn) #[] v.fc] 55)) := (Kp.refl No wr).alloc _
          have pa := hv.write _ (Stay.no kA) W.heap.size m sv (W.heap.size + 1) W.heap.size va (N3 ++ outF (L.take k) m) (hmr.no kA) HR.out HXL.out ⟨hWA, hWO⟩ (Nat.le_trans (Nat.le_trans hsz0 hka.size) kA.size) (by
            have := HNN.out; rw [List.length_append]; omega)
          have we : ∀ (args : Array Value) (w : World), (callFunc v.wn args).run Try.prog w = .ok (.enter v.wn args) w := hv.we
          have HWA := Lib.hid (show WrB _ _ _ _ _ from ⟨hWA, hWO⟩)
          have HFS2 := Lib.hid (hfs.no kA); have HM2 := Lib.hid (hmr.no kA)
          have HK2 := Lib.hid (hka.then_ kA fun i _ m => m.elim); have HN := Lib.hid hna
          clear hka hna hwa hol hWA hWO hfs hmr kA hv
          go_wp2_with fail
          refine pa.mono ?_
          rintro e w' ⟨rfl, h2⟩
          have H2 := Lib.hid h2; clear h2 pa
          go_wp2
          go_roundw
          case rel =>
            have h3 := H2.out
            obtain ⟨v', _, k2, _⟩ := h3
            exact ⟨k + 1, by omega, by go_num, by rw [HT.out, ← List.append_assoc]; exact WrAft.then_ HK2.out HN.out H2.out, HFS2.out.tys k2 (wrm_tys HWA.out) (by decide) (by decide), H2.out.msg HWA.out HM2.out⟩
          case measure => simp [intOf]; omega
        · have hk1 : ¬ (k : Int) < (L.length : Int) := by omega
          obtain rfl : k = L.length := by omega
          rw [List.take_length] at hF
          obtain ⟨va, hwa, hka, hna⟩ := hF
          have pb := wbytes_any (W.heap.size + 1) W.heap.size va _ wr hwa (Nat.le_trans hsz0 hka.size) (by
            have h1 := HNN.out
            have h2 := outF_len (m := m) L HOL.out
            rw [List.length_append]; omega)
          have KW := Lib.hid (show Kp No W wr from HK.out.then_ hka fun i hi hm => by
            rcases hm with rfl | hm
            · omega
            · simp [Value.ownBlock] at hm)
          clear hwa hka hna hfs hmr hlt
          go_wp2_with fail
          refine pb.mono ?_
          rintro e w' ⟨v', rfl, ho, k2⟩
          have HO := Lib.hid ho; have HK3 := Lib.hid k2
          clear ho k2 pb
          go_wp2
          go_ret
          exact ⟨_, rfl, by rw [HBF.out]; exact HO.out.mono KW.out.size, KW.out.trans HK3.out⟩
end Go.Proofs.Ytbnpdghfbiacaaa
