/- The scanner's record by contract. No condition beyond what each theorem states. -/
import Derived.Test.YthncnkkpfcbkfaaDoorSn
import Derived.Deep.RegionLaw
import Derived.Deep.RegionHeld3
namespace Go.Proofs.YthncnkkpfcbkfaaDoor
open Go Go.RowKit

/-- what record answers -/
def RecR (w w' : World) (sc : Nat) (lv : Value) (gen : Int) (used : Nat) (r : Option (List UInt8 × Nat)) (e : Ending) : Prop := match r with
  | none => e = .panicked brk ∧ Kp No w w'
  | some (d, n) => ∃ A c, e = .returned (.slice A d.length c) ∧ OwnB w' w.heap.size (.slice A d.length c) d ∧ Bk w' sc 63 (snC lv gen ((used + n : Nat) : Int)) ∧ Kp (One sc) w w'

/-- a panic inside a region, handed to go_region_law as a region at its end -/
theorem wp_out {P : Program} {X : Prop} (a : Act) (w : World) (h : wpAny P .any #[] (fun _ _ _ => X) 0 #[] a w) : X := h.2
theorem Tryd.fieldPart (a b c d : Value) (e : Value) (W : World) : Sem.run Tryd.prog (Instr.field 33 (.agg #[a, b, c, d, e]) 4) W = .ok e W := by rfl
theorem partS_ok {L : List (List UInt8)} {gen : Int} {at_ seq idx parts : Nat} {p : Pt} (hp : partS L gen at_ seq idx parts = some p) : okPt p := by
  unfold partS at hp
  cases h1 : L[at_]? with
  | none => rw [h1] at hp; cases hp
  | some b =>
    rw [h1] at hp
    simp only at hp
    cases h2 : lookS b with
    | none => rw [h2] at hp; cases hp
    | some q =>
      rw [h2] at hp
      simp only at hp
      split at hp
      · injection hp with hp; subst hp; exact (lookS_some h2).1
      · cases hp
theorem uptoS_succ (L : List (List UInt8)) (gen : Int) (used seq parts k : Nat) (hk : 0 < k) : uptoS L gen used seq parts (k + 1) = match uptoS L gen used seq parts k, partS L gen (used + k) seq k parts with
    | some d, some p => some (d ++ p.data)
    | _, _ => none := by
  show (match uptoS L gen used seq parts k, partS L gen (used + k) seq k (if k = 0 then 0 else parts) with | some d, some p => some (d ++ p.data) | _, _ => none) = _
  rw [if_neg (by omega)]
theorem uptoS_len {L : List (List UInt8)} {gen : Int} {used seq parts : Nat} : ∀ (k : Nat) (d : List UInt8), uptoS L gen used seq parts k = some d → d.length ≤ 47 * k
  | 0, d, h => by injection h with h; subst h; simp
  | k + 1, d, h => by
    unfold uptoS at h
    cases h1 : uptoS L gen used seq parts k with
    | none => rw [h1] at h; cases h
    | some e =>
      cases h2 : partS L gen (used + k) seq k (if k = 0 then 0 else parts) with
      | none => rw [h1, h2] at h; cases h
      | some q =>
        rw [h1, h2] at h
        injection h with h
        subst h
        have := uptoS_len k e h1
        have := (partS_ok h2).2.2.2.2.2.1
        rw [List.length_append]
        omega
theorem uptoS_none {L : List (List UInt8)} {gen : Int} {used seq parts k : Nat} (h : uptoS L gen used seq parts k = none) : ∀ m, k ≤ m → uptoS L gen used seq parts m = none := by
  intro m hm
  induction m with
  | zero => obtain rfl : k = 0 := by omega
            exact h
  | succ m ih =>
    by_cases e : k = m + 1
    · subst e; exact h
    · show (match uptoS L gen used seq parts m, partS L gen (used + m) seq m (if m = 0 then 0 else parts) with | some d, some p => some (d ++ p.data) | _, _ => none) = _
      rw [ih (by omega)]

/-- what the loop of record keeps -/
def RecInv (w : World) (q : Nat) (cs : List Value) (L : List (List UInt8)) (gen : Int) (used seq parts : Nat) (v i : Value) (wr : World) : Prop :=
  ∃ (k : Nat) (A : Option Addr) (d : List UInt8) (c : Nat), 1 ≤ k ∧ k ≤ parts ∧ i = .int .i64 k ∧ v = .slice A d.length c ∧ OwnB wr w.heap.size (.slice A d.length c) d ∧ uptoS L gen used seq parts k = some d ∧ Kp No w wr ∧ Bk wr q 33 cs

set_option maxRecDepth 100000 in
set_option maxHeartbeats 4000000 in
theorem record_any (sc : Nat) (lv : Value) (gen : Int) (used seq : Nat) (L : List (List UInt8)) (w : World) (hs : Bk w sc 63 (snC lv gen used)) (hl : CapR w lv L) (hu : used ≤ 140737488355328) (_hsq : seq ≤ 140737488355328) :
    Calls Tryd.prog 31 #[.pointer (some ⟨sc, 0, none⟩), .int .i64 (seq : Int)] w fun e w' => RecR w w' sc lv gen used (oneS L gen used seq) e := by
  have z2 : w.cell? ⟨sc, 2, none⟩ = some (.int .i64 (used : Int)) := hs.cell 2
  have hsl := hs.lt
  have HS := Lib.hid hs; have HL := Lib.hid hl; clear hs hl
  have HO := Lib.hid (show oneS L gen used seq = match partS L gen used seq 0 0 with | none => none | some p => match uptoS L gen used seq p.parts p.parts with | none => none | some d => some (d, p.parts) from rfl)
  go_enter Tryd.func31, Tryd.ntmps31
  go_wp2_with fail
  refine (part_any sc lv gen used L used seq 0 0 _ HS.out HL.out).mono ?_
  rintro e w1 ⟨k1, hr⟩
  cases hp : partS L gen used seq 0 0 with
  | none =>
    rw [hp] at hr HO
    simp only at hr HO
    subst hr
    go_wp2
    refine ⟨rfl, ?_⟩
    rw [HO.out]
    exact ⟨rfl, k1⟩
  | some p =>
    rw [hp] at hr HO
    simp only at hr HO
    obtain ⟨A0, c0, hr, ho⟩ := hr
    rw [show ptV p (.slice A0 p.data.length c0) = .agg #[.int .i64 (p.gen : Int), .int .i64 (p.seq : Int), .int .i64 (p.idx : Int), .int .i64 (p.parts : Int), .slice A0 p.data.length c0] from rfl] at hr
    subst hr
    have okp : okPt p := partS_ok hp
    have hp4 : p.parts ≤ 4 := okp.2.2.2.1
    have hp1 : 0 < p.parts := by have := okp.2.2.2.2.1; omega
    have hu1 : uptoS L gen used seq p.parts 1 = some p.data := by
      show (match uptoS L gen used seq p.parts 0, partS L gen (used + 0) seq 0 (if 0 = 0 then 0 else p.parts) with | some d, some q => some (d ++ q.data) | _, _ => none) = _
      rw [if_pos rfl, Nat.add_zero, hp]
      rfl
    have HP := Lib.hid hp; have HU1 := Lib.hid hu1; have HOK := Lib.hid okp
    clear hp hu1 okp
    have KW : Kp No w (w1.alloc (.cells #[.int .i64 (p.gen : Int), .int .i64 (p.seq : Int), .int .i64 (p.idx : Int), .int .i64 (p.parts : Int), .slice A0 p.data.length c0] 33)) := k1.alloc _
    have BF : Bk (w1.alloc (.cells #[.int .i64 (p.gen : Int), .int .i64 (p.seq : Int), .int .i64 (p.idx : Int), .int .i64 (p.parts : Int), .slice A0 p.data.length c0] 33)) w1.heap.size 33 (ptC p.gen p.seq p.idx p.parts (.slice A0 p.data.length c0)) := Bk.new w1 _ _
    have HOW := Lib.hid (ho.alloc (.cells #[.int .i64 (p.gen : Int), .int .i64 (p.seq : Int), .int .i64 (p.idx : Int), .int .i64 (p.parts : Int), .slice A0 p.data.length c0] 33))
    have HKW := Lib.hid KW; have HBF := Lib.hid BF; have HK1 := Lib.hid k1; clear KW BF ho k1
    go_wp2
    have hwl : w.heap.size ≤ w1.heap.size := HK1.out.size
    go_loopw [6, 7] (fun v i wr => RecInv w w1.heap.size (ptC p.gen p.seq p.idx p.parts (.slice A0 p.data.length c0)) L gen used seq p.parts v i wr) (fun _ i _ => p.parts - (intOf i).toNat)
    case atStart => exact ⟨1, A0, p.data, c0, Nat.le_refl _, hp1, rfl, rfl, HOW.out, HU1.out, HKW.out, HBF.out⟩
    case round =>
      obtain ⟨k, A, d, c, hk1, hk2, rfl, rfl, hod, hud, hkd, hbp⟩ := hrel
      have hdl : d.length ≤ 188 := by have := uptoS_len k d hud; omega
      have y3 : wr.cell? ⟨w1.heap.size, 3, none⟩ = some (.int .i64 (p.parts : Int)) := hbp.cell 3
      have x2 : wr.cell? ⟨sc, 2, none⟩ = some (.int .i64 (used : Int)) := cell_no z2 hkd
      have hsr : sc < wr.heap.size := by have := hkd.size; omega
      have hbr : w1.heap.size < wr.heap.size := hbp.lt
      have HOD := Lib.hid hod; have HUD := Lib.hid hud; have HKD := Lib.hid hkd; have HBP := Lib.hid hbp
      have hcap := HL.out.no hkd
      have hsca := HS.out.no hkd
      clear hod hud hkd hbp z2
      have hk0 : (0 : Int) ≤ (k : Int) := by omega
      by_cases hlt : k < p.parts
      · have hk3 : (k : Int) < (p.parts : Int) := by omega
        have hwu : IntKind.i64.wrap ((used : Int) + (k : Int)) = (used : Int) + (k : Int) := IntWalk.i64_in _ (by omega)
        have hus := uptoS_succ L gen used seq p.parts k (by omega)
        rw [HUD.out] at hus
        cases hpk : partS L gen (used + k) seq k p.parts with
        | none =>
          rw [hpk] at hus
          simp only at hus
          have qn : ∀ W, Kp No wr W → Calls Tryd.prog 45 #[.pointer (some ⟨sc, 0, none⟩), .int .i64 ((used : Int) + (k : Int)), .int .i64 (seq : Int), .int .i64 (k : Int), .int .i64 (p.parts : Int)] W fun e w' => e = .panicked brk ∧ Kp No W w' := fun W kk => by
            refine (part_any sc lv gen used L (used + k) seq k p.parts W (hsca.no kk) (hcap.no kk)).mono ?_
            rintro e w' ⟨k2, hr⟩
            rw [hpk] at hr
            exact ⟨hr, k2⟩
          have HUS := Lib.hid (uptoS_none hus p.parts (by omega)); clear hus hpk hcap hsca
          go_upto_region 6 with (fail)
          go_region_law ((go_simp; go_at_call 45; (with_reducible refine (qn _ (by with_reducible repeat (first | assumption | exact Kp.refl _ _ | refine Kp.drew ?_ | refine Kp.drewN ?_ _ | refine Kp.alloc ?_ _ | refine Kp.trans ?_ (by assumption)))).mono ?_); rintro e w2 ⟨rfl, k2⟩; refine wp_out (P := Tryd.prog) { tmps := #[], defers := [] } w2 ?_))
          all_goals
            refine ⟨rfl, ?_⟩
            rw [HO.out, HUS.out]
            exact ⟨rfl, HKD.out.trans ((Kp.refl _ _).drew.trans k2)⟩
        | some q =>
          rw [hpk] at hus
          simp only at hus
          have hq47 : q.data.length ≤ 47 := (partS_ok hpk).2.2.2.2.2.1
          have hbase : w.heap.size ≤ wr.heap.size := by omega
          have qn : ∀ W, Kp No wr W → Calls Tryd.prog 45 #[.pointer (some ⟨sc, 0, none⟩), .int .i64 ((used : Int) + (k : Int)), .int .i64 (seq : Int), .int .i64 (k : Int), .int .i64 (p.parts : Int)] W fun e w' => ∃ Aq cq, e = .returned (.agg #[.int .i64 (q.gen : Int), .int .i64 (q.seq : Int), .int .i64 (q.idx : Int), .int .i64 (q.parts : Int), .slice Aq q.data.length cq]) ∧ Kp No wr w' ∧ w.heap.size ≤ w'.heap.size ∧ Cs w' Aq (u8s q.data) := fun W kk => by
            refine (part_any sc lv gen used L (used + k) seq k p.parts W (hsca.no kk) (hcap.no kk)).mono ?_
            rintro e w' ⟨k2, hr⟩
            rw [hpk] at hr
            obtain ⟨Aq, cq, hr, ho⟩ := hr
            have := (kk.trans k2).size
            exact ⟨Aq, cq, hr, kk.trans k2, by omega, (own_argB ho).cs.1⟩
          have HUS := Lib.hid hus; clear hus hpk hcap hsca
          have hfd := Tryd.fieldPart
          go_upto_region 6 with (fail)
          go_region_law ((first | (refine step_appB _ rfl (.tmp 23) (.tmp 36) rfl w.heap.size (.slice A d.length c) d rfl (HOD.out.no (by assumption)) _ q.data.length _ q.data rfl rfl (by assumption) (by omega) (by assumption) ?_; intro A' n' c' w3 o3 k3 k3') | (go_simp; go_at_call 45; (with_reducible refine (qn _ (by with_reducible repeat (first | assumption | exact Kp.refl _ _ | refine Kp.drew ?_ | refine Kp.drewN ?_ _ | refine Kp.alloc ?_ _ | refine Kp.trans ?_ (by assumption)))).mono ?_); rintro e w2 ⟨Aq, cq, rfl, k2, hb2, hcq⟩)))
          all_goals
            go_wp2
            go_roundw
            case rel =>
              have ew : (d ++ q.data).length = n' := by
                obtain ⟨_, h, _⟩ := (own_argB o3).cs
                exact h.symm
              subst ew
              have hw3 : Kp No w w3 := k3 w (Nat.le_refl _) (HKD.out.trans k2)
              refine ⟨k + 1, A', d ++ q.data, c', by omega, by omega, by go_num, rfl, o3, HUS.out, hw3, ?_⟩
              exact (HBP.out.no k2).kp k3' (own_ne (HOD.out.no k2) (HBP.out.no k2) (by decide))
            case measure => simp [intOf]; omega
      · obtain rfl : k = p.parts := by omega
        have zf := hsca.frozen
        have hwu : IntKind.i64.wrap ((used : Int) + (p.parts : Int)) = (used : Int) + (p.parts : Int) := IntWalk.i64_in _ (by omega)
        have HSC := Lib.hid hsca; clear hsca hcap
        go_upto_region 7 with (fail)
        go_region
        go_wp2
        go_ret
        rw [HO.out, HUD.out]
        have ko : Kp (One sc) wr ((wr.setCell ⟨sc, 2, none⟩ (.int .i64 ((used : Int) + (p.parts : Int)))).drew) := ((Kp.refl _ _).set (.inl (One.self _)) _ _).drew
        refine ⟨A, c, rfl, HOD.out.kp ko (fun g hg h1 => own_ne HOD.out HSC.out (by decide) (by rw [hg, show g = sc from h1])), ?_, (Kp.of_no HKD.out).trans ko⟩
        have := (HSC.out.set_ 2 (.int .i64 ((used : Int) + (p.parts : Int)))).drew
        rw [Int.natCast_add]
        exact this
end Go.Proofs.YthncnkkpfcbkfaaDoor
