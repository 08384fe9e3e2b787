/- sectors.Scan by contract. No condition beyond what each theorem states. -/
import Derived.Test.YthncnkkpfcbkfaaDoorSk
namespace Go.Proofs.YthncnkkpfcbkfaaDoor
open Go Go.RowKit

theorem partS_at {L : List (List UInt8)} {gen : Int} {at_ seq idx parts : Nat} {p : Pt} (hp : partS L gen at_ seq idx parts = some p) : at_ < L.length := by
  unfold partS at hp
  rcases Nat.lt_or_ge at_ L.length with h | h
  · exact h
  · rw [List.getElem?_eq_none h] at hp; cases hp
theorem oneS_some {L : List (List UInt8)} {gen : Int} {used seq n : Nat} {d : List UInt8} (h : oneS L gen used seq = some (d, n)) : 1 ≤ n ∧ used + n ≤ L.length := by
  unfold oneS at h
  cases h1 : partS L gen used seq 0 0 with
  | none => rw [h1] at h; cases h
  | some p =>
    rw [h1] at h
    simp only at h
    cases h2 : uptoS L gen used seq p.parts p.parts with
    | none => rw [h2] at h; cases h
    | some e =>
      rw [h2] at h
      injection h with h
      injection h with h3 h4
      subst h4
      have ok := partS_ok h1
      have hp1 : 0 < p.parts := by have := ok.2.2.2.2.1; omega
      refine ⟨hp1, ?_⟩
      obtain ⟨m, hm⟩ : ∃ m, p.parts = m + 1 := ⟨p.parts - 1, by omega⟩
      generalize p.parts = k at *
      subst hm
      unfold uptoS at h2
      cases h5 : partS L gen (used + m) seq m (if m = 0 then 0 else m + 1) with
      | none =>
        rw [h5] at h2
        cases h6 : uptoS L gen used seq (m + 1) m with
        | none => rw [h6] at h2; cases h2
        | some _ => rw [h6] at h2; cases h2
      | some q => have := partS_at h5; omega
/-- append(v, x) of one list of bytes, the old list's block told -/
theorem wpList_appR2 (w : World) {ops : Array Oper} {rest : List Oper} {o : Oper} {a : Act} {Q : Exit → Act → World → Prop} (hgd : o.guard = none) (s x : Operand)
    (ho : o.op = .call { callee := .builtin .append, args := #[s, x], argTypes := #[22, 22] })
    (base : Nat) (v : Value) (L : List (List UInt8)) (hs : a.eval s = v) (hown : Rows w base v L) (A : Option Addr) (c : Nat) (y : Value) (hy : y.oneCell' = true) (l : List UInt8) (hx : a.eval x = .slice A 1 c) (hc : Cs w A [y]) (hoy : OwnB w base y l)
    (hn : (L.length + 1) * 24 ≤ 140737488355328) (hbase : base ≤ w.heap.size)
    (h : ∀ A' c' w', Rows w' base (.slice A' (L.length + 1) c') (L ++ [l]) → Kp (fun k => v.ownBlock = some k) w w' → wpList Tryd.prog ops Q rest (a.put o.dst (.slice A' (L.length + 1) c')) w') : wpList Tryd.prog ops Q (o :: rest) a w := by
  obtain ⟨xs, ho1, hr⟩ := hown
  refine wpList_appV w hgd s x 22 ho base 26 _ 24 Tryd.underlying22 Tryd.infoBytes' rfl v L.length xs hs ho1 A 1 c [y] hx rfl hc (by intro u hu; rw [List.mem_singleton.1 hu]; exact hy) (by omega) (by omega) hbase ?_
  intro v' w' o1 k1 _
  obtain ⟨A', c', e, _⟩ := own_len o1
  subst e
  exact h _ _ w' (Rows.push ho1 rfl hr hoy o1 rfl k1) k1
theorem Rows.ne {w : World} {B g : Nat} {v : Value} {L : List (List UInt8)} {t : TypeId} {cs : List Value} (h : Rows w B v L) (hb : Bk w g t cs) (hne : 26 ≠ t) : v.ownBlock ≠ some g := by
  obtain ⟨xs, ho, _⟩ := h
  exact own_ne ho hb hne
def lenV : Value → Nat
  | .slice _ n _ => n
  | _ => 0
/-- what Scan's loop keeps -/
def ScanInv (w : World) (sc sp rp : Nat) (lv : Value) (L : List (List UInt8)) (gen : Int) (v : Value) (wr : World) : Prop :=
  ∃ (recs : List (List UInt8)) (used : Nat), recs.length ≤ used ∧ used ≤ L.length ∧ scanS L gen = scanF L gen (L.length + 1 - recs.length) used recs ∧ Rows wr w.heap.size v recs ∧ (∃ A c, v = .slice A recs.length c) ∧ Kp No w wr ∧ Bk wr sc 63 (snC lv gen (used : Int)) ∧ Bk wr sp 61 [.pointer (some ⟨sc, 0, none⟩)] ∧ Bk wr rp 3 [.int .i64 0]
/-- what Scan answers -/
def ScanR (w w' : World) (L : List (List UInt8)) (gen : Int) (e : Ending) : Prop := ∃ v, e = .returned (.tuple #[v, .int .i64 ((scanS L gen).2 : Int)]) ∧ Rows w' w.heap.size v (scanS L gen).1 ∧ Kp No w w'

set_option maxRecDepth 100000 in
set_option maxHeartbeats 2000000 in
theorem scan_any (lv : Value) (gen : Int) (L : List (List UInt8)) (w : World) (hl : CapR w lv L) (hL : (L.length + 1) * 24 ≤ 140737488355328) :
    Calls Tryd.prog 18 #[lv, .int .i64 gen] w fun e w' => ScanR w w' L gen e := by
  have hmf : ∀ (fn : Fn) (first cap : Array Value) (w : World), (Instr.makeFunc fn first cap).run Tryd.prog w = .ok (.func fn first cap) w := fun _ _ _ _ => rfl
  obtain ⟨A, c, e, hc, hcm, hx⟩ := hl.at_
  subst e
  have HL := Lib.hid hl; clear hx hl hc hcm
  go_enter_defers Tryd.func18, Tryd.ntmps18
  go_wp2
  have B0 : Bk (((w.alloc (.cells #[.int .i64 0] 3)).alloc (.cells #[.slice A L.length c, .int .i64 gen, .int .i64 0] 63)).alloc (.cells #[.pointer (some ⟨w.heap.size + 1, 0, none⟩)] 61)) w.heap.size 3 [.int .i64 0] := ((Bk.new w _ _).alloc _).alloc _
  have B1 : Bk (((w.alloc (.cells #[.int .i64 0] 3)).alloc (.cells #[.slice A L.length c, .int .i64 gen, .int .i64 0] 63)).alloc (.cells #[.pointer (some ⟨w.heap.size + 1, 0, none⟩)] 61)) (w.heap.size + 1) 63 (snC (.slice A L.length c) gen ((0 : Nat) : Int)) := (Bk.new' (by simp) rfl).alloc _
  have B2 : Bk (((w.alloc (.cells #[.int .i64 0] 3)).alloc (.cells #[.slice A L.length c, .int .i64 gen, .int .i64 0] 63)).alloc (.cells #[.pointer (some ⟨w.heap.size + 1, 0, none⟩)] 61)) (w.heap.size + 1 + 1) 61 [.pointer (some ⟨w.heap.size + 1, 0, none⟩)] := Bk.new' (by simp) rfl
  have K0 : Kp No w (((w.alloc (.cells #[.int .i64 0] 3)).alloc (.cells #[.slice A L.length c, .int .i64 gen, .int .i64 0] 63)).alloc (.cells #[.pointer (some ⟨w.heap.size + 1, 0, none⟩)] 61)) := (((Kp.refl _ _).alloc _).alloc _).alloc _
  generalize ((w.alloc (.cells #[.int .i64 0] 3)).alloc (.cells #[.slice A L.length c, .int .i64 gen, .int .i64 0] 63)).alloc (.cells #[.pointer (some ⟨w.heap.size + 1, 0, none⟩)] 61) = W0 at *
  have H0 := Lib.hid B0; have H1 := Lib.hid B1; have H2 := Lib.hid B2; have HK := Lib.hid K0; clear B0 B1 B2 K0
  go_loopw [4] (fun v wr => ScanInv w (w.heap.size + 1) (w.heap.size + 1 + 1) w.heap.size (.slice A L.length c) L gen v wr) (fun v _ => L.length + 1 - lenV v)
  case atStart => exact ⟨[], 0, Nat.le_refl _, Nat.zero_le _, rfl, Rows.nil _ _, ⟨_, _, rfl⟩, HK.out, H1.out, H2.out, H0.out⟩
  case round =>
    obtain ⟨recs, used, hr1, hr2, hsc, hrows, ⟨Av, cv, rfl⟩, hkp, hb1, hb2, hb3⟩ := hrel
    have y2 : wr.cell? ⟨w.heap.size + 1 + 1, 0, none⟩ = some (.pointer (some ⟨w.heap.size + 1, 0, none⟩)) := hb2.cell 0
    have hfu : ∃ f, L.length + 1 - recs.length = f + 1 := ⟨L.length - recs.length, by omega⟩
    have ra := record_any (w.heap.size + 1) (.slice A L.length c) gen used recs.length L wr hb1 (HL.out.no hkp) (by omega) (by omega)
    have HR := Lib.hid hrows; have HKP := Lib.hid hkp; have HB1 := Lib.hid hb1; have HB2 := Lib.hid hb2; have HB3 := Lib.hid hb3; have HSC := Lib.hid hsc; have HFU := Lib.hid hfu
    clear hrows hkp hb1 hb2 hb3 hsc hfu
    go_wp2_with fail
    refine ra.mono ?_
    clear ra
    intro e w1 hr
    cases ho : oneS L gen used recs.length with
    | none =>
      rw [ho] at hr
      obtain ⟨rfl, k1⟩ := hr
      have HO := Lib.hid ho; clear ho
      go_wp2
      have g1 := HB1.out.no k1
      have g2 := HB2.out.no k1
      have g3 := HB3.out.no k1
      obtain ⟨f, hf⟩ := HFU.out
      have hres : scanS L gen = (recs, used) := by
        rw [HSC.out, hf]
        show (match oneS L gen used recs.length with | none => (recs, used) | some (d, n) => scanF L gen f (used + n) (recs ++ [d])) = _
        rw [HO.out]
      have HRES := Lib.hid hres
      have hrow := (HR.out.no k1).kp ((Kp.refl No w1).alloc (.cells #[] 65)) (fun _ _ _ _ m => m)
      have g3' := g3.alloc (.cells #[] 65)
      have hk : Kp No w ((w1.alloc (.cells #[] 65)).setCell ⟨w.heap.size, 0, none⟩ (.int .i64 (used : Int))) := ((HKP.out.trans k1).alloc _).set (.inr (Nat.le_refl _)) _ _
      have hrow' : Rows ((w1.alloc (.cells #[] 65)).setCell ⟨w.heap.size, 0, none⟩ (.int .i64 (used : Int))) w.heap.size (.slice Av recs.length cv) recs := hrow.kp (M := One w.heap.size) ((Kp.refl _ _).set (.inl (One.self _)) _ _) (fun g cs _ h h1 => by
        have e : g = w.heap.size := h1
        subst e
        rcases h with h | h
        · exact Bk.ne_ h g3' (by decide) rfl
        · exact Bk.ne_ h g3' (by decide) rfl)
      have hcell : ((w1.alloc (.cells #[] 65)).setCell ⟨w.heap.size, 0, none⟩ (.int .i64 (used : Int))).cell? ⟨w.heap.size, 0, none⟩ = some (.int .i64 (used : Int)) := (g3'.set_ 0 (.int .i64 (used : Int))).cell 0
      have HROW := Lib.hid hrow'; have HKK := Lib.hid hk; clear hrow hrow' hk hres hf g3'
      refine leaves_cons (f := 30) (args := #[.pointer (some ⟨w.heap.size + 1 + 1, 0, none⟩), .pointer (some ⟨w.heap.size, 0, none⟩)]) (by simp) (by simp [go_sem]) ?_
      refine (catch_brk (w.heap.size + 1 + 1) w.heap.size (w.heap.size + 1) (.int .i64 0) (used : Int) [] w1 (g2.cell 0) (g1.cell 2) (g3.cell 0) (g3.frozen 0)).mono ?_
      rintro e u' w'' ⟨rfl, rfl, rfl⟩
      simp [Leaves, settle, results, Tryd.results18, go_sem, hcell]
      exact ⟨_, by rw [HRES.out], by rw [HRES.out]; exact HROW.out, HKK.out⟩
    | some dn =>
      obtain ⟨d, n⟩ := dn
      rw [ho] at hr
      obtain ⟨Ad, cd, rfl, od, b1, k1⟩ := hr
      have HO := Lib.hid ho; clear ho
      have ow : OwnB w1 w.heap.size (.slice Ad d.length cd) d := od.mono HKP.out.size
      have rw1 : Rows w1 w.heap.size (.slice Av recs.length cv) recs := HR.out.kp k1 (fun g cs _ h h1 => by
        have e : g = w.heap.size + 1 := h1
        subst e
        rcases h with h | h
        · exact Bk.ne_ h HB1.out (by decide) rfl
        · exact Bk.ne_ h HB1.out (by decide) rfl)
      have hbase : w.heap.size ≤ (w1.alloc (.cells #[.slice Ad d.length cd] 26)).heap.size := by have := HKP.out.size; have := k1.size; simp; omega
      have OW := Lib.hid ow; have RW := Lib.hid rw1; have K1 := Lib.hid k1; have B1 := Lib.hid b1; clear ow rw1 k1 b1 od
      go_wp2_with (at_builtin; refine wpList_appR2 _ rfl (.tmp 12) (.tmp 17) rfl w.heap.size _ recs rfl (RW.out.no ((Kp.refl No _).alloc _)) _ _ _ rfl d rfl (cs_new rfl rfl) (OW.out.alloc _) (by omega) hbase ?_)
      intro A' c' w2 r2 k2
      go_wp2
      go_roundw
      case rel =>
        have hos := oneS_some HO.out
        obtain ⟨f, hf⟩ := HFU.out
        have k1a : Kp (One (w.heap.size + 1)) wr (w1.alloc (.cells #[.slice Ad d.length cd] 26)) := K1.out.alloc _
        have g2 := (HB2.out.kp K1.out (fun e => by have : w.heap.size + 1 + 1 = w.heap.size + 1 := e; omega)).alloc (.cells #[.slice Ad d.length cd] 26)
        have g3 := (HB3.out.kp K1.out (fun e => by have : w.heap.size = w.heap.size + 1 := e; omega)).alloc (.cells #[.slice Ad d.length cd] 26)
        have g1 := B1.out.alloc (.cells #[.slice Ad d.length cd] 26)
        have ra := RW.out.no ((Kp.refl No w1).alloc (.cells #[.slice Ad d.length cd] 26))
        refine ⟨recs ++ [d], used + n, by simp; omega, by omega, ?_, r2, ⟨A', c', by simp⟩, ?_, g1.kp k2 (ra.ne g1 (by decide)), g2.kp k2 (ra.ne g2 (by decide)), g3.kp k2 (ra.ne g3 (by decide))⟩
        · rw [HSC.out, hf]
          have e : L.length + 1 - (recs ++ [d]).length = f := by simp; omega
          rw [e]
          show (match oneS L gen used recs.length with | none => (recs, used) | some (d, n) => scanF L gen f (used + n) (recs ++ [d])) = _
          rw [HO.out]
        · obtain ⟨xs, ho, _⟩ := ra
          exact kp_own ho ((HKP.out.then_ k1a (fun i hi h => by have : i = w.heap.size + 1 := h; omega))) k2
      case measure => simp [lenV]; omega
end Go.Proofs.YthncnkkpfcbkfaaDoor
