/- Several texts of this claim in one. No condition beyond what each theorem states. -/
import Derived.Test.YtlgbmkdeamgpkaaGreatDoorH09
import Derived.Test.YtlgbmkdeamgpkaaGreatDoorG10
import Derived.Test.YtlgbmkdeamgpkaaGreatDoorH06
/- The gate and the document's gate, side by side. No condition beyond what each theorem states. -/
namespace Go.Proofs.YtlgbmkdeamgpkaaGreatDoor
open Go Go.RowKit Go.PlainAid

theorem RowsOf.low {w : World} {B B' : Nat} {v : Value} {L : List (List UInt8)} {t : TypeId} (h : RowsOf w B v L t) (hb : B' ≤ B) : RowsOf w B' v L t := by
  obtain ⟨xs, hown, hrows⟩ := h
  refine ⟨xs, own_low hown hb, fun i hi => ?_⟩
  obtain ⟨x, hx, g, c, sp, e, hc, hg, ha, hbk⟩ := hrows i hi
  exact ⟨x, hx, g, c, sp, e, hc, Nat.le_trans hb hg, ha, hbk⟩
theorem RdG.low {w : World} {B B' rb : Nat} {v : Value} {d : Dsk} (h : RdG w B rb v d) (hb : B' ≤ B) : RdG w B' rb v d := ⟨⟨h.1.st, h.1.ro.low hb, Nat.le_trans hb h.1.lo⟩, h.2⟩
theorem RdG.blk {w : World} {B rb : Nat} {v : Value} {d : Dsk} (h : RdG w B rb v d) (hl : 0 < d.L.length) : ∃ gv cs, v.ownBlock = some gv ∧ Bk w gv 69 cs ∧ B ≤ gv := by
  obtain ⟨gv, cap, _, hob, _⟩ := rows_at h.1.ro hl
  obtain ⟨xs, hvo, _⟩ := h.1.ro
  obtain ⟨hB, cs, hcs⟩ := own_bkD hvo hob
  exact ⟨gv, cs, hob, hcs, hB⟩
theorem rhandle_any (B gb rb : Nat) (v : Value) (n : Int) (g : Gat) (d : Dsk) (P : Nat → Prop) (m : Msg) (A : Option Addr) (c : Nat) (W : World) (hG : RgB W P gb rb n g) (hD : RdG W B rb v d) (hI : GInv g d) (hs : ArgInts W (.slice A m.stamp.length c) m.stamp) (hsl1 : m.stamp.length ≤ maxLen) (hpl1 : m.path.length ≤ 140737488355328) (hw : d.wr < 4611686018427387904) (hBW : B ≤ W.heap.size) :
    Calls Tryz.prog 31 #[.pointer (some ⟨gb, 0, none⟩), .agg (mcells m (.slice A m.stamp.length c)).toArray] W (RHandR W B gb rb v n P g d m) := by
  by_cases hn : m.kind = 5 ∧ m.dest = n ∧ mayS vpP m
  · exact rhandle_op B gb rb v n g d P m A c W hG hD hI hs hsl1 hpl1 hn hw hBW
  · refine (rhandle_kind gb rb n g P m A c W hG hs hsl1 hpl1 hn).mono ?_
    rintro e w' ⟨rfl, hk⟩
    have HE : handleG n g d m = (g, d, 22) := by unfold handleG; rw [if_pos hn]
    exact ⟨by rw [HE], by rw [HE]; exact (hG.no hk).mono fun q h => .inl h, by rw [HE]; exact hD.no hk, hk.of_no⟩
/-- the program's gate and disk, and the document's -/
structure PS (w : World) (B gb db sb cp rg rb : Nat) (v : Value) (n : Int) (g : Gat) (d : Dsk) : Prop where
  gs : GS w B gb db sb cp n g d
  rgb : RgB w (fun q => B ≤ q) rg rb n g
  rd : RdG w B rb v d
  c1 : B ≤ rg
theorem PS.no {w w' : World} {B gb db sb cp rg rb : Nat} {v : Value} {n : Int} {g : Gat} {d : Dsk} (h : PS w B gb db sb cp rg rb v n g d) (hk : Kp No w w') : PS w' B gb db sb cp rg rb v n g d := ⟨h.gs.no hk, h.rgb.no hk, h.rd.no hk, h.c1⟩
/-- what the program writes leaves the document's -/
theorem PS.gm {w w' : World} {B gb db sb cp rg rb : Nat} {v : Value} {n : Int} {g : Gat} {d : Dsk} (h : PS w B gb db sb cp rg rb v n g d) (hk : Kp (GM gb db sb) w w') : RgB w' (fun q => B ≤ q) rg rb n g ∧ RdG w' B rb v d := by
  obtain ⟨gcs, hgb⟩ := h.gs.gt.bk
  obtain ⟨sp, hse⟩ := h.gs.dk.1.se
  have ne : ∀ {q : Nat} {t : TypeId} {cs : List Value}, Bk w q t cs → t ≠ 78 → t ≠ 76 → t ≠ 91 → ¬ GM gb db sb q := fun hq h1 h2 h3 e => by
    rcases e with e | e | e
    · exact hq.ne_ hgb h1 e
    · exact hq.ne_ h.gs.dk.1.st h2 e
    · exact hq.ne_ hse h3 e
  obtain ⟨rcs, hrg⟩ := h.rgb.bk
  exact ⟨h.rgb.kp hk (ne hrg (by decide) (by decide) (by decide)) fun q cs hq _ => ne hq (by decide) (by decide) (by decide), h.rd.kp hk fun q cs _ hq => by
    rcases hq with hq | hq | hq <;> exact ne hq (by decide) (by decide) (by decide)⟩
/-- what the document writes leaves the program's -/
theorem PS.rm {w w' : World} {B gb db sb cp rg rb : Nat} {v : Value} {n : Int} {g g' : Gat} {d d' : Dsk} (hgs : GS w B gb db sb cp n g' d') (hr : RgB w (fun q => B ≤ q) rg rb n g) (hd : RdG w B rb v d) (hl : 0 < d.L.length) (hk : Kp (RMd rg rb v) w w') : GS w' B gb db sb cp n g' d' := by
  obtain ⟨rcs, hrg⟩ := hr.bk
  obtain ⟨gv, cs, hob, hgv, _⟩ := hd.blk hl
  refine hgs.kp hk fun q _ hq e => ?_
  obtain ⟨t, cs2, hq, ht⟩ := hq
  have key : ∀ {u : TypeId} {b : Nat} {us : List Value}, Bk w b u us → q = b → u ≠ 78 → u ≠ 76 → u ≠ 91 → u ≠ 3 → False := fun hb e h1 h2 h3 h4 => by
    rcases ht with rfl | rfl | rfl | rfl
    · exact hq.ne_ hb (Ne.symm h1) e
    · exact hq.ne_ hb (Ne.symm h2) e
    · exact hq.ne_ hb (Ne.symm h3) e
    · exact hq.ne_ hb (Ne.symm h4) e
  rcases e with e | e | e
  · exact key hrg e (by decide) (by decide) (by decide) (by decide)
  · exact key hd.1.st e (by decide) (by decide) (by decide) (by decide)
  · rw [hob] at e
    injection e with e
    exact key hgv e.symm (by decide) (by decide) (by decide) (by decide)
theorem RMd.opb {w : World} {B rg rb : Nat} {v : Value} {n : Int} {g : Gat} {d : Dsk} {P : Nat → Prop} (hr : RgB w P rg rb n g) (hd : RdG w B rb v d) (hl : 0 < d.L.length) {q : Nat} {cs : List Value} (hb : Bk w q 40 cs) : ¬ RMd rg rb v q := by
  obtain ⟨rcs, hrg⟩ := hr.bk
  obtain ⟨gv, cs2, hob, hgv, _⟩ := hd.blk hl
  rintro (e | e | e)
  · exact hb.ne_ hrg (by decide) e
  · exact hb.ne_ hd.1.st (by decide) e
  · rw [hob] at e
    injection e with e
    exact hb.ne_ hgv (by decide) e.symm
theorem RMd.old {W w w' : World} {B rg rb : Nat} {v : Value} {d : Dsk} (hr : B ≤ rg) (hd : RdG w B rb v d) (hl : 0 < d.L.length) (hB : W.heap.size ≤ B) (hk : Kp No W w) (k : Kp (RMd rg rb v) w w') : Kp No W w' := by
  obtain ⟨gv, cs, hob, _, hgB⟩ := hd.blk hl
  refine hk.then_ k fun i hi e => ?_
  have h2 := hd.1.lo
  rcases e with e | e | e
  · omega
  · omega
  · rw [hob] at e
    injection e with e
    omega
theorem GS.opb {w : World} {B gb db sb cap : Nat} {n : Int} {g : Gat} {d : Dsk} (h : GS w B gb db sb cap n g d) {q : Nat} {cs : List Value} (hb : Bk w q 40 cs) : ¬ GM gb db sb q := by
  obtain ⟨gcs, hgb⟩ := h.gt.bk
  obtain ⟨sp, hse⟩ := h.dk.1.se
  rintro (m | m | m)
  · exact hb.ne_ hgb (by decide) m
  · exact hb.ne_ h.dk.1.st (by decide) m
  · exact hb.ne_ hse (by decide) m
theorem rnew_two (W : World) : Calls Tryz.prog 27 #[.int .i64 2] W fun e w' => ∃ rb v, e = .returned (.tuple #[.pointer (some ⟨rb, 0, none⟩), .int .i64 0]) ∧ RdG w' W.heap.size rb v dsk0 ∧ Kp No W w' := by
  refine (rnew_yes 2 (by omega) (by omega) W).mono ?_
  rintro e w' ⟨rb, v, rfl, hb, hr, hlo, hk⟩
  refine ⟨rb, v, rfl, ⟨⟨?_, hr, hlo⟩, (fun e => by cases e), Int.le_refl 0⟩, hk⟩
  exact hb
theorem rarm_ps (B rb : Nat) (v : Value) (d : Dsk) (k : Int) (W : World) (h : RdG W B rb v d) (hk : k ≤ 9223372036854775807) : Calls Tryz.prog 29 #[.pointer (some ⟨rb, 0, none⟩), .int .i64 k] W fun e w' => e = .returned (.tuple #[]) ∧ RdG w' B rb v { d with ar := decide (0 ≤ k), lf := k } ∧ Kp (One rb) W w' := by
  refine (rarm_any rb k W v d.wr (arS d) d.off h.1.st).mono ?_
  rintro e w' ⟨rfl, hb, kk⟩
  refine ⟨rfl, ⟨⟨?_, h.1.ro.kp kk fun q cs _ hq e => by rcases hq with hq | hq <;> exact hq.ne_ h.1.st (by decide) e, h.1.lo⟩, ?_, h.2.2⟩, kk⟩
  · have e : arS { d with ar := decide (0 ≤ k), lf := k } = max k (-1) := by
      unfold arS
      by_cases h0 : 0 ≤ k
      · rw [if_pos (by show decide (0 ≤ k) = true; exact decide_eq_true h0)]; show k = _; omega
      · rw [if_neg (by show ¬ decide (0 ≤ k) = true; rw [decide_eq_true_iff]; exact h0)]; omega
    rw [e]; exact hb
  · intro e
    have e : decide (0 ≤ k) = true := e
    rw [decide_eq_true_iff] at e
    exact ⟨e, by show k < _; omega⟩
theorem ron_ps (B rb : Nat) (v : Value) (d : Dsk) (W : World) (h : RdG W B rb v d) : Calls Tryz.prog 30 #[.pointer (some ⟨rb, 0, none⟩)] W fun e w' => e = .returned (.tuple #[]) ∧ RdG w' B rb v { d with off := false } ∧ Kp (One rb) W w' := by
  refine (ron_any rb W v d.wr (arS d) d.off h.1.st).mono ?_
  rintro e w' ⟨rfl, hb, kk⟩
  exact ⟨rfl, ⟨⟨hb, h.1.ro.kp kk fun q cs _ hq e => by rcases hq with hq | hq <;> exact hq.ne_ h.1.st (by decide) e, h.1.lo⟩, h.2.1, h.2.2⟩, kk⟩
theorem RgB.one {w w' : World} {P : Nat → Prop} {rg rb b : Nat} {n : Int} {g : Gat} {t : TypeId} {cs : List Value} (h : RgB w P rg rb n g) (hb : Bk w b t cs) (h1 : t ≠ 62) (h2 : t ≠ 3) (k : Kp (One b) w w') : RgB w' P rg rb n g := by
  obtain ⟨rcs, hrg⟩ := h.bk
  exact h.kp k (fun e => hrg.ne_ hb (Ne.symm h1) e) fun q cs hq _ e => hq.ne_ hb (Ne.symm h2) e
theorem GS.one {w w' : World} {B gb db sb cap b : Nat} {n : Int} {g : Gat} {d : Dsk} {t : TypeId} {cs : List Value} (h : GS w B gb db sb cap n g d) (hb : Bk w b t cs) (h1 : t ≠ 78) (h2 : t ≠ 76) (h3 : t ≠ 91) (h4 : t ≠ 3) (k : Kp (One b) w w') : GS w' B gb db sb cap n g d := by
  refine h.kp k fun q _ hq e => ?_
  obtain ⟨u, us, hq, hu⟩ := hq
  have e : q = b := e
  rcases hu with rfl | rfl | rfl | rfl
  · exact hq.ne_ hb (Ne.symm h1) e
  · exact hq.ne_ hb (Ne.symm h2) e
  · exact hq.ne_ hb (Ne.symm h3) e
  · exact hq.ne_ hb (Ne.symm h4) e
theorem RdG.one {w w' : World} {B rb b : Nat} {v : Value} {d : Dsk} {t : TypeId} {cs : List Value} (h : RdG w B rb v d) (hb : Bk w b t cs) (h1 : t ≠ 69) (h2 : t ≠ 5) (h3 : t ≠ 65) (k : Kp (One b) w w') : RdG w' B rb v d :=
  h.kp k fun q cs _ hq e => by
    rcases hq with hq | hq | hq
    · exact hq.ne_ hb (Ne.symm h1) e
    · exact hq.ne_ hb (Ne.symm h2) e
    · exact hq.ne_ hb (Ne.symm h3) e
/-- a gate of the document's that begins anew finds what the old one knew -/
theorem rstart_ps (B _rg0 rb : Nat) (v : Value) (n : Int) (g : Gat) (d : Dsk) (W : World) (h : RdG W B rb v d) (hi : GInv g d) (h1 : 8 ≤ n) (h2 : n < 12) (ho : d.off = false) (hB : B ≤ W.heap.size) :
    Calls Tryz.prog 28 #[.int .i64 n, .pointer (some ⟨rb, 0, none⟩)] W fun e w' => ∃ rg, e = .returned (.tuple #[.pointer (some ⟨rg, 0, none⟩), .int .i64 0]) ∧ B ≤ rg ∧ RgB w' (fun q => B ≤ q) rg rb n ⟨g.high, g.seq, false⟩ ∧ Kp No W w' := by
  have hD := h.1
  rw [ho] at hD
  refine (rstart_any n rb B d.L v d.wr (arS d) W hD h1 h2 hi.two hi.len).mono ?_
  rintro e w' ⟨rg, rfl, hg, hb, hk⟩
  rw [hi.at_] at hb
  exact ⟨rg, rfl, Nat.le_trans hB hg, hb.mono fun q hq => Nat.le_trans hB hq, hk⟩
end Go.Proofs.YtlgbmkdeamgpkaaGreatDoor

/- The document's disk by contract: From. No condition beyond what each theorem states. -/
namespace Go.Proofs.YtlgbmkdeamgpkaaGreatDoor
open Go.RowKit

set_option maxRecDepth 100000 in
set_option maxHeartbeats 4000000 in
theorem rfrom_no (A : Option Addr) (n c : Nat) (h : n < 1 ∨ 512 < n) (w : World) :
    Calls Tryz.prog 35 #[.slice A n c] w fun e w' => e = .returned (.tuple #[.pointer Option.none, .int .i64 2]) ∧ w = w' := by
  go_enter Tryz.func35, Tryz.ntmps35
  by_cases h1 : n < 1
  · have h2 : (n : Int) < 1 := by omega
    clear h
    go_wp2
    go_ret2
    exact ⟨rfl, rfl⟩
  · have h2 : (1 : Int) ≤ n := by omega
    have h3 : (512 : Int) < n := by omega
    clear h
    go_wp2
    go_ret2
    exact ⟨rfl, rfl⟩

set_option maxRecDepth 100000 in
set_option maxHeartbeats 4000000 in
theorem rfrom_any (v : Value) (L : List (List UInt8)) (w : World) (hv : ArgRows w v L) (h1 : 1 ≤ L.length) (h2 : L.length ≤ 512) :
    Calls Tryz.prog 35 #[v] w fun e w' => Kp No w w' ∧ (¬ Good L → e = .returned (.tuple #[.pointer Option.none, .int .i64 2])) ∧
      (Good L → ∃ b u, e = .returned (.tuple #[.pointer (some ⟨b, 0, none⟩), .int .i64 0]) ∧ RD w' w.heap.size b u L 0 (-1) false) := by
  obtain ⟨A, c, rfl, hx⟩ := hv.at_
  have HX := Lib.hid hx; clear hx hv
  have hL1 : (1 : Int) ≤ L.length := by omega
  have hL2 : (L.length : Int) ≤ 512 := by omega
  go_enter Tryz.func35, Tryz.ntmps35
  go_wp2
  go_loopw [5] (fun i wr => ∃ k : Nat, k ≤ L.length ∧ i = .int .i64 k ∧ Kp No w wr ∧ Good (L.take k) ∧ ∃ v, Bk wr w.heap.size 65 (rdCells v 0 (-1) false) ∧ RowsOf wr w.heap.size v (L.take k) 5) (fun i _ => L.length - (intOf i).toNat)
  case atStart => exact ⟨0, Nat.zero_le _, rfl, (Kp.refl _ _).alloc _, by intro l hl; simp at hl, _, Bk.new' rfl rfl, RowsOf.nil _ _ _⟩
  case round =>
    obtain ⟨k, hk, rfl, hkp, hle, v, hb, ⟨vs, hown, hrows⟩⟩ := hrel
    by_cases hlt : k < L.length
    · obtain ⟨g, o, B, d, rfl, hcx, hcs⟩ := HX.out k hlt
      have hc1 : wr.cell? ⟨g, o + k, none⟩ = some (.slice B L[k].length d) := by
        rw [World.cell?_of_block (w := w) (hkp.block g (World.block_lt_of_cell? w _ hcx) (fun m => m))]; exact hcx
      have hcs1 := hcs.no hkp
      clear hcs hcx
      have hk0 : (0 : Int) ≤ (k : Int) := by omega
      have hk1 : (k : Int) < (L.length : Int) := by omega
      have hlen : (L.take k).length = k := by simp; omega
      generalize hl : L[k] = l at *
      have HLk := Lib.hid hl; clear hl
      by_cases h64 : l.length = 64
      · have hne64 : ((l.length : Int) != 64) = false := by simp; omega
        have hne := own_ne hown hb (by decide)
        have hbase : w.heap.size ≤ wr.heap.size := hkp.size
        have hown0 := hown
        rw [hlen] at hown
        have h0 : wr.cell? ⟨w.heap.size, 0, none⟩ = some v := hb.cell 0
        have hf := hb.frozen 0
        have hcop : ∀ W, Kp No wr W → _ := fun W hW => copied_any B d (u8s l) W (by rw [u8s_length, h64]; omega) (u8s_val l) (hcs1.no hW)
        rw [u8s_length, h64] at hcop
        rw [h64] at hc1 hne64
        have HC := Lib.hid hcop; clear hcop hcs1
        have HR := Lib.hid hrows; clear hrows
        have HO := Lib.hid hown0; clear hown0
        have HL := Lib.hid hlen; clear hlen
        go_wp2
        go_region_law ((first | (refine step_app1 _ rfl _ _ _ rfl w.heap.size 69 _ 1 24 Tryz.underlying63 Tryz.infoBs rfl (by omega) v k vs rfl ((own_kp hown ((Kp.refl _ _).drew.trans hkc) (fun g hg m => m)).alloc _) _ _ _ rfl (Bk.new' (by simp) rfl) rfl (by simp [Value.oneCell']) (by omega) (by omega) (by simp; have := hkc.size; simp at this; omega) ?_; intro g1 cap1 w1 hown1 hk1 hat1; have hb1 : Bk w1 w.heap.size 65 (rdCells v 0 (-1) false) := ((hb.drew.no hkc).alloc _).kp hk1 hne; have hc1 : w1.cell? ⟨w.heap.size, 0, none⟩ = some v := hb1.cell 0; have hf1 := hb1.frozen 0) | (go_simp; go_at_call 54; refine (HC.out _ (Kp.refl _ _).drew).mono ?_; rintro e wc ⟨gc, rfl, hbc, hgc, hkc⟩; have ha1 : wc.cell? ⟨w.heap.size, 0, none⟩ = some v := (hb.drew.no hkc).cell 0; have ha2 : ∀ o, (wc.alloc o).cell? ⟨w.heap.size, 0, none⟩ = some v := fun o => ((hb.drew.no hkc).alloc o).cell 0)))
        all_goals
          have hpush := RowsOf.push (l := l) (t := 5) (x := .slice (some ⟨gc, 0, none⟩) 64 64) HO.out HR.out (((Kp.refl No wr).drew.trans hkc).alloc (.cells #[.slice (some ⟨gc, 0, none⟩) 64 64] 69))
            ⟨gc, 64, [], by rw [h64], by omega, hgc, by simp, by rw [List.append_nil]; exact hbc.alloc _⟩ hbase (by rw [HL.out]; exact hown1) hk1 hat1
          have hkp1 : Kp No w w1 := ((hkp.trans ((Kp.refl No wr).drew.trans hkc)).alloc _).then_ hk1 fun i hi e => by have := hown.lt i e; omega
          rw [HL.out] at hpush
          have hpush2 := hpush.far hb1 (by decide) (by decide) 0 (.slice (some ⟨g1, 0, none⟩) (k + 1) cap1)
          have hkp2 := hkp1.set (g := w.heap.size) (.inr (Nat.le_refl _)) 0 (.slice (some ⟨g1, 0, none⟩) (k + 1) cap1)
          have hb2 := hb1.set_ 0 (.slice (some ⟨g1, 0, none⟩) (k + 1) cap1)
          clear ha1 ha2 hown1 hk1 hat1 hc1 hf1 hb1 hpush hkp1
          generalize w1.setCell ⟨w.heap.size, 0, none⟩ (.slice (some ⟨g1, 0, none⟩) (k + 1) cap1) = w3 at *
          have e1 : L.take (k + 1) = L.take k ++ [l] := by
            rw [List.take_add_one, List.getElem?_eq_getElem hlt, HLk.out]; rfl
          have E1 := Lib.hid e1; clear e1
          go_wp2
          go_roundw
          case rel =>
            refine ⟨k + 1, by omega, by go_num, hkp2, ?_, _, hb2, by rw [E1.out]; exact hpush2⟩
            intro y hy
            rw [E1.out] at hy
            simp only [List.mem_append, List.mem_singleton] at hy
            rcases hy with hy | rfl
            · exact hle y hy
            · exact h64
          case measure => simp [intOf]; omega
      · have hne64 : ((l.length : Int) != 64) = true := by simp; omega
        clear hlen
        go_wp2
        go_ret2
        have hng : ¬ Good L := fun hg => h64 (by rw [← HLk.out]; exact hg _ (List.getElem_mem hlt))
        exact ⟨hkp, fun _ => rfl, fun hg => absurd hg hng⟩
    · have hk' : k = L.length := by omega
      subst hk'
      rw [List.take_length] at hown hle hrows
      go_wp2
      go_ret2
      exact ⟨hkp, fun h => absurd hle h, fun _ => ⟨_, v, rfl, hb, ⟨vs, hown, hrows⟩, Nat.le_refl _⟩⟩
end Go.Proofs.YtlgbmkdeamgpkaaGreatDoor
