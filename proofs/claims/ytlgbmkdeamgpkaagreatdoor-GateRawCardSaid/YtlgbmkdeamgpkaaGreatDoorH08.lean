/- Several texts of this claim in one. No condition beyond what each theorem states. -/
import Derived.Test.YtlgbmkdeamgpkaaGreatDoorV02
import Derived.Test.YtlgbmkdeamgpkaaGreatDoorV03
import Derived.Test.YtlgbmkdeamgpkaaGreatDoorV04
import Derived.Test.YtlgbmkdeamgpkaaGreatDoorV05
import Derived.Test.YtlgbmkdeamgpkaaGreatDoorV06
import Derived.Test.YtlgbmkdeamgpkaaGreatDoorH07
import Derived.Test.YtlgbmkdeamgpkaaGreatDoorG07
/- The document's Valid by contract. No condition beyond what each theorem states. -/
namespace Go.Proofs.YtlgbmkdeamgpkaaGreatDoor
open Go Go.RowKit Go.PlainAid

theorem rvalid6_any (m : Msg) (A : Option Addr) (c : Nat) (W : World) (hs : ArgInts W (.slice A m.stamp.length c) m.stamp) (hl : m.stamp.length ≤ maxLen) (hp : m.path.length ≤ 140737488355328) :
    Calls Tryz.prog 49 #[.agg (mcells m (.slice A m.stamp.length c)).toArray] W fun e w' => e = .returned (.bool (decide (mayS vpP m))) ∧ Kp No W w' := by
  by_cases h1 : usedS m = m
  · by_cases h2 : nodeI m.from_
    · by_cases h3 : m.from_ = m.dest
      · exact rvalid_self m A c W hs hl h1 h2 h3
      · by_cases hk : m.kind = 5
        · exact rvalid_op m A c W hs hl hp h1 h2 h3 hk
        · exact rvalid_most m A c W hs hl hp h1 h2 h3 hk
    · exact rvalid_from m A c W hs hl h1 h2
  · exact rvalid_unused m A c W hs hl h1
end Go.Proofs.YtlgbmkdeamgpkaaGreatDoor

/- The document's disk Write by one contract; the document's Handle of what is no operation. No condition beyond what each theorem states. -/
namespace Go.Proofs.YtlgbmkdeamgpkaaGreatDoor
open Go Go.RowKit Go.PlainAid

/-- how the document says that a disk is armed -/
def arS (d : Dsk) : Int := if d.ar = true then d.lf else -1
/-- the document's disk in memory, in plain words -/
def RdG (w : World) (B rb : Nat) (v : Value) (d : Dsk) : Prop := RD w B rb v d.L d.wr (arS d) d.off ∧ (d.ar = true → 0 ≤ d.lf ∧ d.lf < 9223372036854775808) ∧ 0 ≤ d.wr
theorem RdG.no {w w' : World} {B rb : Nat} {v : Value} {d : Dsk} (h : RdG w B rb v d) (hk : Kp No w w') : RdG w' B rb v d := ⟨h.1.no hk, h.2⟩
theorem RdG.kp {w w' : World} {B rb : Nat} {v : Value} {d : Dsk} {M : Nat → Prop} (h : RdG w B rb v d) (hk : Kp M w w') (hM : ∀ q cs, B ≤ q → (Bk w q 69 cs ∨ Bk w q 5 cs ∨ Bk w q 65 cs) → ¬ M q) : RdG w' B rb v d := ⟨h.1.kp hk hM, h.2⟩
theorem rdwrite_any (B rb i g o k : Nat) (x : List UInt8) (v : Value) (w : World) (d : Dsk) (h : RdG w B rb v d) (hi : i < d.L.length) (hx : x.length = 64) (hr : w.rangeAt g o (u8s x)) (hgb : g ≠ rb) (w1 : d.wr < 4611686018427387904) (hB : B ≤ w.heap.size) :
    Calls Tryz.prog 53 #[.pointer (some ⟨rb, 0, none⟩), .int .i64 (i : Int), .slice (some ⟨g, o, none⟩) 64 k] w fun e w' => e = .returned (.int .i64 (dwriteG d i x).2) ∧ RdG w' B rb v (dwriteG d i x).1 ∧ Kp (fun q => q = rb ∨ v.ownBlock = some q) w w' := by
  obtain ⟨h, al, w0⟩ := h
  obtain ⟨L, wr, ar, lf, off⟩ := d
  unfold arS at h
  simp only at h al w0 hi w1
  cases off with
  | true =>
    refine (rwrite_off rb (i : Int) _ w _ wr _ h.st).mono ?_
    rintro e w' ⟨rfl, rfl⟩
    exact ⟨rfl, ⟨h, al, w0⟩, Kp.refl _ _⟩
  | false =>
    cases ar with
    | true =>
      obtain ⟨l0, l1⟩ := al rfl
      rw [if_pos rfl] at h
      by_cases hz : lf = 0
      · subst hz
        have hst := h.st
        obtain ⟨gv, cap, rfl, hob, _⟩ := rows_at h.ro (by show 0 < L.length; omega)
        refine (rwrite_cut rb i _ k w _ L.length cap wr hst hi).mono ?_
        rintro e w' ⟨rfl, hb, hk⟩
        refine ⟨rfl, ⟨⟨hb, h.ro.kp hk fun q cs _ hq e => ?_, h.lo⟩, (fun e => by cases e), w0⟩, hk.mono fun q _ e => .inl e⟩
        rcases hq with hq | hq
        · exact hq.ne_ h.st (by decide) e
        · exact hq.ne_ h.st (by decide) e
      · have e1 : dwriteG ⟨L, wr, true, lf, false⟩ i x = (⟨L.set i x, wr + 1, true, lf - 1, false⟩, 0) := by unfold dwriteG; simp [hz]
        rw [e1]
        refine (rwrite_armed B rb i g o k x w v L wr lf h hi hx hr (by omega) l1 hgb w0 w1 hB).mono ?_
        rintro e w' ⟨rfl, hd, hk⟩
        refine ⟨rfl, ⟨?_, fun _ => by show 0 ≤ lf - 1 ∧ lf - 1 < _; omega, by show 0 ≤ wr + 1; omega⟩, hk⟩
        unfold arS
        rw [if_pos rfl]
        exact hd
    | false =>
      have e1 : dwriteG ⟨L, wr, false, lf, false⟩ i x = (⟨L.set i x, wr + 1, false, lf, false⟩, 0) := by unfold dwriteG; simp
      rw [e1]
      rw [if_neg (by decide)] at h
      refine (rwrite_free B rb i g o k x w v L wr (-1) h hi hx hr (by omega) w0 w1 hB).mono ?_
      rintro e w' ⟨rfl, hd, hk⟩
      refine ⟨rfl, ⟨?_, (fun e => by cases e), by show 0 ≤ wr + 1; omega⟩, hk⟩
      exact hd
set_option maxRecDepth 100000 in
set_option maxHeartbeats 4000000 in
theorem rhandle_kind (gb rb : Nat) (n : Int) (g : Gat) (P : Nat → Prop) (m : Msg) (A : Option Addr) (c : Nat) (W : World) (hG : RgB W P gb rb n g) (hs : ArgInts W (.slice A m.stamp.length c) m.stamp) (hsl1 : m.stamp.length ≤ maxLen) (hpl1 : m.path.length ≤ 140737488355328) (hn : ¬ (m.kind = 5 ∧ m.dest = n ∧ mayS vpP m)) :
    Calls Tryz.prog 31 #[.pointer (some ⟨gb, 0, none⟩), .agg (mcells m (.slice A m.stamp.length c)).toArray] W fun e w' => e = .returned (.int .i64 22) ∧ Kp No W w' := by
  obtain ⟨CM, hCM⟩ : ∃ C, C = (mcells m (.slice A m.stamp.length c)) := ⟨_, rfl⟩
  have HiM : Hid ((Tryz.prog.info? 38).map (·.size) = some CM.length) := Lib.hid (by rw [hCM]; kernel_rfl)
  have HM := Lib.hid (show Bk (W.alloc (.cells CM.toArray 38)) W.heap.size 38 CM from Bk.new' rfl rfl)
  have HK := Lib.hid ((Kp.refl No W).alloc (.cells CM.toArray 38))
  have HCM := Lib.hid hCM; have HG := Lib.hid hG; have HS := Lib.hid hs
  obtain ⟨hvv, hb, hsl, hp⟩ := hG
  have HB := Lib.hid (hb.no HK.out)
  have HSL := Lib.hid hsl
  have PV := Lib.hid (show ∀ W2, Kp No (W.alloc (.cells CM.toArray 38)) W2 → Calls Tryz.prog 49 #[.agg CM.toArray] W2 (fun e w' => e = .returned (.bool (decide (mayS vpP m))) ∧ Kp No (W.alloc (.cells CM.toArray 38)) w') from fun W2 kk => by
    rw [hCM]
    exact (rvalid6_any m A c W2 ((hs.no HK.out).no (hCM ▸ kk)) hsl1 hpl1).mono fun e w' h => ⟨h.1, hCM ▸ (kk.trans h.2)⟩)
  have hF : (fun W2 => W2.cell? ⟨W.heap.size, 0, none⟩ = some (.int .i64 m.kind) ∧ W2.cell? ⟨W.heap.size, 2, none⟩ = some (.int .i64 m.dest) ∧ W2.cell? ⟨gb, 0, none⟩ = some (.int .i64 n) ∧ W2.rangeAt W.heap.size 0 CM) (W.alloc (.cells CM.toArray 38)).drew := ⟨by rw [hCM]; exact (hCM ▸ HM.out).cell 0, by rw [hCM]; exact (hCM ▸ HM.out).cell 2, HB.out.cell 0, fun j v hv => by rw [Nat.zero_add]; exact (HM.out.cell j).trans hv⟩
  have HFK := Lib.hid (show ∀ w5, Kp No (W.alloc (.cells CM.toArray 38)) w5 → (fun W2 => W2.cell? ⟨W.heap.size, 0, none⟩ = some (.int .i64 m.kind) ∧ W2.cell? ⟨W.heap.size, 2, none⟩ = some (.int .i64 m.dest) ∧ W2.cell? ⟨gb, 0, none⟩ = some (.int .i64 n) ∧ W2.rangeAt W.heap.size 0 CM) w5 from fun w5 kk => ⟨by rw [((HM.out.no kk).cell 0), hCM]; rfl, by rw [((HM.out.no kk).cell 2), hCM]; rfl, (HB.out.no kk).cell 0, fun j v hv => by rw [Nat.zero_add]; exact ((HM.out.no kk).cell j).trans hv⟩)
  have HN := Lib.hid hn
  rw [← hCM]
  clear hCM hb hs hn hsl hp HG HS
  go_enter Tryz.func31, Tryz.ntmps31
  go_upto_region 1 with (fail)
  by_cases h1 : m.kind = 5
  · have d1 : (m.kind != 5) = false := by rw [bne_eq_false_iff_eq]; exact h1
    by_cases h3 : mayS vpP m
    · have h2 : ¬ m.dest = n := fun h => HN.out ⟨h1, h, h3⟩
      have d2 : (m.dest != n) = true := by rw [bne_iff_ne]; exact h2
      rw [show decide (mayS vpP m) = true from decide_eq_true h3] at PV
      clear h1 h2 h3
      refine rg_begin (fun W2 => W2.cell? ⟨W.heap.size, 0, none⟩ = some (.int .i64 m.kind) ∧ W2.cell? ⟨W.heap.size, 2, none⟩ = some (.int .i64 m.dest) ∧ W2.cell? ⟨gb, 0, none⟩ = some (.int .i64 n) ∧ W2.rangeAt W.heap.size 0 CM) 17 (by kernel_rfl) ?_
      refine rg_take (i := 0) (v := ?va0) (by simp only [List.getElem?_toArray, List.getElem?_cons_zero]; rfl) (by kernel_rfl) (by exact fun _ _ _ h => h) (by rfl) ?ra0 hF ?sa0
      case ra0 => (intro W hW; clear hW; go_simp; try with_reducible rfl)
      try simp only [Act.put, List.setIfInBounds_toArray, List.set_cons_zero, List.set_cons_succ]
      refine rg_take (i := 1) (v := ?va1) (by simp only [List.getElem?_toArray, List.getElem?_cons_succ, List.getElem?_cons_zero]; rfl) (by kernel_rfl) (by exact fun _ _ _ h => h) (by rfl) ?ra1 hF ?sa1
      case ra1 => (intro W9 hW; obtain ⟨f1, f2, f3, f4⟩ := hW; go_simp; try with_reducible rfl)
      try simp only [Act.put, List.setIfInBounds_toArray, List.set_cons_zero, List.set_cons_succ]
      refine rg_take (i := 2) (v := ?va2) (by simp only [List.getElem?_toArray, List.getElem?_cons_succ, List.getElem?_cons_zero]; rfl) (by kernel_rfl) (by exact fun _ _ _ h => h) (by rfl) ?ra2 hF ?sa2
      case ra2 => (intro W hW; clear hW; go_simp; try with_reducible rfl)
      try simp only [Act.put, List.setIfInBounds_toArray, List.set_cons_zero, List.set_cons_succ]
      refine rg_take (i := 3) (v := ?va3) (by simp only [List.getElem?_toArray, List.getElem?_cons_succ, List.getElem?_cons_zero]; rfl) (by kernel_rfl) (by exact fun _ _ _ h => h) (by rfl) ?ra3 hF ?sa3
      case ra3 => (intro W hW; clear hW; go_simp; try with_reducible rfl)
      try simp only [Act.put, List.setIfInBounds_toArray, List.set_cons_zero, List.set_cons_succ]
      refine rg_take (i := 4) (v := ?va4) (by simp only [List.getElem?_toArray, List.getElem?_cons_succ, List.getElem?_cons_zero]; rfl) (by kernel_rfl) (by exact fun _ _ _ h => h) (by rfl) ?ra4 hF ?sa4
      case ra4 => (intro W9 hW; refine exec_load_mid W9 38 (.tmp 3) ?_ W.heap.size 0 ?_ CM _ hW.2.2.2 Tryz.underlying38 ?_ HiM.out; exact rfl; exact rfl; exact rfl)
      try simp only [Act.put, List.setIfInBounds_toArray, List.set_cons_zero, List.set_cons_succ]
      refine rg_one (i := 5) (oi := ?oa5) ?aa5 ?ba5 ?ca5 ?da5
      case aa5 => (simp only [List.getElem?_toArray, List.getElem?_cons_succ, List.getElem?_cons_zero]; rfl)
      case ba5 => kernel_rfl
      case ca5 => rfl
      intro K hK
      (go_simp; refine (PV.out _ (Kp.refl No (W.alloc (.cells CM.toArray 38))).drew).mono ?_; rintro e w5 ⟨rfl, k5⟩)
      refine rg_use hK (HFK.out _ k5) (fun hF => ?_)
      clear hK K
      try simp only [Act.put, List.setIfInBounds_toArray, List.set_cons_zero, List.set_cons_succ]
      refine rg_take (i := 6) (v := ?va6) (by simp only [List.getElem?_toArray, List.getElem?_cons_succ, List.getElem?_cons_zero]; rfl) (by kernel_rfl) (by exact fun _ _ _ h => h) (by rfl) ?ra6 hF ?sa6
      case ra6 => (intro W hW; clear hW; go_simp; try with_reducible rfl)
      try simp only [Act.put, List.setIfInBounds_toArray, List.set_cons_zero, List.set_cons_succ]
      refine rg_take (i := 7) (v := ?va7) (by simp only [List.getElem?_toArray, List.getElem?_cons_succ, List.getElem?_cons_zero]; rfl) (by kernel_rfl) (by exact fun _ _ _ h => h) (by rfl) ?ra7 hF ?sa7
      case ra7 => (intro W hW; clear hW; go_simp; try with_reducible rfl)
      try simp only [Act.put, List.setIfInBounds_toArray, List.set_cons_zero, List.set_cons_succ]
      refine rg_take (i := 8) (v := ?va8) (by simp only [List.getElem?_toArray, List.getElem?_cons_succ, List.getElem?_cons_zero]; rfl) (by kernel_rfl) (by exact fun _ _ _ h => h) (by rfl) ?ra8 hF ?sa8
      case ra8 => (intro W hW; clear hW; go_simp; try with_reducible rfl)
      try simp only [Act.put, List.setIfInBounds_toArray, List.set_cons_zero, List.set_cons_succ]
      refine rg_take (i := 9) (v := ?va9) (by simp only [List.getElem?_toArray, List.getElem?_cons_succ, List.getElem?_cons_zero]; rfl) (by kernel_rfl) (by exact fun _ _ _ h => h) (by rfl) ?ra9 hF ?sa9
      case ra9 => (intro W hW; clear hW; go_simp; try with_reducible rfl)
      try simp only [Act.put, List.setIfInBounds_toArray, List.set_cons_zero, List.set_cons_succ]
      refine rg_take (i := 10) (v := ?va10) (by simp only [List.getElem?_toArray, List.getElem?_cons_succ, List.getElem?_cons_zero]; rfl) (by kernel_rfl) (by exact fun _ _ _ h => h) (by rfl) ?ra10 hF ?sa10
      case ra10 => (intro W9 hW; obtain ⟨f1, f2, f3, f4⟩ := hW; go_simp; try with_reducible rfl)
      try simp only [Act.put, List.setIfInBounds_toArray, List.set_cons_zero, List.set_cons_succ]
      refine rg_take (i := 11) (v := ?va11) (by simp only [List.getElem?_toArray, List.getElem?_cons_succ, List.getElem?_cons_zero]; rfl) (by kernel_rfl) (by exact fun _ _ _ h => h) (by rfl) ?ra11 hF ?sa11
      case ra11 => (intro W hW; clear hW; go_simp; try with_reducible rfl)
      try simp only [Act.put, List.setIfInBounds_toArray, List.set_cons_zero, List.set_cons_succ]
      refine rg_take (i := 12) (v := ?va12) (by simp only [List.getElem?_toArray, List.getElem?_cons_succ, List.getElem?_cons_zero]; rfl) (by kernel_rfl) (by exact fun _ _ _ h => h) (by rfl) ?ra12 hF ?sa12
      case ra12 => (intro W hW; clear hW; go_simp; try with_reducible rfl)
      try simp only [Act.put, List.setIfInBounds_toArray, List.set_cons_zero, List.set_cons_succ]
      refine rg_take (i := 13) (v := ?va13) (by simp only [List.getElem?_toArray, List.getElem?_cons_succ, List.getElem?_cons_zero]; rfl) (by kernel_rfl) (by exact fun _ _ _ h => h) (by rfl) ?ra13 hF ?sa13
      case ra13 => (intro W hW; clear hW; go_simp; try with_reducible rfl)
      try simp only [Act.put, List.setIfInBounds_toArray, List.set_cons_zero, List.set_cons_succ]
      refine rg_take (i := 14) (v := ?va14) (by simp only [List.getElem?_toArray, List.getElem?_cons_succ, List.getElem?_cons_zero]; rfl) (by kernel_rfl) (by exact fun _ _ _ h => h) (by rfl) ?ra14 hF ?sa14
      case ra14 => (intro W9 hW; obtain ⟨f1, f2, f3, f4⟩ := hW; go_simp; try with_reducible rfl)
      try simp only [Act.put, List.setIfInBounds_toArray, List.set_cons_zero, List.set_cons_succ]
      refine rg_take (i := 15) (v := ?va15) (by simp only [List.getElem?_toArray, List.getElem?_cons_succ, List.getElem?_cons_zero]; rfl) (by kernel_rfl) (by exact fun _ _ _ h => h) (by rfl) ?ra15 hF ?sa15
      case ra15 => (intro W hW; clear hW; go_simp; try with_reducible rfl)
      try simp only [Act.put, List.setIfInBounds_toArray, List.set_cons_zero, List.set_cons_succ]
      refine rg_take (i := 16) (v := ?va16) (by simp only [List.getElem?_toArray, List.getElem?_cons_succ, List.getElem?_cons_zero]; rfl) (by kernel_rfl) (by exact fun _ _ _ h => h) (by rfl) ?ra16 hF ?sa16
      case ra16 => (intro W hW; clear hW; go_simp; try with_reducible rfl)
      try simp only [Act.put, List.setIfInBounds_toArray, List.set_cons_zero, List.set_cons_succ]
      refine rg_done (by kernel_rfl) ?_
      go_wp2
      go_ret
      exact ⟨rfl, HK.out.trans k5⟩
    · rw [show decide (mayS vpP m) = false from decide_eq_false h3] at PV
      clear h1 h3
      refine rg_begin (fun W2 => W2.cell? ⟨W.heap.size, 0, none⟩ = some (.int .i64 m.kind) ∧ W2.cell? ⟨W.heap.size, 2, none⟩ = some (.int .i64 m.dest) ∧ W2.cell? ⟨gb, 0, none⟩ = some (.int .i64 n) ∧ W2.rangeAt W.heap.size 0 CM) 17 (by kernel_rfl) ?_
      refine rg_take (i := 0) (v := ?vb0) (by simp only [List.getElem?_toArray, List.getElem?_cons_zero]; rfl) (by kernel_rfl) (by exact fun _ _ _ h => h) (by rfl) ?rb0 hF ?sb0
      case rb0 => (intro W hW; clear hW; go_simp; try with_reducible rfl)
      try simp only [Act.put, List.setIfInBounds_toArray, List.set_cons_zero, List.set_cons_succ]
      refine rg_take (i := 1) (v := ?vb1) (by simp only [List.getElem?_toArray, List.getElem?_cons_succ, List.getElem?_cons_zero]; rfl) (by kernel_rfl) (by exact fun _ _ _ h => h) (by rfl) ?rb1 hF ?sb1
      case rb1 => (intro W9 hW; obtain ⟨f1, f2, f3, f4⟩ := hW; go_simp; try with_reducible rfl)
      try simp only [Act.put, List.setIfInBounds_toArray, List.set_cons_zero, List.set_cons_succ]
      refine rg_take (i := 2) (v := ?vb2) (by simp only [List.getElem?_toArray, List.getElem?_cons_succ, List.getElem?_cons_zero]; rfl) (by kernel_rfl) (by exact fun _ _ _ h => h) (by rfl) ?rb2 hF ?sb2
      case rb2 => (intro W hW; clear hW; go_simp; try with_reducible rfl)
      try simp only [Act.put, List.setIfInBounds_toArray, List.set_cons_zero, List.set_cons_succ]
      refine rg_take (i := 3) (v := ?vb3) (by simp only [List.getElem?_toArray, List.getElem?_cons_succ, List.getElem?_cons_zero]; rfl) (by kernel_rfl) (by exact fun _ _ _ h => h) (by rfl) ?rb3 hF ?sb3
      case rb3 => (intro W hW; clear hW; go_simp; try with_reducible rfl)
      try simp only [Act.put, List.setIfInBounds_toArray, List.set_cons_zero, List.set_cons_succ]
      refine rg_take (i := 4) (v := ?vb4) (by simp only [List.getElem?_toArray, List.getElem?_cons_succ, List.getElem?_cons_zero]; rfl) (by kernel_rfl) (by exact fun _ _ _ h => h) (by rfl) ?rb4 hF ?sb4
      case rb4 => (intro W9 hW; refine exec_load_mid W9 38 (.tmp 3) ?_ W.heap.size 0 ?_ CM _ hW.2.2.2 Tryz.underlying38 ?_ HiM.out; exact rfl; exact rfl; exact rfl)
      try simp only [Act.put, List.setIfInBounds_toArray, List.set_cons_zero, List.set_cons_succ]
      refine rg_one (i := 5) (oi := ?ob5) ?ab5 ?bb5 ?cb5 ?db5
      case ab5 => (simp only [List.getElem?_toArray, List.getElem?_cons_succ, List.getElem?_cons_zero]; rfl)
      case bb5 => kernel_rfl
      case cb5 => rfl
      intro K hK
      (go_simp; refine (PV.out _ (Kp.refl No (W.alloc (.cells CM.toArray 38))).drew).mono ?_; rintro e w5 ⟨rfl, k5⟩)
      refine rg_use hK (HFK.out _ k5) (fun hF => ?_)
      clear hK K
      try simp only [Act.put, List.setIfInBounds_toArray, List.set_cons_zero, List.set_cons_succ]
      refine rg_take (i := 6) (v := ?vb6) (by simp only [List.getElem?_toArray, List.getElem?_cons_succ, List.getElem?_cons_zero]; rfl) (by kernel_rfl) (by exact fun _ _ _ h => h) (by rfl) ?rb6 hF ?sb6
      case rb6 => (intro W hW; clear hW; go_simp; try with_reducible rfl)
      try simp only [Act.put, List.setIfInBounds_toArray, List.set_cons_zero, List.set_cons_succ]
      refine rg_take (i := 7) (v := ?vb7) (by simp only [List.getElem?_toArray, List.getElem?_cons_succ, List.getElem?_cons_zero]; rfl) (by kernel_rfl) (by exact fun _ _ _ h => h) (by rfl) ?rb7 hF ?sb7
      case rb7 => (intro W hW; clear hW; go_simp; try with_reducible rfl)
      try simp only [Act.put, List.setIfInBounds_toArray, List.set_cons_zero, List.set_cons_succ]
      refine rg_take (i := 8) (v := ?vb8) (by simp only [List.getElem?_toArray, List.getElem?_cons_succ, List.getElem?_cons_zero]; rfl) (by kernel_rfl) (by exact fun _ _ _ h => h) (by rfl) ?rb8 hF ?sb8
      case rb8 => (intro W hW; clear hW; go_simp; try with_reducible rfl)
      try simp only [Act.put, List.setIfInBounds_toArray, List.set_cons_zero, List.set_cons_succ]
      refine rg_pass (i := 9) (by simp only [List.getElem?_toArray, List.getElem?_cons_succ, List.getElem?_cons_zero]; rfl) (by kernel_rfl) (by exact fun _ _ _ h => h) (by rfl) hF ?_
      try simp only [Act.put, List.setIfInBounds_toArray, List.set_cons_zero, List.set_cons_succ]
      refine rg_pass (i := 10) (by simp only [List.getElem?_toArray, List.getElem?_cons_succ, List.getElem?_cons_zero]; rfl) (by kernel_rfl) (by exact fun _ _ _ h => h) (by rfl) hF ?_
      try simp only [Act.put, List.setIfInBounds_toArray, List.set_cons_zero, List.set_cons_succ]
      refine rg_pass (i := 11) (by simp only [List.getElem?_toArray, List.getElem?_cons_succ, List.getElem?_cons_zero]; rfl) (by kernel_rfl) (by exact fun _ _ _ h => h) (by rfl) hF ?_
      try simp only [Act.put, List.setIfInBounds_toArray, List.set_cons_zero, List.set_cons_succ]
      refine rg_pass (i := 12) (by simp only [List.getElem?_toArray, List.getElem?_cons_succ, List.getElem?_cons_zero]; rfl) (by kernel_rfl) (by exact fun _ _ _ h => h) (by rfl) hF ?_
      try simp only [Act.put, List.setIfInBounds_toArray, List.set_cons_zero, List.set_cons_succ]
      refine rg_pass (i := 13) (by simp only [List.getElem?_toArray, List.getElem?_cons_succ, List.getElem?_cons_zero]; rfl) (by kernel_rfl) (by exact fun _ _ _ h => h) (by rfl) hF ?_
      try simp only [Act.put, List.setIfInBounds_toArray, List.set_cons_zero, List.set_cons_succ]
      refine rg_pass (i := 14) (by simp only [List.getElem?_toArray, List.getElem?_cons_succ, List.getElem?_cons_zero]; rfl) (by kernel_rfl) (by exact fun _ _ _ h => h) (by rfl) hF ?_
      try simp only [Act.put, List.setIfInBounds_toArray, List.set_cons_zero, List.set_cons_succ]
      refine rg_pass (i := 15) (by simp only [List.getElem?_toArray, List.getElem?_cons_succ, List.getElem?_cons_zero]; rfl) (by kernel_rfl) (by exact fun _ _ _ h => h) (by rfl) hF ?_
      try simp only [Act.put, List.setIfInBounds_toArray, List.set_cons_zero, List.set_cons_succ]
      refine rg_take (i := 16) (v := ?vb16) (by simp only [List.getElem?_toArray, List.getElem?_cons_succ, List.getElem?_cons_zero]; rfl) (by kernel_rfl) (by exact fun _ _ _ h => h) (by rfl) ?rb16 hF ?sb16
      case rb16 => (intro W hW; clear hW; go_simp; try with_reducible rfl)
      try simp only [Act.put, List.setIfInBounds_toArray, List.set_cons_zero, List.set_cons_succ]
      refine rg_done (by kernel_rfl) ?_
      go_wp2
      go_ret
      exact ⟨rfl, HK.out.trans k5⟩
  · have d1 : (m.kind != 5) = true := by rw [bne_iff_ne]; exact h1
    clear h1
    refine rg_begin (fun W2 => W2.cell? ⟨W.heap.size, 0, none⟩ = some (.int .i64 m.kind) ∧ W2.cell? ⟨W.heap.size, 2, none⟩ = some (.int .i64 m.dest) ∧ W2.cell? ⟨gb, 0, none⟩ = some (.int .i64 n) ∧ W2.rangeAt W.heap.size 0 CM) 17 (by kernel_rfl) ?_
    refine rg_take (i := 0) (v := ?vc0) (by simp only [List.getElem?_toArray, List.getElem?_cons_zero]; rfl) (by kernel_rfl) (by exact fun _ _ _ h => h) (by rfl) ?rc0 hF ?sc0
    case rc0 => (intro W hW; clear hW; go_simp; try with_reducible rfl)
    try simp only [Act.put, List.setIfInBounds_toArray, List.set_cons_zero, List.set_cons_succ]
    refine rg_take (i := 1) (v := ?vc1) (by simp only [List.getElem?_toArray, List.getElem?_cons_succ, List.getElem?_cons_zero]; rfl) (by kernel_rfl) (by exact fun _ _ _ h => h) (by rfl) ?rc1 hF ?sc1
    case rc1 => (intro W9 hW; obtain ⟨f1, f2, f3, f4⟩ := hW; go_simp; try with_reducible rfl)
    try simp only [Act.put, List.setIfInBounds_toArray, List.set_cons_zero, List.set_cons_succ]
    refine rg_take (i := 2) (v := ?vc2) (by simp only [List.getElem?_toArray, List.getElem?_cons_succ, List.getElem?_cons_zero]; rfl) (by kernel_rfl) (by exact fun _ _ _ h => h) (by rfl) ?rc2 hF ?sc2
    case rc2 => (intro W hW; clear hW; go_simp; try with_reducible rfl)
    try simp only [Act.put, List.setIfInBounds_toArray, List.set_cons_zero, List.set_cons_succ]
    refine rg_take (i := 3) (v := ?vc3) (by simp only [List.getElem?_toArray, List.getElem?_cons_succ, List.getElem?_cons_zero]; rfl) (by kernel_rfl) (by exact fun _ _ _ h => h) (by rfl) ?rc3 hF ?sc3
    case rc3 => (intro W hW; clear hW; go_simp; try with_reducible rfl)
    try simp only [Act.put, List.setIfInBounds_toArray, List.set_cons_zero, List.set_cons_succ]
    refine rg_pass (i := 4) (by simp only [List.getElem?_toArray, List.getElem?_cons_succ, List.getElem?_cons_zero]; rfl) (by kernel_rfl) (by exact fun _ _ _ h => h) (by rfl) hF ?_
    try simp only [Act.put, List.setIfInBounds_toArray, List.set_cons_zero, List.set_cons_succ]
    refine rg_pass (i := 5) (by simp only [List.getElem?_toArray, List.getElem?_cons_succ, List.getElem?_cons_zero]; rfl) (by kernel_rfl) (by exact fun _ _ _ h => h) (by rfl) hF ?_
    try simp only [Act.put, List.setIfInBounds_toArray, List.set_cons_zero, List.set_cons_succ]
    refine rg_pass (i := 6) (by simp only [List.getElem?_toArray, List.getElem?_cons_succ, List.getElem?_cons_zero]; rfl) (by kernel_rfl) (by exact fun _ _ _ h => h) (by rfl) hF ?_
    try simp only [Act.put, List.setIfInBounds_toArray, List.set_cons_zero, List.set_cons_succ]
    refine rg_take (i := 7) (v := ?vc7) (by simp only [List.getElem?_toArray, List.getElem?_cons_succ, List.getElem?_cons_zero]; rfl) (by kernel_rfl) (by exact fun _ _ _ h => h) (by rfl) ?rc7 hF ?sc7
    case rc7 => (intro W hW; clear hW; go_simp; try with_reducible rfl)
    try simp only [Act.put, List.setIfInBounds_toArray, List.set_cons_zero, List.set_cons_succ]
    refine rg_take (i := 8) (v := ?vc8) (by simp only [List.getElem?_toArray, List.getElem?_cons_succ, List.getElem?_cons_zero]; rfl) (by kernel_rfl) (by exact fun _ _ _ h => h) (by rfl) ?rc8 hF ?sc8
    case rc8 => (intro W hW; clear hW; go_simp; try with_reducible rfl)
    try simp only [Act.put, List.setIfInBounds_toArray, List.set_cons_zero, List.set_cons_succ]
    refine rg_pass (i := 9) (by simp only [List.getElem?_toArray, List.getElem?_cons_succ, List.getElem?_cons_zero]; rfl) (by kernel_rfl) (by exact fun _ _ _ h => h) (by rfl) hF ?_
    try simp only [Act.put, List.setIfInBounds_toArray, List.set_cons_zero, List.set_cons_succ]
    refine rg_pass (i := 10) (by simp only [List.getElem?_toArray, List.getElem?_cons_succ, List.getElem?_cons_zero]; rfl) (by kernel_rfl) (by exact fun _ _ _ h => h) (by rfl) hF ?_
    try simp only [Act.put, List.setIfInBounds_toArray, List.set_cons_zero, List.set_cons_succ]
    refine rg_pass (i := 11) (by simp only [List.getElem?_toArray, List.getElem?_cons_succ, List.getElem?_cons_zero]; rfl) (by kernel_rfl) (by exact fun _ _ _ h => h) (by rfl) hF ?_
    try simp only [Act.put, List.setIfInBounds_toArray, List.set_cons_zero, List.set_cons_succ]
    refine rg_pass (i := 12) (by simp only [List.getElem?_toArray, List.getElem?_cons_succ, List.getElem?_cons_zero]; rfl) (by kernel_rfl) (by exact fun _ _ _ h => h) (by rfl) hF ?_
    try simp only [Act.put, List.setIfInBounds_toArray, List.set_cons_zero, List.set_cons_succ]
    refine rg_pass (i := 13) (by simp only [List.getElem?_toArray, List.getElem?_cons_succ, List.getElem?_cons_zero]; rfl) (by kernel_rfl) (by exact fun _ _ _ h => h) (by rfl) hF ?_
    try simp only [Act.put, List.setIfInBounds_toArray, List.set_cons_zero, List.set_cons_succ]
    refine rg_pass (i := 14) (by simp only [List.getElem?_toArray, List.getElem?_cons_succ, List.getElem?_cons_zero]; rfl) (by kernel_rfl) (by exact fun _ _ _ h => h) (by rfl) hF ?_
    try simp only [Act.put, List.setIfInBounds_toArray, List.set_cons_zero, List.set_cons_succ]
    refine rg_pass (i := 15) (by simp only [List.getElem?_toArray, List.getElem?_cons_succ, List.getElem?_cons_zero]; rfl) (by kernel_rfl) (by exact fun _ _ _ h => h) (by rfl) hF ?_
    try simp only [Act.put, List.setIfInBounds_toArray, List.set_cons_zero, List.set_cons_succ]
    refine rg_take (i := 16) (v := ?vc16) (by simp only [List.getElem?_toArray, List.getElem?_cons_succ, List.getElem?_cons_zero]; rfl) (by kernel_rfl) (by exact fun _ _ _ h => h) (by rfl) ?rc16 hF ?sc16
    case rc16 => (intro W hW; clear hW; go_simp; try with_reducible rfl)
    try simp only [Act.put, List.setIfInBounds_toArray, List.set_cons_zero, List.set_cons_succ]
    refine rg_done (by kernel_rfl) ?_
    go_wp2
    go_ret
    exact ⟨rfl, HK.out.drew⟩
end Go.Proofs.YtlgbmkdeamgpkaaGreatDoor
