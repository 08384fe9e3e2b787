/- The contracts of From, the program's and the reference's. No condition beyond what each theorem states. -/
import Derived.Test.YtaohaofjbgghgaaG
import Derived.Test.YtaohaofjbgghgaaR
namespace Go.Proofs.Ytaohaofjbgghgaa
open Go.RowKit

set_option maxHeartbeats 1000000 in
theorem from_no (A : Option Addr) (n c : Nat) (h : n < 1 ∨ 512 < n) (w : World) :
    Calls Try.prog 25 #[.slice A n c] w fun e w' => e = .returned (.tuple #[.pointer Option.none, .int .i64 2]) ∧ w = w' := by
  have hd : decide (1 ≤ (n : Int) ∧ (n : Int) ≤ 512) = false := by simp; omega
  have Hd := Lib.hid hd; clear hd
  go_enter Try.func25, Try.ntmps25
  go_wp2_with fail
  refine (fits_any _ _).mono ?_
  rw [Hd.out]
  rintro e w' ⟨rfl, rfl⟩
  go_wp2
  go_ret2
  exact ⟨rfl, rfl⟩
set_option maxHeartbeats 1000000 in
theorem rfrom_no (A : Option Addr) (n c : Nat) (h : n < 1 ∨ 512 < n) (w : World) :
    Calls Try.prog 26 #[.slice A n c] w fun e w' => e = .returned (.tuple #[.pointer Option.none, .int .i64 2]) ∧ w = w' := by
  go_enter Try.func26, Try.ntmps26
  by_cases h1 : n < 1
  · have h2 : (n : Int) < 1 := by omega
    clear h
    go_wp2
    go_ret2
    exact ⟨rfl, rfl⟩
  · have h2 : (1 : Int) ≤ n := by omega
    have h3 : (512 : Int) < n := by omega
    clear h
    go_wp2
    go_ret2
    exact ⟨rfl, rfl⟩

/-- the first sectors of a list, all of the right length -/
def Good (L : List (List UInt8)) : Prop := ∀ l ∈ L, l.length = 64
instance (L : List (List UInt8)) : Decidable (Good L) := by unfold Good; infer_instance

theorem ArgRows.at_ {w : World} {v : Value} {L : List (List UInt8)} (h : ArgRows w v L) : ∃ A c, v = .slice A L.length c ∧ ∀ k (hk : k < L.length), ∃ g o B d, A = some ⟨g, o, none⟩ ∧ w.cell? ⟨g, o + k, none⟩ = some (.slice B L[k].length d) ∧ Cs w B (u8s L[k]) := by
  obtain ⟨A, c, xs, rfl, hl, hr, hx⟩ := h
  refine ⟨A, c, rfl, fun k hk => ?_⟩
  obtain ⟨x, h1, B, d, rfl, h2⟩ := hx k hk
  obtain ⟨g, o, e, hc⟩ := hr.get h1
  exact ⟨g, o, B, d, e, hc, h2⟩

/-- the own row of sectors that From fills -/
structure Secs (w : World) (B : Nat) (v : Value) (L : List (List UInt8)) : Prop where
  own : w.ownsRow B 61 64 v L.length (secC L)
  le : Good L
theorem agg_cells (xs : List Value) : (Value.agg xs.toArray).cells = xs.toArray := rfl

theorem Try.info61' : (Try.prog.info? 61).map (fun i => (i.zero, i.size, i.bytes)) = some (some (.agg (Array.replicate 64 (.int .u8 0))), 64, 64) := Try.info61

set_option maxHeartbeats 2000000 in
theorem from_any (v : Value) (L : List (List UInt8)) (w : World) (hv : ArgRows w v L) (h1 : 1 ≤ L.length) (h2 : L.length ≤ 512) :
    Calls Try.prog 25 #[v] w fun e w' => Kp No w w' ∧ (¬ Good L → e = .returned (.tuple #[.pointer Option.none, .int .i64 2])) ∧
      (Good L → ∃ b sb cap, e = .returned (.tuple #[.pointer (some ⟨b, 0, none⟩), .int .i64 0]) ∧ w.heap.size ≤ b ∧ w.heap.size ≤ sb ∧ DkS w' b sb cap ⟨L, 0, false, 0, false⟩) := by
  have hd : decide (1 ≤ (L.length : Int) ∧ (L.length : Int) ≤ 512) = true := by simp; omega
  have Hd := Lib.hid hd; clear hd
  obtain ⟨A, c, rfl, hx⟩ := hv.at_
  have HX := Lib.hid hx; clear hx hv
  go_enter Try.func25, Try.ntmps25
  go_wp2_with fail
  refine (fits_any _ _).mono ?_
  rw [Hd.out]
  rintro e w' ⟨rfl, rfl⟩
  go_wp2
  go_loopw [15] (fun i wr => ∃ k : Nat, k ≤ L.length ∧ i = .int .i64 k ∧ Kp No w wr ∧ ∃ v, Bk wr w.heap.size 58 (dkCells v 0 false 0 false) ∧ Secs wr w.heap.size v (L.take k)) (fun i _ => L.length - (intOf i).toNat)
  case atStart => exact ⟨0, Nat.zero_le _, rfl, (Kp.refl _ _).alloc _, _, Bk.new' rfl rfl, World.ownsRow_nil _ _ _ _, by intro l hl; simp at hl⟩
  case round =>
    obtain ⟨k, hk, rfl, hkp, v, hb, ⟨hown, hle⟩⟩ := hrel
    by_cases hlt : k < L.length
    · obtain ⟨g, o, B, d, rfl, hcx, hcs⟩ := HX.out k hlt
      have hc1 : wr.cell? ⟨g, o + k, none⟩ = some (.slice B L[k].length d) := by
        rw [World.cell?_of_block (w := w) (hkp.block g (World.block_lt_of_cell? w _ hcx) (fun m => m))]; exact hcx
      have hcs1 := hcs.no hkp
      have hglt : L[k] ≠ [] → ∀ g2 o2, B = some ⟨g2, o2, none⟩ → g2 < w.heap.size := fun hne g2 o2 hB => by
        obtain ⟨g3, o3, e3, hr3⟩ := hcs (by simpa [u8s] using hne)
        rw [hB] at e3; injection e3 with e3; injection e3 with e3
        subst e3; exact range_lt hr3 (by rw [u8s_length]; exact List.length_pos_iff.2 hne)
      clear hcs hcx
      have hk0 : (0 : Int) ≤ (k : Int) := by omega
      have hk1 : (k : Int) < (L.length : Int) := by omega
      have hlen : (L.take k).length = k := by simp; omega
      generalize hl : L[k] = l at *
      have HLk := Lib.hid hl; clear hl
      by_cases h64 : l.length = 64
      · have hne64 : ((l.length : Int) != 64) = false := by simp; omega
        obtain ⟨g2, o2, rfl, hra⟩ := hcs1 (by intro e; have := u8s_length l; rw [e] at this; simp at this; omega)
        have hg2 := hglt (by intro e; rw [e] at h64; simp at h64) g2 o2 rfl
        clear hglt
        have hxl : (u8s l).length = 64 := by rw [u8s_length, h64]
        have hx1 := u8s_one l
        generalize hxs : u8s l = xs at *
        have HX2 := Lib.hid hxs; clear hxs
        have hsz : (Try.prog.info? 61).map (·.size) = some xs.length := by rw [hxl]; exact u61
        rw [h64] at hc1 hne64
        have harr : ∀ W : World, (Instr.arrayAt 61 (.slice (some ⟨g2, o2, none⟩) 64 d)).run Try.prog W = .ok (.pointer (some ⟨g2, o2, none⟩)) W := arr61 g2 o2 d
        have hne := own_ne hown hb (by decide)
        have hbase : w.heap.size ≤ wr.heap.size := hkp.size
        rw [hlen] at hown
        have h0 : wr.cell? ⟨w.heap.size, 0, none⟩ = some v := hb.cell 0
        have hf := hb.frozen 0
        have ha1 : ∀ o, (wr.alloc o).cell? ⟨w.heap.size, 0, none⟩ = some v := fun o => (hb.alloc o).cell 0
        have HL := Lib.hid hlen; clear hlen
        have hbs := fun W => run_buildOne (P := Try.prog) 56 61 _ 64 64 Try.underlying56 Try.info61 (by omega) (by omega) (.agg xs.toArray) xs rfl hxl W
        go_wp2
        have hF : (fun W : World => W.cell? ⟨w.heap.size, 0, none⟩ = some v ∧ W.rangeAt g2 o2 xs) wr.drew := ⟨h0, hra⟩
        refine rg_begin (fun W => W.cell? ⟨w.heap.size, 0, none⟩ = some v ∧ W.rangeAt g2 o2 xs) 12 (by kernel_rfl) ?_
        refine rg_take (i := 0) (v := ?vx0) (by simp only [List.getElem?_toArray, List.getElem?_cons_succ, List.getElem?_cons_zero]; rfl) (by kernel_rfl) (by exact fun _ _ _ h => h) (by rfl) ?rx0 hF ?sx0
        case rx0 => (intro W hW; clear hW; go_simp; try with_reducible rfl)
        try simp only [Act.put, List.setIfInBounds_toArray, List.set_cons_zero, List.set_cons_succ]
        refine rg_take (i := 1) (v := ?vx1) (by simp only [List.getElem?_toArray, List.getElem?_cons_succ, List.getElem?_cons_zero]; rfl) (by kernel_rfl) (by exact fun _ _ _ h => h) (by rfl) ?rx1 hF ?sx1
        case rx1 => (intro W hW; clear hW; go_simp; try with_reducible rfl)
        try simp only [Act.put, List.setIfInBounds_toArray, List.set_cons_zero, List.set_cons_succ]
        refine rg_take (i := 2) (v := ?vx2) (by simp only [List.getElem?_toArray, List.getElem?_cons_succ, List.getElem?_cons_zero]; rfl) (by kernel_rfl) (by exact fun _ _ _ h => h) (by rfl) ?rx2 hF ?sx2
        case rx2 => (intro W hW; clear hW; go_simp; try with_reducible rfl)
        try simp only [Act.put, List.setIfInBounds_toArray, List.set_cons_zero, List.set_cons_succ]
        refine rg_take (i := 3) (v := ?vx3) (by simp only [List.getElem?_toArray, List.getElem?_cons_succ, List.getElem?_cons_zero]; rfl) (by kernel_rfl) (by exact fun _ _ _ h => h) (by rfl) ?rx3 hF ?sx3
        case rx3 => (intro W hW; clear hW; go_simp; try with_reducible rfl)
        try simp only [Act.put, List.setIfInBounds_toArray, List.set_cons_zero, List.set_cons_succ]
        refine rg_take (i := 4) (v := ?vx4) (by simp only [List.getElem?_toArray, List.getElem?_cons_succ, List.getElem?_cons_zero]; rfl) (by kernel_rfl) (by exact fun _ _ _ h => h) (by rfl) ?rx4 hF ?sx4
        case rx4 => (intro W hW; obtain ⟨f1, f2⟩ := hW; go_simp; try with_reducible rfl)
        try simp only [Act.put, List.setIfInBounds_toArray, List.set_cons_zero, List.set_cons_succ]
        refine rg_take (i := 5) (v := ?vx5) (by simp only [List.getElem?_toArray, List.getElem?_cons_succ, List.getElem?_cons_zero]; rfl) (by kernel_rfl) (by exact fun _ _ _ h => h) (by rfl) ?rx5 hF ?sx5
        case rx5 => (intro W hW; clear hW; go_simp; try with_reducible rfl)
        try simp only [Act.put, List.setIfInBounds_toArray, List.set_cons_zero, List.set_cons_succ]
        refine rg_take (i := 6) (v := ?vx6) (by simp only [List.getElem?_toArray, List.getElem?_cons_succ, List.getElem?_cons_zero]; rfl) (by kernel_rfl) (by exact fun _ _ _ h => h) (by rfl) ?rx6 hF ?sx6
        case rx6 => (intro W hW; clear hW; go_simp; try with_reducible rfl)
        try simp only [Act.put, List.setIfInBounds_toArray, List.set_cons_zero, List.set_cons_succ]
        refine rg_take (i := 7) (v := .agg xs.toArray) (by simp only [List.getElem?_toArray, List.getElem?_cons_succ, List.getElem?_cons_zero]; rfl) (by kernel_rfl) (by exact fun _ _ _ h => h) (by rfl) ?rx7 hF ?sx7
        case rx7 => (intro W hW; exact exec_load_mid W 61 _ rfl g2 o2 rfl xs _ hW.2 Try.underlying61 rfl hsz)
        try simp only [Act.put, List.setIfInBounds_toArray, List.set_cons_zero, List.set_cons_succ]
        refine rg_one (i := 8) (by simp only [List.getElem?_toArray, List.getElem?_cons_succ, List.getElem?_cons_zero]; rfl) (by kernel_rfl) (by rfl) (fun K hK => ?_)
        refine wp_build1 56 _ rfl 61 _ 64 64 Try.underlying56 Try.info61 (by omega) (by omega) _ rfl xs rfl hxl ?_
        refine rg_use hK ⟨(hb.drew.alloc _).cell 0, World.rangeAt_alloc hF.2 _⟩ (fun hF => ?_)
        clear hK K
        try simp only [Act.put, List.setIfInBounds_toArray, List.set_cons_zero, List.set_cons_succ]
        refine rg_one (i := 9) (by simp only [List.getElem?_toArray, List.getElem?_cons_succ, List.getElem?_cons_zero]; rfl) (by kernel_rfl) (by rfl) (fun K hK => ?_)
        refine wp_app1 _ _ _ _ rfl w.heap.size 61 _ 64 64 Try.underlying56 Try.info61 rfl (by omega) v k (secC (L.take k)) rfl (hown.alloc _) _ _ xs rfl (Bk.new' rfl rfl) hxl hx1 (by omega) (by omega) (by simp; omega) (fun g1 cap1 w1 hown1 hk1 hat1 => ?_)
        have hb1 : Bk w1 w.heap.size 58 (dkCells v 0 false 0 false) := (hb.drew.alloc _).kp hk1 hne
        have hc1 : w1.cell? ⟨w.heap.size, 0, none⟩ = some v := hb1.cell 0
        have hf1 := hb1.frozen 0
        refine rg_use hK ⟨hc1, range_kp hF.2 hk1 (fun e => by have := hown.lt g2 e; omega)⟩ (fun hF => ?_)
        clear hK K
        try simp only [Act.put, List.setIfInBounds_toArray, List.set_cons_zero, List.set_cons_succ]
        refine rg_one (i := 10) (by simp only [List.getElem?_toArray, List.getElem?_cons_succ, List.getElem?_cons_zero]; rfl) (by kernel_rfl) (by rfl) (fun K hK => ?_)
        go_simp
        refine rg_use hK hF (fun hF => ?_)
        clear hK K
        try simp only [Act.put, List.setIfInBounds_toArray, List.set_cons_zero, List.set_cons_succ]
        refine rg_one (i := 11) (by simp only [List.getElem?_toArray, List.getElem?_cons_succ, List.getElem?_cons_zero]; rfl) (by kernel_rfl) (by rfl) (fun K hK => ?_)
        go_simp
        refine rg_use hK hF (fun hF => ?_)
        clear hK K
        try simp only [Act.put, List.setIfInBounds_toArray, List.set_cons_zero, List.set_cons_succ]
        refine rg_one (i := 12) (by simp only [List.getElem?_toArray, List.getElem?_cons_succ, List.getElem?_cons_zero]; rfl) (by kernel_rfl) (by rfl) (fun K hK => ?_)
        go_simp
        refine hK _ _ (fun h => absurd rfl h) ?_
        clear hK K
        try simp only [Act.put, List.setIfInBounds_toArray, List.set_cons_zero, List.set_cons_succ]
        refine rg_done (by kernel_rfl) ?_
        have hkp1 : Kp No w w1 := (hkp.drew.alloc _).then_ hk1 fun i hi e => by have := hown.lt i e; omega
        have hbne : (Value.slice (some ⟨g1, 0, none⟩) (k + 1) cap1).ownBlock ≠ some w.heap.size := own_ne hown1 hb1 (by decide)
        have hown2 := own_kp hown1 ((Kp.refl (One w.heap.size) _).set (.inl (One.self _)) 0 (.slice (some ⟨g1, 0, none⟩) (k + 1) cap1)) (fun g hg m => hbne (by rw [hg, m]))
        have hkp2 := hkp1.set (g := w.heap.size) (.inr (Nat.le_refl _)) 0 (.slice (some ⟨g1, 0, none⟩) (k + 1) cap1)
        have hb2 := hb1.set_ 0 (.slice (some ⟨g1, 0, none⟩) (k + 1) cap1)
        clear ha1 hown1 hk1 hat1 hc1 hf1 hb1 hkp1
        generalize w1.setCell ⟨w.heap.size, 0, none⟩ (.slice (some ⟨g1, 0, none⟩) (k + 1) cap1) = w3 at *
        go_wp2
        go_roundw
        case rel =>
          refine ⟨k + 1, by omega, by go_num, hkp2, _, hb2, ?_, ?_⟩
          · have e1 : (L.take (k + 1)).length = k + 1 := by simp; omega
            have e2 : secC (L.take (k + 1)) = secC (L.take k) ++ xs := by
              rw [List.take_add_one, List.getElem?_eq_getElem hlt, HLk.out, ← HX2.out]
              simp [secC, u8s]
            rw [e1, e2]
            exact hown2
          · intro y hy
            rw [List.take_add_one, List.getElem?_eq_getElem hlt, HLk.out] at hy
            simp only [Option.toList_some, List.mem_append, List.mem_singleton] at hy
            rcases hy with hy | rfl
            · exact hle y hy
            · exact h64
        case measure => simp [intOf]; omega
      · have hne64 : ((l.length : Int) != 64) = true := by simp; omega
        clear hlen
        go_wp2
        go_ret2
        have hng : ¬ Good L := fun hg => h64 (by rw [← HLk.out]; exact hg _ (List.getElem_mem hlt))
        exact ⟨hkp, fun _ => rfl, fun hg => absurd hg hng⟩
    · have hk' : k = L.length := by omega
      subst hk'
      rw [List.take_length] at hown hle
      go_wp2
      go_ret2
      refine ⟨hkp, fun h => absurd hle h, fun _ => ?_⟩
      rcases hown.2 with ⟨_, hbad⟩ | ⟨gv, cap, cur, rfl, hgB, hh, hnc, hcm, hcs, htk⟩
      · omega
      · refine ⟨w.heap.size, gv, cap, rfl, Nat.le_refl _, hgB, hb, ⟨cur.toList.drop (L.length * 64), ?_⟩, hle, h1, h2⟩
        rw [← htk, List.take_append_drop]
        unfold Bk; simpa using hh

set_option maxHeartbeats 2000000 in
theorem rfrom_any (v : Value) (L : List (List UInt8)) (w : World) (hv : ArgRows w v L) (h1 : 1 ≤ L.length) (h2 : L.length ≤ 512) :
    Calls Try.prog 26 #[v] w fun e w' => Kp No w w' ∧ (¬ Good L → e = .returned (.tuple #[.pointer Option.none, .int .i64 2])) ∧
      (Good L → ∃ b u, e = .returned (.tuple #[.pointer (some ⟨b, 0, none⟩), .int .i64 0]) ∧ RD w' w.heap.size b u L 0 (-1) false) := by
  obtain ⟨A, c, rfl, hx⟩ := hv.at_
  have HX := Lib.hid hx; clear hx hv
  have hL1 : (1 : Int) ≤ L.length := by omega
  have hL2 : (L.length : Int) ≤ 512 := by omega
  go_enter Try.func26, Try.ntmps26
  go_wp2
  go_loopw [5] (fun i wr => ∃ k : Nat, k ≤ L.length ∧ i = .int .i64 k ∧ Kp No w wr ∧ Good (L.take k) ∧ ∃ v, Bk wr w.heap.size 43 (rdCells v 0 (-1) false) ∧ RowsOf wr w.heap.size v (L.take k) 5) (fun i _ => L.length - (intOf i).toNat)
  case atStart => exact ⟨0, Nat.zero_le _, rfl, (Kp.refl _ _).alloc _, by intro l hl; simp at hl, _, Bk.new' rfl rfl, RowsOf.nil _ _ _⟩
  case round =>
    obtain ⟨k, hk, rfl, hkp, hle, v, hb, ⟨vs, hown, hrows⟩⟩ := hrel
    by_cases hlt : k < L.length
    · obtain ⟨g, o, B, d, rfl, hcx, hcs⟩ := HX.out k hlt
      have hc1 : wr.cell? ⟨g, o + k, none⟩ = some (.slice B L[k].length d) := by
        rw [World.cell?_of_block (w := w) (hkp.block g (World.block_lt_of_cell? w _ hcx) (fun m => m))]; exact hcx
      have hcs1 := hcs.no hkp
      clear hcs hcx
      have hk0 : (0 : Int) ≤ (k : Int) := by omega
      have hk1 : (k : Int) < (L.length : Int) := by omega
      have hlen : (L.take k).length = k := by simp; omega
      generalize hl : L[k] = l at *
      have HLk := Lib.hid hl; clear hl
      by_cases h64 : l.length = 64
      · have hne64 : ((l.length : Int) != 64) = false := by simp; omega
        have hne := own_ne hown hb (by decide)
        have hbase : w.heap.size ≤ wr.heap.size := hkp.size
        have hown0 := hown
        rw [hlen] at hown
        have h0 : wr.cell? ⟨w.heap.size, 0, none⟩ = some v := hb.cell 0
        have hf := hb.frozen 0
        have hcop : ∀ W, Kp No wr W → _ := fun W hW => copied_any B d (u8s l) W (by rw [u8s_length, h64]; omega) (u8s_val l) (hcs1.no hW)
        rw [u8s_length, h64] at hcop
        rw [h64] at hc1 hne64
        have HC := Lib.hid hcop; clear hcop hcs1
        have HR := Lib.hid hrows; clear hrows
        have HO := Lib.hid hown0; clear hown0
        have HL := Lib.hid hlen; clear hlen
        go_wp2
        go_region_law ((first | (refine step_app1 _ rfl _ _ _ rfl w.heap.size 33 _ 1 24 Try.underlying40 Try.info33 rfl (by omega) v k vs rfl ((own_kp hown ((Kp.refl _ _).drew.trans hkc) (fun g hg m => m)).alloc _) _ _ _ rfl (Bk.new' (by simp) rfl) rfl (by simp [Value.oneCell']) (by omega) (by omega) (by simp; have := hkc.size; simp at this; omega) ?_; intro g1 cap1 w1 hown1 hk1 hat1; have hb1 : Bk w1 w.heap.size 43 (rdCells v 0 (-1) false) := ((hb.drew.no hkc).alloc _).kp hk1 hne; have hc1 : w1.cell? ⟨w.heap.size, 0, none⟩ = some v := hb1.cell 0; have hf1 := hb1.frozen 0) | (go_simp; go_at_call 29; refine (HC.out _ (Kp.refl _ _).drew).mono ?_; rintro e wc ⟨gc, rfl, hbc, hgc, hkc⟩; have ha1 : wc.cell? ⟨w.heap.size, 0, none⟩ = some v := (hb.drew.no hkc).cell 0; have ha2 : ∀ o, (wc.alloc o).cell? ⟨w.heap.size, 0, none⟩ = some v := fun o => ((hb.drew.no hkc).alloc o).cell 0)))
        all_goals
          have hpush := RowsOf.push (l := l) (t := 5) (x := .slice (some ⟨gc, 0, none⟩) 64 64) HO.out HR.out (((Kp.refl No wr).drew.trans hkc).alloc (.cells #[.slice (some ⟨gc, 0, none⟩) 64 64] 33))
            ⟨gc, 64, [], by rw [h64], by omega, hgc, by simp, by rw [List.append_nil]; exact hbc.alloc _⟩ hbase (by rw [HL.out]; exact hown1) hk1 hat1
          have hkp1 : Kp No w w1 := ((hkp.trans ((Kp.refl No wr).drew.trans hkc)).alloc _).then_ hk1 fun i hi e => by have := hown.lt i e; omega
          rw [HL.out] at hpush
          have hpush2 := hpush.far hb1 (by decide) (by decide) 0 (.slice (some ⟨g1, 0, none⟩) (k + 1) cap1)
          have hkp2 := hkp1.set (g := w.heap.size) (.inr (Nat.le_refl _)) 0 (.slice (some ⟨g1, 0, none⟩) (k + 1) cap1)
          have hb2 := hb1.set_ 0 (.slice (some ⟨g1, 0, none⟩) (k + 1) cap1)
          clear ha1 ha2 hown1 hk1 hat1 hc1 hf1 hb1 hpush hkp1
          generalize w1.setCell ⟨w.heap.size, 0, none⟩ (.slice (some ⟨g1, 0, none⟩) (k + 1) cap1) = w3 at *
          have e1 : L.take (k + 1) = L.take k ++ [l] := by
            rw [List.take_add_one, List.getElem?_eq_getElem hlt, HLk.out]; rfl
          have E1 := Lib.hid e1; clear e1
          go_wp2
          go_roundw
          case rel =>
            refine ⟨k + 1, by omega, by go_num, hkp2, ?_, _, hb2, by rw [E1.out]; exact hpush2⟩
            intro y hy
            rw [E1.out] at hy
            simp only [List.mem_append, List.mem_singleton] at hy
            rcases hy with hy | rfl
            · exact hle y hy
            · exact h64
          case measure => simp [intOf]; omega
      · have hne64 : ((l.length : Int) != 64) = true := by simp; omega
        clear hlen
        go_wp2
        go_ret2
        have hng : ¬ Good L := fun hg => h64 (by rw [← HLk.out]; exact hg _ (List.getElem_mem hlt))
        exact ⟨hkp, fun _ => rfl, fun hg => absurd hg hng⟩
    · have hk' : k = L.length := by omega
      subst hk'
      rw [List.take_length] at hown hle hrows
      go_wp2
      go_ret2
      exact ⟨hkp, fun h => absurd hle h, fun _ => ⟨_, v, rfl, hb, ⟨vs, hown, hrows⟩, Nat.le_refl _⟩⟩
end Go.Proofs.Ytaohaofjbgghgaa
