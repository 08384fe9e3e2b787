/- Several texts of this claim in one. No condition beyond what each theorem states. -/
import Derived.Test.YtlgbmkdeamgpkaaGreatDoorG06
import Derived.Deep.RegionLaw
import Derived.RegionTactic
/- The document's disk by contract: copied, New, Arm, On, Same. No condition beyond what each theorem states. -/
namespace Go.Proofs.YtlgbmkdeamgpkaaGreatDoor
open Go.RowKit

theorem upto_set {α : Type} (xs : List α) (z : α) (k : Nat) (hk : k < xs.length) : (xs.take k ++ List.replicate (xs.length - k) z).set k xs[k] = xs.take (k + 1) ++ List.replicate (xs.length - (k + 1)) z := by
  rw [List.set_append_right _ _ (by simp; omega), List.take_add_one, List.getElem?_eq_getElem hk, List.append_assoc]
  congr 1
  have : xs.length - k = (xs.length - (k + 1)) + 1 := by omega
  rw [this, List.replicate_succ, show k - (List.take k xs).length = 0 by simp; omega]
  rfl

set_option maxRecDepth 100000 in
set_option maxHeartbeats 4000000 in
theorem copied_any (A : Option Addr) (c : Nat) (xs : List Value) (w : World) (hn : xs.length ≤ 140737488355328) (h1 : ∀ v ∈ xs, ∃ c : UInt8, v = .int .u8 (c.toNat : Int))
    (hr : xs ≠ [] → ∃ g o, A = some ⟨g, o, none⟩ ∧ w.rangeAt g o xs) :
    Calls Tryz.prog 54 #[.slice A xs.length c] w fun e w' => ∃ g, e = .returned (.slice (some ⟨g, 0, none⟩) xs.length xs.length) ∧ Bk w' g 5 xs ∧ w.heap.size ≤ g ∧ Kp No w w' := by
  have hmk := fun W => mk_bytes xs.length hn W
  go_enter Tryz.func54, Tryz.ntmps54
  go_wp2
  go_loopw [4] (fun i wr => ∃ k : Nat, k ≤ xs.length ∧ i = .int .i64 k ∧ Bk wr w.heap.size 5 (xs.take k ++ List.replicate (xs.length - k) (.int .u8 0)) ∧ Kp No w wr) (fun i _ => xs.length - (intOf i).toNat)
  case atStart => exact ⟨0, Nat.zero_le _, rfl, Bk.new' rfl (by simp), (Kp.refl _ _).alloc _⟩
  case round =>
    obtain ⟨k, hk, rfl, hb, hkp⟩ := hrel
    by_cases hlt : k < xs.length
    · obtain ⟨g, o, rfl, hra⟩ := hr (by intro e; subst e; simp at hlt)
      have hgb : g < w.heap.size := World.block_lt_of_cell? w _ (hra k _ (List.getElem?_eq_getElem hlt))
      have hc0 : w.cell? ⟨g, o + k, none⟩ = some xs[k] := hra k _ (List.getElem?_eq_getElem hlt)
      obtain ⟨cc, hcc⟩ := h1 xs[k] (List.getElem_mem hlt)
      have hs := upto_set xs (.int .u8 0) k hlt
      rw [hcc] at hc0 hs
      have hc : wr.cell? ⟨g, o + k, none⟩ = some (.int .u8 (cc.toNat : Int)) := by rw [World.cell?_of_block (w := w) (hkp.block g hgb (fun m => m))]; exact hc0
      have hd : wr.cell? ⟨w.heap.size, k, none⟩ = some (.int .u8 0) := by
        rw [hb.cell, List.getElem?_append_right (by simp; omega), List.getElem?_replicate]; simp; omega
      have hf := hb.frozen k
      have HS := Lib.hid hs
      clear hs hc0 hcc
      go_wp2
      all_goals
        go_roundw
        case rel => exact ⟨k + 1, by omega, by go_num, by rw [← HS.out]; exact hb.set_ k _, hkp.set (.inr (by omega)) _ _⟩
        case measure => simp [intOf]; omega
    · have hk' : k = xs.length := by omega
      subst hk'
      go_wp2
      go_ret
      exact ⟨w.heap.size, rfl, by simpa using hb, by omega, hkp⟩
def rdCells (sec : Value) (writes ar : Int) (off : Bool) : List Value := [sec, .int .i64 writes, .int .i64 ar, .bool off]
def zeroBD : List UInt8 := List.replicate 64 0

set_option maxRecDepth 100000 in
set_option maxHeartbeats 4000000 in
theorem rnew_no (n : Int) (h : n < 1 ∨ 512 < n) (w : World) :
    Calls Tryz.prog 27 #[.int .i64 n] w fun e w' => e = .returned (.tuple #[.pointer none, .int .i64 2]) ∧ w = w' := by
  go_enter Tryz.func27, Tryz.ntmps27
  by_cases h1 : n < 1
  · go_wp2
    go_ret2
    exact ⟨rfl, rfl⟩
  · have h2 : 512 < n := by omega
    clear h
    go_wp2
    go_ret2
    exact ⟨rfl, rfl⟩

theorem u8s_zeroB : u8s zeroBD = List.replicate 64 (.int .u8 0) := by simp [u8s, zeroBD]
/-- sixty-four zeros -/
def zero64D : List Value := List.replicate 64 (.int .u8 0)
theorem mk64D (W : World) : (Instr.makeSlice 69 (.int .i64 64) (.int .i64 64)).run Tryz.prog W = .ok (.slice (some ⟨W.heap.size, 0, none⟩) 64 64) (W.alloc (.cells zero64D.toArray 5)) := mk_bytes 64 (by omega) W
set_option maxRecDepth 100000 in
set_option maxHeartbeats 4000000 in
theorem rnew_yes (n : Nat) (h1 : 1 ≤ n) (h2 : n ≤ 512) (w : World) :
    Calls Tryz.prog 27 #[.int .i64 n] w fun e w' => ∃ b v, e = .returned (.tuple #[.pointer (some ⟨b, 0, none⟩), .int .i64 0]) ∧
       Bk w' b 65 (rdCells v 0 (-1) false) ∧ RowsOf w' w.heap.size v (List.replicate n zeroBD) 5 ∧ w.heap.size ≤ b ∧ Kp No w w' := by
  have hmk := mk64D
  go_enter Tryz.func27, Tryz.ntmps27
  go_wp2
  go_loopw [5] (fun i wr => ∃ k : Nat, k ≤ n ∧ i = .int .i64 k ∧ Kp No w wr ∧ ∃ v, Bk wr w.heap.size 65 (rdCells v 0 (-1) false) ∧ RowsOf wr w.heap.size v (List.replicate k zeroBD) 5) (fun i _ => n - (intOf i).toNat)
  case atStart => exact ⟨0, Nat.zero_le _, rfl, (Kp.refl _ _).alloc _, _, Bk.new' rfl rfl, RowsOf.nil _ _ _⟩
  case round =>
    obtain ⟨k, hk, rfl, hkp, v, hb, ⟨vs, hown, hrows⟩⟩ := hrel
    by_cases hlt : k < n
    · have hlen : (List.replicate k zeroBD).length = k := by simp
      have hown0 := hown
      rw [hlen] at hown
      have h0 : wr.cell? ⟨w.heap.size, 0, none⟩ = some v := hb.cell 0
      have hf := hb.frozen 0
      have HR := Lib.hid hrows; clear hrows
      have HO := Lib.hid hown0; clear hown0
      have HN := Lib.hid hlen; clear hlen
      have hne := own_ne hown hb (by decide)
      have hbase : w.heap.size ≤ wr.heap.size := hkp.size
      have ha1 : ∀ o, (wr.alloc o).cell? ⟨w.heap.size, 0, none⟩ = some v := fun o => (hb.alloc o).cell 0
      have ha2 : ∀ o o', ((wr.alloc o).alloc o').cell? ⟨w.heap.size, 0, none⟩ = some v := fun o o' => ((hb.alloc o).alloc o').cell 0
      go_wp2
      go_region_law ((first | (refine step_app1 _ rfl _ _ _ rfl w.heap.size 69 _ 1 24 Tryz.underlying63 Tryz.infoBs rfl (by omega) v k vs rfl ((hown.alloc _).alloc _) _ _ _ rfl (Bk.new' (by simp) rfl) rfl (by simp [Value.oneCell']) (by omega) (by omega) (by simp; omega) ?_; intro g1 cap1 w1 hown1 hk1 hat1; have hb1 : Bk w1 w.heap.size 65 (rdCells v 0 (-1) false) := ((hb.drew.alloc _).alloc _).kp hk1 hne; have hc1 := hb1.cell 0; have hf1 := hb1.frozen 0; simp only [rdCells, List.getElem?_cons_zero] at hc1)))
      all_goals
        have hpush := RowsOf.push (l := zeroBD) (t := 5) (x := .slice (some ⟨wr.heap.size, 0, none⟩) 64 64) HO.out HR.out (((Kp.refl _ _).alloc (.cells zero64D.toArray 5)).alloc (.cells #[.slice (some ⟨wr.heap.size, 0, none⟩) 64 64] 69)).drew
          ⟨wr.heap.size, 64, [], rfl, by decide, by omega, by simp, by rw [List.append_nil, u8s_zeroB]; exact Bk.alloc (Bk.new' rfl rfl) _⟩ hbase (by rw [HN.out]; exact hown1) hk1 hat1
        have hkp1 : Kp No w w1 := ((hkp.alloc _).alloc _).drew.then_ hk1 fun i hi e => by have := hown.lt i e; omega
        rw [HN.out] at hpush
        have hpush2 := hpush.far hb1 (by decide) (by decide) 0 (.slice (some ⟨g1, 0, none⟩) (k + 1) cap1)
        have hkp2 := hkp1.set (g := w.heap.size) (.inr (Nat.le_refl _)) 0 (.slice (some ⟨g1, 0, none⟩) (k + 1) cap1)
        have hb2 := hb1.set_ 0 (.slice (some ⟨g1, 0, none⟩) (k + 1) cap1)
        clear ha1 ha2 hown1 hk1 hat1 hc1 hf1 hb1 hpush hkp1
        generalize w1.setCell ⟨w.heap.size, 0, none⟩ (.slice (some ⟨g1, 0, none⟩) (k + 1) cap1) = w3 at *
        go_wp2
        go_roundw
        case rel => exact ⟨k + 1, by omega, by go_num, hkp2, _, hb2, by rw [List.replicate_succ']; exact hpush2⟩
        case measure => simp [intOf]; omega
    · have hk' : k = n := by omega
      subst hk'
      go_wp2
      go_ret2
      exact ⟨_, v, rfl, hb, ⟨vs, hown, hrows⟩, by omega, hkp⟩
theorem ArgBytes.str {P : Program} {w : World} {x : Value} {l : List UInt8} (h : ArgBytes w x l) (src e dst : TypeId) (hs : P.underlying src = some (.slice e)) (he : P.underlying e = some (.int .u8)) (hd : P.underlying dst = some .string) :
    (convert src dst x).run P w = .ok (.string ⟨l.toArray⟩) w := by
  obtain ⟨A, c, rfl, hr⟩ := h
  by_cases hl : l = []
  · subst hl
    rcases A with _ | a
    · exact run_convert_bytes_nil w src e hs he 0 c dst hd
    · have := run_bytesToString (P := P) w a 0 c [] (by rfl)
      simp [convert, run_underlying hs, run_underlying hd, run_underlying he, this]
      rfl
  · obtain ⟨g, o, rfl, hra⟩ := hr (by simpa [u8s] using hl)
    have := run_convert_bytes_arg (P := P) w src e hs he g o l.length c (l.map fun c => (c.toNat : Int)) (by simp) (by
      intro i hi
      rw [hra i _ (by simp only [u8s, List.getElem?_map, List.getElem?_eq_getElem hi]; rfl)]
      simp [List.getD_eq_getElem?_getD, List.getElem?_eq_getElem hi]) dst hd
    rw [this]
    congr 2
    have e2 : (strOfNums (l.map fun c => (c.toNat : Int))).data.toList = l := by
      rw [strOfNums_data, List.map_map]
      conv => rhs; rw [← List.map_id l]
      exact List.map_congr_left fun c _ => by simp
    have e3 : (strOfNums (l.map fun c => (c.toNat : Int))).data = l.toArray := by conv => rhs; rw [← e2]
    calc strOfNums (l.map fun c => (c.toNat : Int)) = ⟨(strOfNums (l.map fun c => (c.toNat : Int))).data⟩ := rfl
      _ = ⟨l.toArray⟩ := by rw [e3]

set_option maxRecDepth 100000 in
set_option maxHeartbeats 4000000 in
theorem dsame_len (v u : Value) (L R : List (List UInt8)) (w : World) (hv : ArgRows w v L) (hu : ArgRows w u R) (hne : L.length ≠ R.length) :
    Calls Tryz.prog 32 #[v, u] w fun e w' => e = .returned (.bool false) ∧ w = w' := by
  obtain ⟨A, c, xs, rfl, _⟩ := hv
  obtain ⟨B, d, ys, rfl, _⟩ := hu
  have hd : ((L.length : Int) == (R.length : Int)) = false := by simp; omega
  clear hne
  go_enter Tryz.func32, Tryz.ntmps32
  go_wp2
  go_ret
  exact ⟨rfl, rfl⟩

theorem drewN_no (w : World) (n : Nat) : Kp No w (w.drewN n) := (Kp.refl _ _).drewN n
set_option maxRecDepth 100000 in
set_option maxHeartbeats 4000000 in
theorem dsame_any (v u : Value) (L R : List (List UInt8)) (w : World) (hv : ArgRows w v L) (hu : ArgRows w u R) (hlen : L.length = R.length) (hmx : L.length ≤ 140737488355328) :
    Calls Tryz.prog 32 #[v, u] w fun e w' => e = .returned (.bool (decide (L = R))) ∧ ∃ n, w' = w.drewN n := by
  obtain ⟨A, c, xs, rfl, hxl, hxs, hx⟩ := hv
  obtain ⟨B, d, ys, rfl, hyl, hys, hy⟩ := hu
  have hd : ((L.length : Int) == (R.length : Int)) = true := by simp; omega
  have HL := Lib.hid hlen
  have hle : L.length ≤ R.length := by omega
  clear hlen
  go_enter Tryz.func32, Tryz.ntmps32
  go_wp2
  go_loopw [5] (fun i wr => ∃ k : Nat, k ≤ L.length ∧ i = .int .i64 k ∧ L.take k = R.take k ∧ ∃ n, wr = w.drewN n) (fun i _ => L.length - (intOf i).toNat)
  case atStart => exact ⟨0, Nat.zero_le _, rfl, by simp, 0, rfl⟩
  case round =>
    obtain ⟨k, hk, rfl, heq, n, rfl⟩ := hrel
    have HE := Lib.hid heq; clear heq
    by_cases hlt : k < L.length
    · have hlt2 : k < R.length := by omega
      obtain ⟨x, hx1, hx2⟩ := hx k hlt
      obtain ⟨y, hy1, hy2⟩ := hy k hlt2
      obtain ⟨g, o, rfl, hcx⟩ := hxs.get hx1
      obtain ⟨g', o', rfl, hcy⟩ := hys.get hy1
      have sx : ∀ m, (convert 69 9 x).run Tryz.prog (w.drewN m) = .ok (.string ⟨L[k].toArray⟩) (w.drewN m) := fun m => (hx2.no (drewN_no w m)).str 69 5 9 Tryz.underlying69 Tryz.underlying5 Tryz.underlying9
      have sy : ∀ m, (convert 69 9 y).run Tryz.prog (w.drewN m) = .ok (.string ⟨R[k].toArray⟩) (w.drewN m) := fun m => (hy2.no (drewN_no w m)).str 69 5 9 Tryz.underlying69 Tryz.underlying5 Tryz.underlying9
      have hik : (k : Int) < (L.length : Int) := by omega
      have hik2 : (k : Int) < (R.length : Int) := by omega
      have hi0 : (0 : Int) ≤ (k : Int) := by omega
      have HX : Hid (L[k] :: L.drop (k + 1) = L.drop k ∧ R[k] :: R.drop (k + 1) = R.drop k) := ⟨by simp, by simp⟩
      generalize hl : L[k] = l at *
      generalize hr : R[k] = r at *
      have HLk := Lib.hid hl; clear hl
      have HRk := Lib.hid hr; clear hr
      clear hx hy hx1 hy1 hx2 hy2 hxs hys
      by_cases hlr : (l == r) = true
      · go_wp2
        go_quiet (fail)
        go_wp2
        go_roundw
        case rel =>
          refine ⟨k + 1, by omega, by go_num, ?_, _, rfl⟩
          rw [List.take_add_one, List.take_add_one, List.getElem?_eq_getElem hlt, List.getElem?_eq_getElem hlt2, HE.out, HLk.out, HRk.out, eq_of_beq hlr]
        case measure => simp [intOf]; omega
      · have hlr' : (l == r) = false := by simpa using hlr
        clear hlr
        go_wp2
        go_quiet (fail)
        go_wp2
        go_ret
        refine ⟨?_, _, World.drewN_drewN w n _⟩
        have : L ≠ R := by
          rintro rfl
          rw [← HLk.out, ← HRk.out] at hlr'
          simp at hlr'
        simp [this]
    · go_wp2
      go_ret
      have hk' : k = L.length := by omega
      refine ⟨?_, n, rfl⟩
      have h1 := HE.out
      rw [hk', List.take_length, HL.out, List.take_length] at h1
      simp [h1]

/-- a reference disk in memory -/
structure RD (w : World) (B b : Nat) (v : Value) (L : List (List UInt8)) (wr ar : Int) (off : Bool) : Prop where
  st : Bk w b 65 (rdCells v wr ar off)
  ro : RowsOf w B v L 5
  lo : B ≤ b
theorem RD.no {w w' : World} {B b : Nat} {v : Value} {L : List (List UInt8)} {wr ar : Int} {off : Bool} (h : RD w B b v L wr ar off) (hk : Kp No w w') : RD w' B b v L wr ar off := ⟨h.st.no hk, h.ro.no hk, h.lo⟩
theorem RD.kp {w w' : World} {B b : Nat} {v : Value} {L : List (List UInt8)} {wr ar : Int} {off : Bool} {M : Nat → Prop} (h : RD w B b v L wr ar off) (hk : Kp M w w')
    (hM : ∀ g cs, B ≤ g → (Bk w g 69 cs ∨ Bk w g 5 cs ∨ Bk w g 65 cs) → ¬ M g) : RD w' B b v L wr ar off :=
  ⟨h.st.kp hk (hM b _ h.lo (.inr (.inr h.st))), h.ro.kp hk fun g cs hB hg => hM g cs hB (hg.elim .inl fun h => .inr (.inl h)), h.lo⟩

set_option maxRecDepth 100000 in
set_option maxHeartbeats 4000000 in
theorem rarm_any (b : Nat) (k : Int) (w : World) (v : Value) (wr ar : Int) (off : Bool) (h : Bk w b 65 (rdCells v wr ar off)) :
    Calls Tryz.prog 29 #[.pointer (some ⟨b, 0, none⟩), .int .i64 k] w fun e w' => e = .returned (.tuple #[]) ∧ Bk w' b 65 (rdCells v wr (max k (-1)) off) ∧ Kp (One b) w w' := by
  have hmx : ∀ W, (Builtin.max_ #[3, 3] 3 #[.int .i64 k, .int .i64 (-1)]).run Tryz.prog W = .ok (.int .i64 (max k (-1))) W := by
    intro W
    have : max k (-1) = if -1 > k then -1 else k := by split <;> omega
    rw [this]; rfl
  have h2 : w.cell? ⟨b, 2, none⟩ = some (.int .i64 ar) := h.cell 2
  have f2 := h.frozen 2
  have hh := Lib.hid h; clear h
  go_enter Tryz.func29, Tryz.ntmps29
  go_wp2
  go_end0
  exact ⟨rfl, hh.out.set_ 2 _, (Kp.refl _ _).set (.inl (One.self _)) _ _⟩
set_option maxRecDepth 100000 in
set_option maxHeartbeats 4000000 in
theorem ron_any (b : Nat) (w : World) (v : Value) (wr ar : Int) (off : Bool) (h : Bk w b 65 (rdCells v wr ar off)) :
    Calls Tryz.prog 30 #[.pointer (some ⟨b, 0, none⟩)] w fun e w' => e = .returned (.tuple #[]) ∧ Bk w' b 65 (rdCells v wr ar false) ∧ Kp (One b) w w' := by
  have h2 : w.cell? ⟨b, 3, none⟩ = some (.bool off) := h.cell 3
  have f2 := h.frozen 3
  have hh := Lib.hid h; clear h
  go_enter Tryz.func30, Tryz.ntmps30
  go_wp2
  go_end0
  exact ⟨rfl, hh.out.set_ 3 _, (Kp.refl _ _).set (.inl (One.self _)) _ _⟩
theorem u8s_val (l : List UInt8) : ∀ v ∈ u8s l, ∃ c : UInt8, v = .int .u8 (c.toNat : Int) := by
  intro v hv; simp only [u8s, List.mem_map] at hv; obtain ⟨c, _, rfl⟩ := hv; exact ⟨c, rfl⟩
end Go.Proofs.YtlgbmkdeamgpkaaGreatDoor

/- The document's disk by contract: Write. No condition beyond what each theorem states. -/
namespace Go.Proofs.YtlgbmkdeamgpkaaGreatDoor
open Go.RowKit

set_option maxRecDepth 100000 in
set_option maxHeartbeats 4000000 in
theorem rwrite_off (b : Nat) (i : Int) (x : Value) (w : World) (v : Value) (wr ar : Int) (h : Bk w b 65 (rdCells v wr ar true)) :
    Calls Tryz.prog 53 #[.pointer (some ⟨b, 0, none⟩), .int .i64 i, x] w fun e w' => e = .returned (.int .i64 40) ∧ w = w' := by
  have h2 : w.cell? ⟨b, 3, none⟩ = some (.bool true) := h.cell 3
  clear h
  go_enter Tryz.func53, Tryz.ntmps53
  go_wp2
  go_ret
  exact ⟨rfl, rfl⟩
set_option maxRecDepth 100000 in
set_option maxHeartbeats 4000000 in
theorem rwrite_bad (b : Nat) (i : Int) (C : Option Addr) (m k : Nat) (w : World) (A : Option Addr) (n c : Nat) (wr ar : Int) (h : Bk w b 65 (rdCells (.slice A n c) wr ar false)) (hi : ¬ (0 ≤ i ∧ i < n) ∨ m ≠ 64) :
    Calls Tryz.prog 53 #[.pointer (some ⟨b, 0, none⟩), .int .i64 i, .slice C m k] w fun e w' => e = .returned (.int .i64 2) ∧ w = w' := by
  have h2 : w.cell? ⟨b, 3, none⟩ = some (.bool false) := h.cell 3
  have h0 : w.cell? ⟨b, 0, none⟩ = some (.slice A n c) := h.cell 0
  clear h
  go_enter Tryz.func53, Tryz.ntmps53
  by_cases h1 : i < 0
  · clear hi
    go_wp2
    go_ret
    exact ⟨rfl, rfl⟩
  · have h4 : (0 : Int) ≤ i := by omega
    by_cases h5 : i < n
    · have h3 : ((m : Int) != 64) = true := by
        have : m ≠ 64 := by omega
        simp; omega
      clear hi h1
      go_wp2
      go_ret
      exact ⟨rfl, rfl⟩
    · have h6 : (n : Int) ≤ i := by omega
      clear hi h1 h5
      go_wp2
      go_ret
      exact ⟨rfl, rfl⟩
set_option maxRecDepth 100000 in
set_option maxHeartbeats 4000000 in
theorem rwrite_cut (b : Nat) (i : Nat) (C : Option Addr) (k : Nat) (w : World) (A : Option Addr) (n c : Nat) (wr : Int) (h : Bk w b 65 (rdCells (.slice A n c) wr 0 false)) (hi : i < n) :
    Calls Tryz.prog 53 #[.pointer (some ⟨b, 0, none⟩), .int .i64 i, .slice C 64 k] w fun e w' => e = .returned (.int .i64 40) ∧ Bk w' b 65 (rdCells (.slice A n c) wr (-1) true) ∧ Kp (One b) w w' := by
  have h2 : w.cell? ⟨b, 3, none⟩ = some (.bool false) := h.cell 3
  have h3 : w.cell? ⟨b, 2, none⟩ = some (.int .i64 0) := h.cell 2
  have h0 : w.cell? ⟨b, 0, none⟩ = some (.slice A n c) := h.cell 0
  have f2 := h.frozen 2
  have f3 := h.frozen 3
  have hi0 : (0 : Int) ≤ (i : Int) := by omega
  have hi1 : (i : Int) < (n : Int) := by omega
  have hh := Lib.hid h; clear h
  go_enter Tryz.func53, Tryz.ntmps53
  go_wp2
  go_ret
  exact ⟨rfl, (hh.out.set_ 3 _).set_ 2 _, ((Kp.refl _ _).set (.inl (One.self _)) _ _).set (.inl (One.self _)) _ _⟩

/-- a row of the list is taken by another -/
theorem RowsOf.set {w w1 : World} {B gv cap : Nat} {L : List (List UInt8)} {t : TypeId} {x : Value} {l : List UInt8} (h : RowsOf w B (.slice (some ⟨gv, 0, none⟩) L.length cap) L t) (hk : Kp No w w1) (hB : B ≤ w.heap.size)
    (hx : ByteRow w1 w.heap.size Option.none t x l) (i : Nat) (hi : i < L.length) (ht : t ≠ 69) :
    RowsOf (w1.setCell ⟨gv, i, none⟩ x) B (.slice (some ⟨gv, 0, none⟩) L.length cap) (L.set i l) t := by
  obtain ⟨xs, hown, hrows⟩ := h.no hk
  have hxl : xs.length = L.length := by have := hown.1; omega
  have hst := (hown.stored i x).1
  obtain ⟨hgB, cs, hcs⟩ := own_bkD (h.ex.choose_spec.1) rfl
  have hcs1 := hcs.no hk
  refine ⟨xs.set i x, by rw [List.length_set]; exact hst, fun j hj => ?_⟩
  rw [List.length_set] at hj
  by_cases hji : j = i
  · subst hji
    refine ⟨x, by rw [List.getElem?_set_self (by omega)], ?_⟩
    rw [List.getElem_set_self]
    obtain ⟨g, c, sp, e, hc, hb, ha, hbk⟩ := hx
    have hne : gv ≠ g := fun e => hbk.ne_ hcs1 ht e.symm
    exact ⟨g, c, sp, e, hc, by omega, by simpa [Value.ownBlock] using hne, hbk.far (p := ⟨gv, j, none⟩) (Ne.symm hne) x⟩
  · obtain ⟨y, hy, hr⟩ := hrows j hj
    refine ⟨y, by rw [List.getElem?_set_ne (Ne.symm hji)]; exact hy, ?_⟩
    rw [List.getElem_set_ne (Ne.symm hji)]
    exact hr.keep (M := One gv) ((Kp.refl _ _).set (.inl (One.self _)) _ _) (fun g _ _ h => ⟨fun m => h (by rw [m]; rfl), h⟩)

set_option maxRecDepth 100000 in
set_option maxHeartbeats 4000000 in
theorem rwrite_free (B b : Nat) (i : Nat) (g o k : Nat) (l : List UInt8) (w : World) (v : Value) (L : List (List UInt8)) (wr ar : Int) (h : RD w B b v L wr ar false) (hi : i < L.length)
    (hl : l.length = 64) (hr : w.rangeAt g o (u8s l)) (ha : ar < 0) (w0 : 0 ≤ wr) (w1 : wr < 4611686018427387904) (hB : B ≤ w.heap.size) :
    Calls Tryz.prog 53 #[.pointer (some ⟨b, 0, none⟩), .int .i64 i, .slice (some ⟨g, o, none⟩) 64 k] w fun e w' => e = .returned (.int .i64 0) ∧ RD w' B b v (L.set i l) (wr + 1) ar false ∧ Kp (fun q => q = b ∨ v.ownBlock = some q) w w' := by
  have h2 : w.cell? ⟨b, 3, none⟩ = some (.bool false) := h.st.cell 3
  have h3 : w.cell? ⟨b, 2, none⟩ = some (.int .i64 ar) := h.st.cell 2
  have h0 : w.cell? ⟨b, 0, none⟩ = some v := h.st.cell 0
  obtain ⟨xs, hown, hrows⟩ := h.ro
  have hxl : xs.length = L.length := by have := hown.1; omega
  rcases hown.2 with ⟨_, hbad⟩ | ⟨gv, cap, cur, rfl, hgB, hh, hnc, hcm, hcs, htk⟩
  · omega
  have hst := Lib.hid h.st
  have hro := Lib.hid h.ro
  have hlo := h.lo
  have hgv : Bk w gv 69 cur.toList := by unfold Bk; simpa using hh
  have hbg : b ≠ gv := hst.out.ne_ hgv (by decide)
  have hd0 : i < cur.toList.length := by simp; omega
  have hdx := List.getElem?_eq_getElem hd0
  have hcop := copied_any (some ⟨g, o, none⟩) k (u8s l) w.drew (by rw [u8s_length, hl]; omega) (u8s_val l) (fun _ => ⟨g, o, rfl, (World.rangeAt_drew _ _ _ _).2 hr⟩)
  rw [u8s_length, hl] at hcop
  have HC := Lib.hid hcop; clear hcop
  generalize cur.toList[i] = y at hdx
  have hi0 : (0 : Int) ≤ (i : Int) := by omega
  have hi1 : (i : Int) < (L.length : Int) := by omega
  have hk0 : (ar == 0) = false := by simp; omega
  have HG := Lib.hid hgv
  have HDX := Lib.hid hdx
  clear hdx hgv h hown hrows hh hcs htk hr hxl
  go_enter Tryz.func53, Tryz.ntmps53
  go_wp2
  go_region_law ((first | (go_simp; go_at_call 54; refine HC.out.mono ?_; rintro e w2 ⟨g2, rfl, hb2, hg2, hk2⟩; have q0 : w2.cell? ⟨b, 0, none⟩ = some (.slice (some ⟨gv, 0, none⟩) L.length cap) := (hst.out.drew.no hk2).cell 0; have q1 : w2.cell? ⟨gv, i, none⟩ = some y := ((HG.out.drew.no hk2).cell i).trans HDX.out; have q2 := (HG.out.drew.no hk2).frozen i)))
  all_goals
    have B1 := (hst.out.drew.no hk2).far (p := ⟨gv, i, none⟩) hbg (.slice (some ⟨g2, 0, none⟩) 64 64)
    have R1 := (hro.out.no (Kp.refl No w).drew).set (x := .slice (some ⟨g2, 0, none⟩) 64 64) (l := l) hk2 hB ⟨g2, 64, [], by rw [hl], by omega, hg2, by simp, by rw [List.append_nil]; exact hb2⟩ i hi (by decide)
    have K1 : Kp (fun q => q = b ∨ gv = q) w (w2.setCell ⟨gv, i, none⟩ (.slice (some ⟨g2, 0, none⟩) 64 64)) := ((Kp.refl No w).drew.trans hk2).of_no.set (.inl (.inr rfl)) _ _
    clear q0 q1 q2 hb2 hg2 hk2
    generalize w2.setCell ⟨gv, i, none⟩ (.slice (some ⟨g2, 0, none⟩) 64 64) = w3 at *
    have c1 : w3.cell? ⟨b, 1, none⟩ = some (.int .i64 wr) := B1.cell 1
    have f1 := B1.frozen 1
    go_wp2
    go_ret
    exact ⟨rfl, ⟨B1.set_ 1 _, by have := R1.far B1 (by decide) (by decide) 1 (.int .i64 (wr + 1)); exact this, hlo⟩, (K1.set (.inl (.inl rfl)) _ _).mono (fun q _ h => h.elim .inl fun e => .inr (by rw [e]; rfl))⟩
set_option maxRecDepth 100000 in
set_option maxHeartbeats 4000000 in
theorem rwrite_armed (B b : Nat) (i : Nat) (g o k : Nat) (l : List UInt8) (w : World) (v : Value) (L : List (List UInt8)) (wr ar : Int) (h : RD w B b v L wr ar false) (hi : i < L.length)
    (hl : l.length = 64) (hr : w.rangeAt g o (u8s l)) (ha : 0 < ar) (ha2 : ar < 9223372036854775808) (hgb : g ≠ b) (w0 : 0 ≤ wr) (w1 : wr < 4611686018427387904) (hB : B ≤ w.heap.size) :
    Calls Tryz.prog 53 #[.pointer (some ⟨b, 0, none⟩), .int .i64 i, .slice (some ⟨g, o, none⟩) 64 k] w fun e w' => e = .returned (.int .i64 0) ∧ RD w' B b v (L.set i l) (wr + 1) (ar - 1) false ∧ Kp (fun q => q = b ∨ v.ownBlock = some q) w w' := by
  have h2 : w.cell? ⟨b, 3, none⟩ = some (.bool false) := h.st.cell 3
  have h3 : w.cell? ⟨b, 2, none⟩ = some (.int .i64 ar) := h.st.cell 2
  have h0 : w.cell? ⟨b, 0, none⟩ = some v := h.st.cell 0
  obtain ⟨xs, hown, hrows⟩ := h.ro
  have hxl : xs.length = L.length := by have := hown.1; omega
  rcases hown.2 with ⟨_, hbad⟩ | ⟨gv, cap, cur, rfl, hgB, hh, hnc, hcm, hcs, htk⟩
  · omega
  have f3 := h.st.frozen 2
  have hst0 := Lib.hid h.st
  have hro0 := Lib.hid h.ro
  have hlo := h.lo
  have hgv : Bk w gv 69 cur.toList := by unfold Bk; simpa using hh
  have hbg : b ≠ gv := hst0.out.ne_ hgv (by decide)
  have hd0 : i < cur.toList.length := by simp; omega
  have hdx := List.getElem?_eq_getElem hd0
  have hcop : ∀ u, _ := fun u => copied_any (some ⟨g, o, none⟩) k (u8s l) (w.setCell ⟨b, 2, none⟩ u).drew (by rw [u8s_length, hl]; omega) (u8s_val l) (fun _ => ⟨g, o, rfl, (World.rangeAt_drew _ _ _ _).2 (fun j v hv => by rw [World.cell?_setCell_other _ _ _ _ (by intro e; injection e with e; exact hgb e.symm)]; exact hr j v hv)⟩)
  rw [u8s_length, hl] at hcop
  generalize cur.toList[i] = y at hdx
  have hi0 : (0 : Int) ≤ (i : Int) := by omega
  have hi1 : (i : Int) < (L.length : Int) := by omega
  have hk0 : (ar == 0) = false := by simp; omega
  have HG0 := Lib.hid hgv
  have HDX := Lib.hid hdx
  clear hdx hgv h hown hrows hh hcs htk hr hxl
  have HC0 := Lib.hid hcop; clear hcop
  go_enter Tryz.func53, Tryz.ntmps53
  go_wp2
  have hst := Lib.hid (hst0.out.set_ 2 (.int .i64 (ar - 1)))
  have hro := Lib.hid (hro0.out.far hst0.out (by decide) (by decide) 2 (.int .i64 (ar - 1)))
  have HG := Lib.hid (HG0.out.far (p := ⟨b, 2, none⟩) (Ne.symm hbg) (.int .i64 (ar - 1)))
  have HC := Lib.hid (HC0.out (.int .i64 (ar - 1)))
  have K0 : Kp (fun q => q = b ∨ gv = q) w (w.setCell ⟨b, 2, none⟩ (.int .i64 (ar - 1))) := (Kp.refl _ _).set (.inl (.inl rfl)) _ _
  have hB1 := Nat.le_trans hB K0.size
  clear h0 h2 h3 f3 hst0 hro0 HG0 HC0
  generalize w.setCell ⟨b, 2, none⟩ (.int .i64 (ar - 1)) = wa at *
  have h0 : wa.cell? ⟨b, 0, none⟩ = some (.slice (some ⟨gv, 0, none⟩) L.length cap) := hst.out.cell 0
  go_region_law ((first | (go_simp; go_at_call 54; refine HC.out.mono ?_; rintro e w2 ⟨g2, rfl, hb2, hg2, hk2⟩; have q0 : w2.cell? ⟨b, 0, none⟩ = some (.slice (some ⟨gv, 0, none⟩) L.length cap) := (hst.out.drew.no hk2).cell 0; have q1 : w2.cell? ⟨gv, i, none⟩ = some y := ((HG.out.drew.no hk2).cell i).trans HDX.out; have q2 := (HG.out.drew.no hk2).frozen i)))
  all_goals
    have B1 := (hst.out.drew.no hk2).far (p := ⟨gv, i, none⟩) hbg (.slice (some ⟨g2, 0, none⟩) 64 64)
    have R1 := (hro.out.no (Kp.refl No wa).drew).set (x := .slice (some ⟨g2, 0, none⟩) 64 64) (l := l) hk2 hB1 ⟨g2, 64, [], by rw [hl], by omega, hg2, by simp, by rw [List.append_nil]; exact hb2⟩ i hi (by decide)
    have K1 : Kp (fun q => q = b ∨ gv = q) w (w2.setCell ⟨gv, i, none⟩ (.slice (some ⟨g2, 0, none⟩) 64 64)) := (K0.trans ((Kp.refl No wa).drew.trans hk2).of_no).set (.inl (.inr rfl)) _ _
    clear q0 q1 q2 hb2 hg2 hk2
    generalize w2.setCell ⟨gv, i, none⟩ (.slice (some ⟨g2, 0, none⟩) 64 64) = w3 at *
    have c1 : w3.cell? ⟨b, 1, none⟩ = some (.int .i64 wr) := B1.cell 1
    have f1 := B1.frozen 1
    go_wp2
    go_ret
    exact ⟨rfl, ⟨B1.set_ 1 _, by have := R1.far B1 (by decide) (by decide) 1 (.int .i64 (wr + 1)); exact this, hlo⟩, (K1.set (.inl (.inl rfl)) _ _).mono (fun q _ h => h.elim .inl fun e => .inr (by rw [e]; rfl))⟩
end Go.Proofs.YtlgbmkdeamgpkaaGreatDoor
