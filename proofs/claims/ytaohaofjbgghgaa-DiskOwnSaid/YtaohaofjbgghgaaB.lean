/- The contracts of the reference's copied, the law's filled, the disk's Read and Image. No condition beyond what each theorem states. -/
import Derived.Test.YtaohaofjbgghgaaA
namespace Go.Proofs.Ytaohaofjbgghgaa
open Go.RowKit

theorem Try.info5 : (Try.prog.info? 5).map (fun i => (i.zero, i.size, i.bytes)) = some (some (.int .u8 0), 1, 1) := by kernel_rfl
theorem mk_bytes (n : Nat) (hn : n ≤ 140737488355328) (w : World) :
    (Instr.makeSlice 33 (.int .i64 (n : Int)) (.int .i64 (n : Int))).run Try.prog w = .ok (.slice (some ⟨w.heap.size, 0, none⟩) n n) (w.alloc (.cells (List.replicate n (.int .u8 0)).toArray 5)) := by
  obtain ⟨i0, hi, hz0, hz1, hz2⟩ := info_parts Try.info5
  have := mk_run (P := Try.prog) 33 5 i0 _ Try.underlying33 hi hz0 1 (.int .u8 0) (by omega) (by rfl) n (by rw [hz2]; omega) (by omega) w
  rw [hz1, Nat.mul_one] at this
  exact this

theorem upto_set {α : Type} (xs : List α) (z : α) (k : Nat) (hk : k < xs.length) : (xs.take k ++ List.replicate (xs.length - k) z).set k xs[k] = xs.take (k + 1) ++ List.replicate (xs.length - (k + 1)) z := by
  rw [List.set_append_right _ _ (by simp; omega), List.take_add_one, List.getElem?_eq_getElem hk, List.append_assoc]
  congr 1
  have : xs.length - k = (xs.length - (k + 1)) + 1 := by omega
  rw [this, List.replicate_succ, show k - (List.take k xs).length = 0 by simp; omega]
  rfl

set_option maxHeartbeats 1000000 in
theorem copied_any (A : Option Addr) (c : Nat) (xs : List Value) (w : World) (hn : xs.length ≤ 140737488355328) (h1 : ∀ v ∈ xs, ∃ c : UInt8, v = .int .u8 (c.toNat : Int))
    (hr : xs ≠ [] → ∃ g o, A = some ⟨g, o, none⟩ ∧ w.rangeAt g o xs) :
    Calls Try.prog 29 #[.slice A xs.length c] w fun e w' => ∃ g, e = .returned (.slice (some ⟨g, 0, none⟩) xs.length xs.length) ∧ Bk w' g 5 xs ∧ w.heap.size ≤ g ∧ Kp No w w' := by
  have hmk := fun W => mk_bytes xs.length hn W
  go_enter Try.func29, Try.ntmps29
  go_wp2
  go_loopw [4] (fun i wr => ∃ k : Nat, k ≤ xs.length ∧ i = .int .i64 k ∧ Bk wr w.heap.size 5 (xs.take k ++ List.replicate (xs.length - k) (.int .u8 0)) ∧ Kp No w wr) (fun i _ => xs.length - (intOf i).toNat)
  case atStart => exact ⟨0, Nat.zero_le _, rfl, Bk.new' rfl (by simp), (Kp.refl _ _).alloc _⟩
  case round =>
    obtain ⟨k, hk, rfl, hb, hkp⟩ := hrel
    by_cases hlt : k < xs.length
    · obtain ⟨g, o, rfl, hra⟩ := hr (by intro e; subst e; simp at hlt)
      have hgb : g < w.heap.size := World.block_lt_of_cell? w _ (hra k _ (List.getElem?_eq_getElem hlt))
      have hc0 : w.cell? ⟨g, o + k, none⟩ = some xs[k] := hra k _ (List.getElem?_eq_getElem hlt)
      obtain ⟨cc, hcc⟩ := h1 xs[k] (List.getElem_mem hlt)
      have hs := upto_set xs (.int .u8 0) k hlt
      rw [hcc] at hc0 hs
      have hc : wr.cell? ⟨g, o + k, none⟩ = some (.int .u8 (cc.toNat : Int)) := by rw [World.cell?_of_block (w := w) (hkp.block g hgb (fun m => m))]; exact hc0
      have hd : wr.cell? ⟨w.heap.size, k, none⟩ = some (.int .u8 0) := by
        rw [hb.cell, List.getElem?_append_right (by simp; omega), List.getElem?_replicate]; simp; omega
      have hf := hb.frozen k
      have HS := Lib.hid hs
      clear hs hc0 hcc
      go_wp2
      all_goals
        go_roundw
        case rel => exact ⟨k + 1, by omega, by go_num, by rw [← HS.out]; exact hb.set_ k _, hkp.set (.inr (by omega)) _ _⟩
        case measure => simp [intOf]; omega
    · have hk' : k = xs.length := by omega
      subst hk'
      go_wp2
      go_ret
      exact ⟨w.heap.size, rfl, by simpa using hb, by omega, hkp⟩

/-- the bytes that 'filled' makes -/
def fillN (n : Int) : Nat := (min (max n 0) 100).toNat
def fillB (f : UInt8) (m : Nat) : List UInt8 := (List.range m).map fun i => f + UInt8.ofNat i

theorem fillB_cells (f : UInt8) (m : Nat) : u8s (fillB f m) = (List.range m).map (fun i => .int .u8 ((f + UInt8.ofNat i).toNat : Int)) := by
  simp only [fillB, u8s, List.map_map]; rfl
theorem upto_new {α : Type} (f : Nat → α) (z : α) (m k : Nat) (hk : k < m) : ((List.range k).map f ++ List.replicate (m - k) z).set k (f k) = (List.range (k + 1)).map f ++ List.replicate (m - (k + 1)) z := by
  rw [List.set_append_right _ _ (by simp), List.range_succ, List.map_append, List.append_assoc]
  congr 1
  have : m - k = (m - (k + 1)) + 1 := by omega
  rw [this, List.replicate_succ]
  simp

theorem u8_add (f : UInt8) (i : Nat) : IntKind.u8.wrap ((f.toNat : Int) + (i : Int)) = ((f + UInt8.ofNat i).toNat : Int) := by
  simp [IntKind.wrap, IntKind.bits, IntKind.signed, UInt8.toNat_add]
set_option maxHeartbeats 1000000 in
theorem filled_any (f : UInt8) (n : Int) (w : World) :
    Calls Try.prog 20 #[.int .u8 (f.toNat : Int), .int .i64 n] w fun e w' => ∃ g, e = .returned (.slice (some ⟨g, 0, none⟩) (fillN n) (fillN n)) ∧ Bk w' g 5 (u8s (fillB f (fillN n))) ∧ w.heap.size ≤ g ∧ Kp No w w' := by
  have hm : fillN n ≤ 100 := by unfold fillN; omega
  have hmm : min (max n 0) 100 = (fillN n : Int) := by unfold fillN; omega
  have hmk := fun W => mk_bytes (fillN n) (by omega) W
  generalize fillN n = m at *
  have hfb : 0 ≤ (f.toNat : Int) ∧ (f.toNat : Int) < 256 := by have := f.toNat_lt; omega
  have hmx : ∀ W, (Builtin.max_ #[3, 3] 3 #[.int .i64 n, .int .i64 0]).run Try.prog W = .ok (.int .i64 (max n 0)) W := by
    intro W
    have : max n 0 = if 0 > n then 0 else n := by split <;> omega
    rw [this]; rfl
  have hmn : ∀ W, (Builtin.min_ #[3, 3] 3 #[.int .i64 (max n 0), .int .i64 100]).run Try.prog W = .ok (.int .i64 (m : Int)) W := by
    intro W
    rw [← hmm]
    have : min (max n 0) 100 = if 100 < max n 0 then 100 else max n 0 := by split <;> omega
    rw [this]; rfl
  clear hmm
  go_enter Try.func20, Try.ntmps20
  go_wp2
  go_loopw [13, 6] (fun i _ wr => ∃ k : Nat, k ≤ m ∧ i = .int .i64 k ∧ Bk wr w.heap.size 5 ((List.range k).map (fun i => .int .u8 ((f + UInt8.ofNat i).toNat : Int)) ++ List.replicate (m - k) (.int .u8 0)) ∧ Kp No w wr) (fun i _ _ => m - (intOf i).toNat)
  case atStart => exact ⟨0, Nat.zero_le _, rfl, Bk.new' rfl (by simp), (Kp.refl _ _).alloc _⟩
  case round =>
    obtain ⟨k, hk, rfl, hb, hkp⟩ := hrel
    by_cases hlt : k < m
    · have hd : wr.cell? ⟨w.heap.size, k, none⟩ = some (.int .u8 0) := by
        rw [hb.cell, List.getElem?_append_right (by simp), List.getElem?_replicate]; simp; omega
      have hf := hb.frozen k
      have HS := Lib.hid (upto_new (fun i => Value.int .u8 ((f + UInt8.ofNat i).toNat : Int)) (.int .u8 0) m k hlt)
      have HA := Lib.hid (u8_add f k)
      go_wp2
      all_goals
        go_roundw
        case rel => exact ⟨k + 1, by omega, by go_num, by rw [← HS.out, ← HA.out]; exact hb.set_ k _, hkp.set (.inr (by omega)) _ _⟩
        case measure => simp [intOf]; omega
    · have hk' : k = m := by omega
      subst hk'
      go_wp2
      go_ret
      exact ⟨w.heap.size, rfl, by rw [fillB_cells]; simpa only [Nat.sub_self, List.replicate_zero, List.append_nil] using hb, by omega, hkp⟩

theorem store_new61 (w : World) (xs : List Value) (hl : xs.length = 64) (h1 : ∀ v ∈ xs, v.oneCell' = true) :
    Sem.run Try.prog (storeCells ⟨w.heap.size, 0, none⟩ xs) (w.alloc (.cells #[(.int .u8 0), (.int .u8 0), (.int .u8 0), (.int .u8 0), (.int .u8 0), (.int .u8 0), (.int .u8 0), (.int .u8 0), (.int .u8 0), (.int .u8 0), (.int .u8 0), (.int .u8 0), (.int .u8 0), (.int .u8 0), (.int .u8 0), (.int .u8 0), (.int .u8 0), (.int .u8 0), (.int .u8 0), (.int .u8 0), (.int .u8 0), (.int .u8 0), (.int .u8 0), (.int .u8 0), (.int .u8 0), (.int .u8 0), (.int .u8 0), (.int .u8 0), (.int .u8 0), (.int .u8 0), (.int .u8 0), (.int .u8 0), (.int .u8 0), (.int .u8 0), (.int .u8 0), (.int .u8 0), (.int .u8 0), (.int .u8 0), (.int .u8 0), (.int .u8 0), (.int .u8 0), (.int .u8 0), (.int .u8 0), (.int .u8 0), (.int .u8 0), (.int .u8 0), (.int .u8 0), (.int .u8 0), (.int .u8 0), (.int .u8 0), (.int .u8 0), (.int .u8 0), (.int .u8 0), (.int .u8 0), (.int .u8 0), (.int .u8 0), (.int .u8 0), (.int .u8 0), (.int .u8 0), (.int .u8 0), (.int .u8 0), (.int .u8 0), (.int .u8 0), (.int .u8 0)] 61)) = .ok () (w.alloc (.cells xs.toArray 61)) := by
  have h := run_storeCells_at Try.prog w.heap.size 0 61 xs 0 (List.replicate 64 (.int .u8 0)).toArray (w.alloc (.cells (List.replicate 64 (.int .u8 0)).toArray 61)) (heap_alloc_new w _) (by simp; omega) h1
  rw [setRow_alloc] at h
  simp only [Nat.zero_add, List.take_zero, List.nil_append, hl, List.toList_toArray, List.drop_replicate, Nat.sub_self, List.replicate_zero, List.append_nil] at h
  exact h
set_option maxHeartbeats 1000000 in
theorem read_fault (b : Nat) (i : Int) (w : World) (A : Option Addr) (n c : Nat) (wr : Int) (ar : Bool) (lf : Int) (off : Bool) (h : Bk w b 58 (dkCells (.slice A n c) wr ar lf off)) (hf : faultN off i n ≠ 0) :
    Calls Try.prog 11 #[.pointer (some ⟨b, 0, none⟩), .int .i64 i] w fun e w' => e = .returned (.tuple #[.slice none 0 0, .int .i64 (faultN off i n)]) ∧ w = w' := by
  have hd : (faultN off i n == 0) = false := by simpa using hf
  clear hf
  go_enter Try.func11, Try.ntmps11
  go_wp2_with (go_at_call 28; refine (fault_any b i _ A n c wr ar lf off h).mono ?_; rintro e w' ⟨rfl, rfl⟩)
  go_ret2
  exact ⟨rfl, rfl⟩
set_option maxHeartbeats 1000000 in
theorem read_nil (i : Int) (w : World) :
    Calls Try.prog 11 #[.pointer none, .int .i64 i] w fun e w' => e = .returned (.tuple #[.slice none 0 0, .int .i64 1]) ∧ w = w' := by
  go_enter Try.func11, Try.ntmps11
  go_wp2_with (go_at_call 28; refine (fault_nil i _).mono ?_; rintro e w' ⟨rfl, rfl⟩)
  go_ret2
  exact ⟨rfl, rfl⟩
set_option maxHeartbeats 1000000 in
theorem read_any (b sb cap : Nat) (i : Nat) (w : World) (L : List (List UInt8)) (wr : Int) (ar : Bool) (lf : Int) (h : Dk w b sb cap L wr ar lf false) (hi : i < L.length) :
    Calls Try.prog 11 #[.pointer (some ⟨b, 0, none⟩), .int .i64 i] w fun e w' => ∃ g, e = .returned (.tuple #[.slice (some ⟨g, 0, none⟩) 64 64, .int .i64 0]) ∧ Bk w' g 61 (u8s L[i]) ∧ w.heap.size ≤ g ∧ Kp No w w' := by
  have hf : faultN false i L.length = 0 := by simp [faultN]; omega
  have Hf := Lib.hid hf; clear hf
  have hst := h.st
  have h0 : w.cell? ⟨b, 0, none⟩ = some (.slice (some ⟨sb, 0, none⟩) L.length cap) := hst.cell 0
  obtain ⟨sp, hse⟩ := h.se
  have hra := hse.range (64 * i) 64
  rw [secC_get L h.le i hi sp, show 64 * i = i * 64 by omega] at hra
  have hxl : (u8s L[i]).length = 64 := by rw [u8s_length, h.le _ (List.getElem_mem hi)]
  have hx1 := u8s_one L[i]
  generalize u8s L[i] = xs at *
  have hsz : (Try.prog.info? 61).map (·.size) = some xs.length := by rw [hxl]; exact u61
  have hib : (i : Int) < (L.length : Int) := by omega
  have hia : ((0 : Int)) ≤ (i : Int) := by omega
  have hu61 := Try.underlying61
  have hsn := store_new61 w xs hxl hx1
  go_enter Try.func11, Try.ntmps11
  go_wp2_with (first | (go_at_call 28; refine (fault_any b i _ _ _ _ wr ar lf false hst).mono ?_; rw [Hf.out]; rintro e w' ⟨rfl, rfl⟩) | (refine wpList_load_mid rfl 61 _ rfl sb (i * 64) rfl xs _ hra Try.underlying61 rfl hsz ?_))
  go_ret2
  exact ⟨w.heap.size, rfl, Bk.new' rfl rfl, by omega, (Kp.refl _ _).alloc _⟩

/-- one fresh list of bytes: a slice value over the head of a block from B on -/
def ByteRow (w : World) (B : Nat) (av : Option Nat) (t : TypeId) (x : Value) (l : List UInt8) : Prop :=
  ∃ g c sp, x = .slice (some ⟨g, 0, none⟩) l.length c ∧ l.length ≤ c ∧ B ≤ g ∧ av ≠ some g ∧ Bk w g t (u8s l ++ sp)
theorem ByteRow.keep {w w' : World} {B : Nat} {av av' : Option Nat} {t : TypeId} {x : Value} {l : List UInt8} {M : Nat → Prop} (h : ByteRow w B av t x l) (hk : Kp M w w')
    (hm : ∀ g, g < w.heap.size → B ≤ g → av ≠ some g → ¬ M g ∧ av' ≠ some g) : ByteRow w' B av' t x l := by
  obtain ⟨g, c, sp, e, hc, hb, ha, hbk⟩ := h
  obtain ⟨h1, h2⟩ := hm g hbk.lt hb ha
  exact ⟨g, c, sp, e, hc, hb, h2, hbk.kp hk h1⟩
/-- a list of fresh lists of bytes: an own row of slices, the lists of bytes apart from it -/
structure RowsOf (w : World) (B : Nat) (v : Value) (L : List (List UInt8)) (t : TypeId) : Prop where
  ex : ∃ xs : List Value, w.ownsRow B 33 1 v L.length xs ∧ ∀ i (h : i < L.length), ∃ x, xs[i]? = some x ∧ ByteRow w B v.ownBlock t x L[i]
theorem RowsOf.nil (w : World) (B : Nat) (t : TypeId) : RowsOf w B (.slice none 0 0) [] t := ⟨[], World.ownsRow_nil _ _ _ _, by intro i hi; simp at hi⟩
theorem RowsOf.push {wr w2 w1 : World} {B : Nat} {v : Value} {L : List (List UInt8)} {l : List UInt8} {x : Value} {t : TypeId} {xs : List Value}
    (hown : wr.ownsRow B 33 1 v L.length xs) (hrows : ∀ i (h : i < L.length), ∃ x, xs[i]? = some x ∧ ByteRow wr B v.ownBlock t x L[i])
    (h2 : Kp No wr w2) (hx : ByteRow w2 wr.heap.size none t x l) (hB : B ≤ wr.heap.size) {g1 cap1 : Nat} (hown1 : w1.ownsRow B 33 1 (.slice (some ⟨g1, 0, none⟩) (L.length + 1) cap1) (L.length + 1) (xs ++ [x])) (hk1 : Kp (fun k => v.ownBlock = some k) w2 w1)
    (hat : v.ownBlock = some g1 ∨ g1 = w2.heap.size) : RowsOf w1 B (.slice (some ⟨g1, 0, none⟩) (L.length + 1) cap1) (L ++ [l]) t := by
  have hxs : xs.length = L.length := by have := hown.1; omega
  have hav : ∀ g, g < w2.heap.size → v.ownBlock ≠ some g → (Value.slice (some ⟨g1, 0, none⟩) (L.length + 1) cap1).ownBlock ≠ some g := by
    intro g hg hn e'
    have e2 : g1 = g := by simpa [Value.ownBlock] using e'
    rcases hat with e | e
    · rw [e, e2] at hn; exact hn rfl
    · omega
  refine ⟨xs ++ [x], by simpa using hown1, fun i hi => ?_⟩
  by_cases hlt : i < L.length
  · obtain ⟨y, hy, hr⟩ := hrows i hlt
    refine ⟨y, by rw [List.getElem?_append_left (by omega)]; exact hy, ?_⟩
    rw [List.getElem_append_left hlt]
    have hr2 := hr.keep (av' := v.ownBlock) h2 (fun g _ _ h => ⟨fun m => m, h⟩)
    exact hr2.keep hk1 (fun g hg _ h => ⟨h, hav g hg h⟩)
  · have hi' : i = L.length := by simp at hi; omega
    subst hi'
    refine ⟨x, by rw [List.getElem?_append_right (by omega), hxs]; simp, ?_⟩
    simp only [List.getElem_concat_length]
    obtain ⟨g, c, sp, e, hc, hb, ha, hbk⟩ := hx
    have hne : v.ownBlock ≠ some g := by
      intro e; have := hown.lt g e; omega
    exact ⟨g, c, sp, e, hc, by omega, hav g hbk.lt hne, hbk.kp hk1 hne⟩

theorem own_bk {w : World} {base : Nat} {e : TypeId} {size n : Nat} {v : Value} {xs : List Value} {g : Nat} (h : w.ownsRow base e size v n xs) (hg : v.ownBlock = some g) : base ≤ g ∧ ∃ cs, Bk w g e cs := by
  rcases h.2 with ⟨rfl, _⟩ | ⟨g', cap, cur, rfl, hb, hh, _⟩
  · simp [Value.ownBlock] at hg
  · have : g' = g := by simpa [Value.ownBlock] using hg
    subst this
    exact ⟨hb, cur.toList, by unfold Bk; simpa using hh⟩
theorem own_kp {w w' : World} {base : Nat} {e : TypeId} {size n : Nat} {v : Value} {xs : List Value} {M : Nat → Prop} (h : w.ownsRow base e size v n xs) (hk : Kp M w w') (hm : ∀ g, v.ownBlock = some g → ¬ M g) : w'.ownsRow base e size v n xs := by
  refine ⟨h.1, ?_⟩
  rcases h.2 with hn | ⟨g, cap, cur, rfl, hb, hgg, rest⟩
  · exact .inl hn
  · exact .inr ⟨g, cap, cur, rfl, hb, (hk.block g (Array.getElem?_eq_some_iff.1 hgg).1 (hm g rfl)).trans hgg, rest⟩
theorem RowsOf.kp {w w' : World} {B : Nat} {v : Value} {L : List (List UInt8)} {t : TypeId} {M : Nat → Prop} (h : RowsOf w B v L t) (hk : Kp M w w')
    (hM : ∀ g cs, B ≤ g → (Bk w g 33 cs ∨ Bk w g t cs) → ¬ M g) : RowsOf w' B v L t := by
  obtain ⟨xs, hown, hrows⟩ := h
  refine ⟨xs, own_kp hown hk fun g hg => ?_, fun i hi => ?_⟩
  · obtain ⟨hB, cs, hcs⟩ := own_bk hown hg
    exact hM g cs hB (.inl hcs)
  · obtain ⟨x, hx, g, c, sp, e, hc, hb, ha, hbk⟩ := hrows i hi
    exact ⟨x, hx, g, c, sp, e, hc, hb, ha, hbk.kp hk (hM g _ hb (.inr hbk))⟩
theorem RowsOf.no {w w' : World} {B : Nat} {v : Value} {L : List (List UInt8)} {t : TypeId} (h : RowsOf w B v L t) (hk : Kp No w w') : RowsOf w' B v L t := h.kp hk fun _ _ _ _ m => m
/-- a store into a block of another kind -/
theorem RowsOf.far {w : World} {B : Nat} {v : Value} {L : List (List UInt8)} {t : TypeId} {b : Nat} {tb : TypeId} {cs : List Value} (h : RowsOf w B v L t) (hb : Bk w b tb cs) (h1 : tb ≠ 33) (h2 : tb ≠ t) (i : Nat) (u : Value) :
    RowsOf (w.setCell ⟨b, i, none⟩ u) B v L t :=
  h.kp (M := One b) ((Kp.refl _ _).set (.inl (One.self _)) _ _) fun g cs' _ hg m => by
    rcases hg with hg | hg
    · exact (hb.ne_ hg h1) m.symm
    · exact (hb.ne_ hg h2) m.symm

theorem Try.info33 : (Try.prog.info? 33).map (fun i => (i.zero, i.size, i.bytes)) = some (some (.slice none 0 0), 1, 24) := by kernel_rfl
set_option maxHeartbeats 1000000 in
theorem image_any (b sb cap : Nat) (w : World) (L : List (List UInt8)) (wr : Int) (ar : Bool) (lf : Int) (off : Bool) (h : Dk w b sb cap L wr ar lf off) :
    Calls Try.prog 18 #[.pointer (some ⟨b, 0, none⟩)] w fun e w' => ∃ v, e = .returned v ∧ RowsOf w' w.heap.size v L 61 ∧ Kp No w w' := by
  have hst := h.st
  obtain ⟨sp, hse⟩ := h.se
  have hn2 := h.n2
  have hle := h.le
  have hu61 := Try.underlying61
  have hsn := fun (W : World) (xs : List Value) (h1 : xs.length = 64) (h2 : ∀ v ∈ xs, v.oneCell' = true) => store_new61 W xs h1 h2
  go_enter Try.func18, Try.ntmps18
  go_wp2_with (go_at_call 24; refine (len_any b _ _ _ _ wr ar lf off hst).mono ?_; rintro e w' ⟨rfl, rfl⟩)
  go_loopw [8, 4, 5, 3] (fun i _ _ v wr => ∃ k : Nat, k ≤ L.length ∧ i = .int .i64 k ∧ RowsOf wr w.heap.size v (L.take k) 61 ∧ Kp No w wr) (fun i _ _ _ _ => L.length - (intOf i).toNat)
  case atStart => exact ⟨0, Nat.zero_le _, rfl, RowsOf.nil _ _ _, Kp.refl _ _⟩
  case round =>
    obtain ⟨k, hk, rfl, ⟨vs, hown, hrows⟩, hkp⟩ := hrel
    by_cases hlt : k < L.length
    · have hstr := hst.no hkp
      have hser := hse.no hkp
      have h0 : wr.cell? ⟨b, 0, none⟩ = some (.slice (some ⟨sb, 0, none⟩) L.length cap) := hstr.cell 0
      have hra := hser.range (64 * k) 64
      rw [secC_get L hle k hlt sp, show 64 * k = k * 64 by omega] at hra
      have hxl : (u8s L[k]).length = 64 := by rw [u8s_length, hle _ (List.getElem_mem hlt)]
      have hx1 := u8s_one L[k]
      generalize hxs : u8s L[k] = xs at *
      have HX := Lib.hid hxs; clear hxs
      have hsz : (Try.prog.info? 61).map (·.size) = some xs.length := by rw [hxl]; exact u61
      have hsn1 := hsn wr xs hxl hx1
      clear hsn
      have hlen : (L.take k).length = k := by simp; omega
      have hown0 := hown
      rw [hlen] at hown
      have HR := Lib.hid hrows; clear hrows
      have HO := Lib.hid hown0; clear hown0
      have HN := Lib.hid hlen; clear hlen
      go_wp2_with (first | (refine wpList_load_mid rfl 61 _ rfl sb (k * 64) rfl xs _ hra Try.underlying61 rfl hsz ?_) | (at_builtin; refine wpList_app1 _ rfl _ _ _ rfl w.heap.size 33 _ 1 24 Try.underlying40 Try.info33 rfl (by omega) _ k vs rfl ((hown.alloc _).alloc _) _ _ _ rfl (Bk.new' (by simp) rfl) rfl (by simp [Value.oneCell']) (by omega) (by omega) (by simp; have := hkp.size; omega) ?_; intro g1 cap1 w1 hown1 hk1 hat1))
      go_roundw
      case rel =>
        refine ⟨k + 1, by omega, by go_num, ?_, ?_⟩
        · rw [List.take_add_one, List.getElem?_eq_getElem hlt]
          have hpush := RowsOf.push (l := L[k]) (t := 61) (x := .slice (some ⟨wr.heap.size, 0, none⟩) 64 64) HO.out HR.out (((Kp.refl _ _).alloc _).alloc _) ?_ hkp.size (by rw [HN.out]; exact hown1) hk1 hat1
          · rw [HN.out] at hpush
            exact hpush
          refine ⟨wr.heap.size, 64, [], by rw [hle _ (List.getElem_mem hlt)], by rw [hle _ (List.getElem_mem hlt)]; omega, by omega, by simp, ?_⟩
          rw [HX.out, List.append_nil]
          exact Bk.alloc (Bk.new' rfl rfl) _
        · refine ((hkp.alloc _).alloc _).then_ hk1 fun i hi e => ?_
          have := HO.out.lt i e
          omega
      case measure => simp [intOf]; omega
    · have hk' : k = L.length := by omega
      subst hk'
      rw [List.take_length] at hown hrows
      go_wp2
      go_ret
      exact ⟨_, rfl, ⟨vs, hown, hrows⟩, hkp⟩
end Go.Proofs.Ytaohaofjbgghgaa
