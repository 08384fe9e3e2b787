/- Lists of bytes that are only read; the contracts of the reference's Same, Arm, On, Read. No condition beyond what each theorem states. -/
import Derived.Test.YtaohaofjbgghgaaC
namespace Go.Proofs.Ytaohaofjbgghgaa
open Go.RowKit

/-- a list of bytes, nil or not, read only -/
def ArgBytes (w : World) (x : Value) (l : List UInt8) : Prop := ∃ A c, x = .slice A l.length c ∧ Cs w A (u8s l)
/-- a list of lists of bytes, read only -/
def ArgRows (w : World) (v : Value) (L : List (List UInt8)) : Prop := ∃ A c xs, v = .slice A L.length c ∧ xs.length = L.length ∧ Cs w A xs ∧ ∀ i (h : i < L.length), ∃ x, xs[i]? = some x ∧ ArgBytes w x L[i]

theorem range_no {w w' : World} {g o : Nat} {xs : List Value} (h : w.rangeAt g o xs) (hk : Kp No w w') : w'.rangeAt g o xs := fun j v hv => by
  have := h j v hv
  have hlt := World.block_lt_of_cell? w _ this
  rw [World.cell?_of_block (w := w) (hk.block g hlt (fun m => m))]; exact this
theorem Cs.no {w w' : World} {A : Option Addr} {xs : List Value} (h : Cs w A xs) (hk : Kp No w w') : Cs w' A xs := fun hx => by
  obtain ⟨g, o, e, hr⟩ := h hx
  exact ⟨g, o, e, range_no hr hk⟩
theorem ArgBytes.no {w w' : World} {x : Value} {l : List UInt8} (h : ArgBytes w x l) (hk : Kp No w w') : ArgBytes w' x l := by
  obtain ⟨A, c, e, hr⟩ := h
  exact ⟨A, c, e, hr.no hk⟩
theorem ArgRows.no {w w' : World} {v : Value} {L : List (List UInt8)} (h : ArgRows w v L) (hk : Kp No w w') : ArgRows w' v L := by
  obtain ⟨A, c, xs, e, hl, hr, hx⟩ := h
  refine ⟨A, c, xs, e, hl, hr.no hk, fun i hi => ?_⟩
  obtain ⟨x, h1, h2⟩ := hx i hi
  exact ⟨x, h1, h2.no hk⟩
theorem ByteRow.arg {w : World} {B : Nat} {av : Option Nat} {t : TypeId} {x : Value} {l : List UInt8} (h : ByteRow w B av t x l) : ArgBytes w x l := by
  obtain ⟨g, c, sp, e, hc, hb, ha, hbk⟩ := h
  refine ⟨_, c, e, fun _ => ⟨g, 0, rfl, ?_⟩⟩
  have := hbk.range 0 l.length
  rw [List.drop_zero, List.take_left' (by simp)] at this
  exact this
theorem RowsOf.arg {w : World} {B : Nat} {v : Value} {L : List (List UInt8)} {t : TypeId} (h : RowsOf w B v L t) : ArgRows w v L := by
  obtain ⟨xs, hown, hrows⟩ := h
  have hl : xs.length = L.length := by have := hown.1; omega
  rcases hown.2 with ⟨rfl, h0⟩ | ⟨g, cap, cur, rfl, hb, hh, h1, h2, h3, h4⟩
  · refine ⟨Option.none, 0, xs, by rw [h0], hl, fun hx => absurd (List.eq_nil_of_length_eq_zero (by omega)) hx, fun i hi => ?_⟩
    obtain ⟨x, hx, hr⟩ := hrows i hi
    exact ⟨x, hx, hr.arg⟩
  · refine ⟨_, cap, xs, rfl, hl, fun hx => ⟨g, 0, rfl, fun j v hv => ?_⟩, fun i hi => ?_⟩
    · have := hown.cells (g := g) rfl j v hv
      rwa [Addr.add_mid] at this
    · obtain ⟨x, hx, hr⟩ := hrows i hi
      exact ⟨x, hx, hr.arg⟩

theorem ArgBytes.str {P : Program} {w : World} {x : Value} {l : List UInt8} (h : ArgBytes w x l) (src e dst : TypeId) (hs : P.underlying src = some (.slice e)) (he : P.underlying e = some (.int .u8)) (hd : P.underlying dst = some .string) :
    (convert src dst x).run P w = .ok (.string ⟨l.toArray⟩) w := by
  obtain ⟨A, c, rfl, hr⟩ := h
  by_cases hl : l = []
  · subst hl
    rcases A with _ | a
    · exact run_convert_bytes_nil w src e hs he 0 c dst hd
    · have := run_bytesToString (P := P) w a 0 c [] (by rfl)
      simp [convert, run_underlying hs, run_underlying hd, run_underlying he, this]
      rfl
  · obtain ⟨g, o, rfl, hra⟩ := hr (by simpa [u8s] using hl)
    have := run_convert_bytes_arg (P := P) w src e hs he g o l.length c (l.map fun c => (c.toNat : Int)) (by simp) (by
      intro i hi
      rw [hra i _ (by simp only [u8s, List.getElem?_map, List.getElem?_eq_getElem hi]; rfl)]
      simp [List.getD_eq_getElem?_getD, List.getElem?_eq_getElem hi]) dst hd
    rw [this]
    congr 2
    have e2 : (strOfNums (l.map fun c => (c.toNat : Int))).data.toList = l := by
      rw [strOfNums_data, List.map_map]
      conv => rhs; rw [← List.map_id l]
      exact List.map_congr_left fun c _ => by simp
    have e3 : (strOfNums (l.map fun c => (c.toNat : Int))).data = l.toArray := by conv => rhs; rw [← e2]
    calc strOfNums (l.map fun c => (c.toNat : Int)) = ⟨(strOfNums (l.map fun c => (c.toNat : Int))).data⟩ := rfl
      _ = ⟨l.toArray⟩ := by rw [e3]

theorem Cs.get {w : World} {A : Option Addr} {xs : List Value} (h : Cs w A xs) {i : Nat} {x : Value} (hx : xs[i]? = some x) : ∃ g o, A = some ⟨g, o, none⟩ ∧ w.cell? ⟨g, o + i, none⟩ = some x := by
  obtain ⟨g, o, e, hr⟩ := h (by intro e; subst e; simp at hx)
  exact ⟨g, o, e, hr i x hx⟩

set_option maxHeartbeats 1000000 in
theorem same_len (v u : Value) (L R : List (List UInt8)) (w : World) (hv : ArgRows w v L) (hu : ArgRows w u R) (hne : L.length ≠ R.length) :
    Calls Try.prog 17 #[v, u] w fun e w' => e = .returned (.bool false) ∧ w = w' := by
  obtain ⟨A, c, xs, rfl, _⟩ := hv
  obtain ⟨B, d, ys, rfl, _⟩ := hu
  have hd : ((L.length : Int) == (R.length : Int)) = false := by simp; omega
  clear hne
  go_enter Try.func17, Try.ntmps17
  go_wp2
  go_ret
  exact ⟨rfl, rfl⟩

theorem drewN_no (w : World) (n : Nat) : Kp No w (w.drewN n) := (Kp.refl _ _).drewN n
set_option maxHeartbeats 1000000 in
theorem same_any (v u : Value) (L R : List (List UInt8)) (w : World) (hv : ArgRows w v L) (hu : ArgRows w u R) (hlen : L.length = R.length) (hmx : L.length ≤ 140737488355328) :
    Calls Try.prog 17 #[v, u] w fun e w' => e = .returned (.bool (decide (L = R))) ∧ ∃ n, w' = w.drewN n := by
  obtain ⟨A, c, xs, rfl, hxl, hxs, hx⟩ := hv
  obtain ⟨B, d, ys, rfl, hyl, hys, hy⟩ := hu
  have hd : ((L.length : Int) == (R.length : Int)) = true := by simp; omega
  have HL := Lib.hid hlen
  have hle : L.length ≤ R.length := by omega
  clear hlen
  go_enter Try.func17, Try.ntmps17
  go_wp2
  go_loopw [5] (fun i wr => ∃ k : Nat, k ≤ L.length ∧ i = .int .i64 k ∧ L.take k = R.take k ∧ ∃ n, wr = w.drewN n) (fun i _ => L.length - (intOf i).toNat)
  case atStart => exact ⟨0, Nat.zero_le _, rfl, by simp, 0, rfl⟩
  case round =>
    obtain ⟨k, hk, rfl, heq, n, rfl⟩ := hrel
    have HE := Lib.hid heq; clear heq
    by_cases hlt : k < L.length
    · have hlt2 : k < R.length := by omega
      obtain ⟨x, hx1, hx2⟩ := hx k hlt
      obtain ⟨y, hy1, hy2⟩ := hy k hlt2
      obtain ⟨g, o, rfl, hcx⟩ := hxs.get hx1
      obtain ⟨g', o', rfl, hcy⟩ := hys.get hy1
      have sx : ∀ m, (convert 33 9 x).run Try.prog (w.drewN m) = .ok (.string ⟨L[k].toArray⟩) (w.drewN m) := fun m => (hx2.no (drewN_no w m)).str 33 5 9 Try.underlying33 Try.underlying5 Try.underlying9
      have sy : ∀ m, (convert 33 9 y).run Try.prog (w.drewN m) = .ok (.string ⟨R[k].toArray⟩) (w.drewN m) := fun m => (hy2.no (drewN_no w m)).str 33 5 9 Try.underlying33 Try.underlying5 Try.underlying9
      have hik : (k : Int) < (L.length : Int) := by omega
      have hik2 : (k : Int) < (R.length : Int) := by omega
      have hi0 : (0 : Int) ≤ (k : Int) := by omega
      have HX : Hid (L[k] :: L.drop (k + 1) = L.drop k ∧ R[k] :: R.drop (k + 1) = R.drop k) := ⟨by simp, by simp⟩
      generalize hl : L[k] = l at *
      generalize hr : R[k] = r at *
      have HLk := Lib.hid hl; clear hl
      have HRk := Lib.hid hr; clear hr
      clear hx hy hx1 hy1 hx2 hy2 hxs hys
      by_cases hlr : (l == r) = true
      · go_wp2
        go_quiet (fail)
        go_wp2
        go_roundw
        case rel =>
          refine ⟨k + 1, by omega, by go_num, ?_, _, rfl⟩
          rw [List.take_add_one, List.take_add_one, List.getElem?_eq_getElem hlt, List.getElem?_eq_getElem hlt2, HE.out, HLk.out, HRk.out, eq_of_beq hlr]
        case measure => simp [intOf]; omega
      · have hlr' : (l == r) = false := by simpa using hlr
        clear hlr
        go_wp2
        go_quiet (fail)
        go_wp2
        go_ret
        refine ⟨?_, _, World.drewN_drewN w n _⟩
        have : L ≠ R := by
          rintro rfl
          rw [← HLk.out, ← HRk.out] at hlr'
          simp at hlr'
        simp [this]
    · go_wp2
      go_ret
      have hk' : k = L.length := by omega
      refine ⟨?_, n, rfl⟩
      have h1 := HE.out
      rw [hk', List.take_length, HL.out, List.take_length] at h1
      simp [h1]

/-- a reference disk in memory -/
structure RD (w : World) (B b : Nat) (v : Value) (L : List (List UInt8)) (wr ar : Int) (off : Bool) : Prop where
  st : Bk w b 43 (rdCells v wr ar off)
  ro : RowsOf w B v L 5
  lo : B ≤ b
theorem RD.no {w w' : World} {B b : Nat} {v : Value} {L : List (List UInt8)} {wr ar : Int} {off : Bool} (h : RD w B b v L wr ar off) (hk : Kp No w w') : RD w' B b v L wr ar off := ⟨h.st.no hk, h.ro.no hk, h.lo⟩
theorem RD.kp {w w' : World} {B b : Nat} {v : Value} {L : List (List UInt8)} {wr ar : Int} {off : Bool} {M : Nat → Prop} (h : RD w B b v L wr ar off) (hk : Kp M w w')
    (hM : ∀ g cs, B ≤ g → (Bk w g 33 cs ∨ Bk w g 5 cs ∨ Bk w g 43 cs) → ¬ M g) : RD w' B b v L wr ar off :=
  ⟨h.st.kp hk (hM b _ h.lo (.inr (.inr h.st))), h.ro.kp hk fun g cs hB hg => hM g cs hB (hg.elim .inl fun h => .inr (.inl h)), h.lo⟩

set_option maxHeartbeats 400000 in
theorem rarm_any (b : Nat) (k : Int) (w : World) (v : Value) (wr ar : Int) (off : Bool) (h : Bk w b 43 (rdCells v wr ar off)) :
    Calls Try.prog 14 #[.pointer (some ⟨b, 0, none⟩), .int .i64 k] w fun e w' => e = .returned (.tuple #[]) ∧ Bk w' b 43 (rdCells v wr (max k (-1)) off) ∧ Kp (One b) w w' := by
  have hmx : ∀ W, (Builtin.max_ #[3, 3] 3 #[.int .i64 k, .int .i64 (-1)]).run Try.prog W = .ok (.int .i64 (max k (-1))) W := by
    intro W
    have : max k (-1) = if -1 > k then -1 else k := by split <;> omega
    rw [this]; rfl
  have h2 : w.cell? ⟨b, 2, none⟩ = some (.int .i64 ar) := h.cell 2
  have f2 := h.frozen 2
  have hh := Lib.hid h; clear h
  go_enter Try.func14, Try.ntmps14
  go_wp2
  go_end0
  exact ⟨rfl, hh.out.set_ 2 _, (Kp.refl _ _).set (.inl (One.self _)) _ _⟩
set_option maxHeartbeats 400000 in
theorem ron_any (b : Nat) (w : World) (v : Value) (wr ar : Int) (off : Bool) (h : Bk w b 43 (rdCells v wr ar off)) :
    Calls Try.prog 16 #[.pointer (some ⟨b, 0, none⟩)] w fun e w' => e = .returned (.tuple #[]) ∧ Bk w' b 43 (rdCells v wr ar false) ∧ Kp (One b) w w' := by
  have h2 : w.cell? ⟨b, 3, none⟩ = some (.bool off) := h.cell 3
  have f2 := h.frozen 3
  have hh := Lib.hid h; clear h
  go_enter Try.func16, Try.ntmps16
  go_wp2
  go_end0
  exact ⟨rfl, hh.out.set_ 3 _, (Kp.refl _ _).set (.inl (One.self _)) _ _⟩
set_option maxHeartbeats 400000 in
theorem rread_off (b : Nat) (i : Int) (w : World) (v : Value) (wr ar : Int) (h : Bk w b 43 (rdCells v wr ar true)) :
    Calls Try.prog 12 #[.pointer (some ⟨b, 0, none⟩), .int .i64 i] w fun e w' => e = .returned (.tuple #[.slice Option.none 0 0, .int .i64 40]) ∧ w = w' := by
  have h2 : w.cell? ⟨b, 3, none⟩ = some (.bool true) := h.cell 3
  clear h
  go_enter Try.func12, Try.ntmps12
  go_wp2
  go_ret2
  exact ⟨rfl, rfl⟩
set_option maxHeartbeats 400000 in
theorem rread_out (b : Nat) (i : Int) (w : World) (A : Option Addr) (n c : Nat) (wr ar : Int) (h : Bk w b 43 (rdCells (.slice A n c) wr ar false)) (hi : ¬ (0 ≤ i ∧ i < n)) :
    Calls Try.prog 12 #[.pointer (some ⟨b, 0, none⟩), .int .i64 i] w fun e w' => e = .returned (.tuple #[.slice Option.none 0 0, .int .i64 2]) ∧ w = w' := by
  have h2 : w.cell? ⟨b, 3, none⟩ = some (.bool false) := h.cell 3
  have h0 : w.cell? ⟨b, 0, none⟩ = some (.slice A n c) := h.cell 0
  clear h
  go_enter Try.func12, Try.ntmps12
  by_cases h1 : i < 0
  · clear hi
    go_wp2
    go_ret2
    exact ⟨rfl, rfl⟩
  · have h3 : (n : Int) ≤ i := by omega
    have h4 : (0 : Int) ≤ i := by omega
    clear hi h1
    go_wp2
    go_ret2
    exact ⟨rfl, rfl⟩
theorem u8s_val (l : List UInt8) : ∀ v ∈ u8s l, ∃ c : UInt8, v = .int .u8 (c.toNat : Int) := by
  intro v hv; simp only [u8s, List.mem_map] at hv; obtain ⟨c, _, rfl⟩ := hv; exact ⟨c, rfl⟩
set_option maxHeartbeats 1000000 in
theorem rread_any (B b : Nat) (i : Nat) (w : World) (v : Value) (L : List (List UInt8)) (wr ar : Int) (h : RD w B b v L wr ar false) (hi : i < L.length) (h64 : L[i].length = 64) :
    Calls Try.prog 12 #[.pointer (some ⟨b, 0, none⟩), .int .i64 i] w fun e w' => ∃ g, e = .returned (.tuple #[.slice (some ⟨g, 0, none⟩) 64 64, .int .i64 0]) ∧ Bk w' g 5 (u8s L[i]) ∧ w.heap.size ≤ g ∧ Kp No w w' := by
  have h2 : w.cell? ⟨b, 3, none⟩ = some (.bool false) := h.st.cell 3
  have h0 : w.cell? ⟨b, 0, none⟩ = some v := h.st.cell 0
  obtain ⟨A, c, xs, rfl, hxl, hxs, hx⟩ := h.ro.arg
  obtain ⟨x, hx1, A', c', rfl, hx2⟩ := hx i hi
  obtain ⟨g, o, rfl, hcx⟩ := hxs.get hx1
  have hul : (u8s L[i]).length = L[i].length := u8s_length _
  have hcop := copied_any A' c' (u8s L[i]) w (by rw [hul, h64]; omega) (u8s_val _) hx2
  rw [hul] at hcop
  generalize L[i] = l at *
  rw [h64] at hcop hcx
  have HC := Lib.hid hcop; clear hcop
  have hi0 : (0 : Int) ≤ (i : Int) := by omega
  have hi1 : (i : Int) < (L.length : Int) := by omega
  clear hul h64 hx2 hx1 hx hxs
  go_enter Try.func12, Try.ntmps12
  go_wp2_with (go_at_call 29; refine HC.out.mono ?_; rintro e w' ⟨g2, rfl, hb2, hg2, hk2⟩)
  go_ret2
  exact ⟨g2, rfl, hb2, hg2, hk2⟩
end Go.Proofs.Ytaohaofjbgghgaa
