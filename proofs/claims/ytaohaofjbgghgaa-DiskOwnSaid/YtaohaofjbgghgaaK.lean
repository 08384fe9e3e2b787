/- Words of DiskOwn: rows of bytes that are written and grown, whatever blocks they lie in, and what stays beside them. No condition beyond what each theorem states. -/
import Derived.Test.YtaohaofjbgghgaaR4
import Derived.Test.YtaohaofjbgghgaaH
import Derived.ArgAppend
namespace Go.Proofs.Ytaohaofjbgghgaa
open Go Go.RowKit

theorem u8s_append (l m : List UInt8) : u8s (l ++ m) = u8s l ++ u8s m := by simp [u8s]
theorem own_lenK {w : World} {B n size : Nat} {t : TypeId} {v : Value} {xs : List Value} (h : w.ownsRow B t size v n xs) : ∃ A c, v = .slice A n c ∧ n ≤ c := by
  rcases h.2 with ⟨rfl, rfl⟩ | ⟨g, cap, cur, hv, _, _, hc, _⟩
  · exact ⟨_, _, rfl, Nat.le_refl _⟩
  · exact ⟨_, _, hv, hc⟩
theorem DkS.far2 {w w' : World} {b sb cap : Nat} {s : St} {M : Nat → Prop} (h : DkS w b sb cap s) (hk : Kp M w w') (h1 : ¬ M b) (h2 : ¬ M sb) : DkS w' b sb cap s :=
  ⟨h.st.kp hk h1, h.se.elim fun sp hs => ⟨sp, hs.kp hk h2⟩, h.le, h.n1, h.n2⟩
theorem free_write {L : List (List UInt8)} {wr : Int} {j : Nat} {S : List UInt8} (hj : j < L.length) (hS : S.length = 64) : St.wrRes ⟨L, wr, false, 0, false⟩ (j : Int) S = 0 ∧ St.wrNext ⟨L, wr, false, 0, false⟩ (j : Int) S = ⟨L.set j S, wr + 1, false, 0, false⟩ := by
  have hf : St.fault ⟨L, wr, false, 0, false⟩ (j : Int) = 0 := by simp [St.fault, faultN]; omega
  constructor
  · simp [St.wrRes, hf, hS]
  · simp [St.wrNext, hf, hS]
theorem free_ok (L : List (List UInt8)) (wr : Int) (h : 0 ≤ wr) : St.Ok ⟨L, wr, false, 0, false⟩ := ⟨h, by simp, by simp⟩
theorem free_fault {L : List (List UInt8)} {wr : Int} {j : Nat} (hj : j < L.length) : St.fault ⟨L, wr, false, 0, false⟩ (j : Int) = 0 := by simp [St.fault, faultN]; omega
theorem str_injK {a b : ByteArray} (h : a.data.toList = b.data.toList) : a = b := by
  cases a; cases b
  simp only [ByteArray.mk.injEq]
  exact Array.ext' h
/-- a block of s cells -/
def SB (w : World) (g s : Nat) : Prop := ∃ (C : Array Value) (t : TypeId), w.heap[g]? = some (.cells C t (0, 0)) ∧ C.size = s ∧ ∀ (i : Nat) (v : Value), C[i]? = some v → v.oneCell' = true
theorem SB.lt {w : World} {g s : Nat} (h : SB w g s) : g < w.heap.size := by
  obtain ⟨C, t, h1, _⟩ := h
  exact (Array.getElem?_eq_some_iff.1 h1).1
theorem SB.cell {w : World} {g s i : Nat} (h : SB w g s) (hi : i < s) : ∃ v, w.cell? ⟨g, i, none⟩ = some v ∧ v.oneCell' = true := by
  obtain ⟨C, t, h1, h2, h3⟩ := h
  have hi' : i < C.size := by omega
  refine ⟨C[i], ?_, h3 i _ (Array.getElem?_eq_getElem hi')⟩
  simp [World.cell?, h1, hi']
theorem SB.frozen {w : World} {g s : Nat} (h : SB w g s) (i : Nat) : w.frozen? ⟨g, i, none⟩ = false := by
  obtain ⟨C, t, h1, _⟩ := h
  simp [World.frozen?, h1]
theorem SB.of {w : World} {g : Nat} {t : TypeId} {cs : List Value} (h : Bk w g t cs) (h1 : ∀ v ∈ cs, v.oneCell' = true) : SB w g cs.length := ⟨cs.toArray, t, h, by simp, fun i v hv => h1 v (List.mem_of_getElem? (by simpa using hv))⟩
theorem SB.alloc {w : World} {g s : Nat} (h : SB w g s) (o : Obj) : SB (w.alloc o) g s := by
  obtain ⟨C, t, h1, h2, h3⟩ := h
  exact ⟨C, t, (Below.heap_alloc w o g (Array.getElem?_eq_some_iff.1 h1).1).trans h1, h2, h3⟩
theorem SB.set {w : World} {g s : Nat} (h : SB w g s) (g' i : Nat) {u : Value} (hu : u.oneCell' = true) : SB (w.setCell ⟨g', i, none⟩ u) g s := by
  obtain ⟨C, t, h1, h2, h3⟩ := h
  by_cases e : g = g'
  · subst e
    refine ⟨C.setIfInBounds i u, t, by simp [World.setCell, Array.getElem?_modify, h1], by simp [h2], fun j v hv => ?_⟩
    by_cases e : i = j
    · subst e
      rw [Array.getElem?_setIfInBounds] at hv
      simp only [if_true] at hv
      split at hv
      · injection hv with hv; rw [← hv]; exact hu
      · cases hv
    · rw [Array.getElem?_setIfInBounds_ne e] at hv
      exact h3 j v hv
  · exact ⟨C, t, (Below.heap_setCell w ⟨g', i, none⟩ u g e).trans h1, h2, h3⟩
/-- from w to w' only blocks of Z, and new ones, have changed; all blocks keep their size -/
structure Stp (Z : Nat → Prop) (w w' : World) : Prop where
  kp : Kp Z w w'
  sb : ∀ g s, SB w g s → SB w' g s
section
variable {Z Y : Nat → Prop} {w w' w2 : World}
theorem Stp.refl (Z : Nat → Prop) (w : World) : Stp Z w w := ⟨Kp.refl _ _, fun _ _ h => h⟩
theorem Stp.trans (h : Stp Z w w') (k : Stp Z w' w2) : Stp Z w w2 := ⟨h.kp.trans k.kp, fun g s x => k.sb g s (h.sb g s x)⟩
theorem Stp.drew (h : Stp Z w w') : Stp Z w w'.drew := ⟨h.kp.drew, fun g s x => h.sb g s x⟩
theorem Stp.alloc (h : Stp Z w w') (o : Obj) : Stp Z w (w'.alloc o) := ⟨h.kp.alloc o, fun g s x => (h.sb g s x).alloc o⟩
theorem Stp.set (h : Stp Z w w') {g : Nat} (hz : Z g) (i : Nat) {u : Value} (hu : u.oneCell' = true) : Stp Z w (w'.setCell ⟨g, i, none⟩ u) := ⟨h.kp.set (.inl hz) i u, fun g' s x => (h.sb g' s x).set g i hu⟩
theorem Stp.no (h : Kp No w w') : Stp Z w w' := ⟨h.of_no, fun g _ ⟨C, t, h1, h2⟩ => ⟨C, t, (h.block g (Array.getElem?_eq_some_iff.1 h1).1 (fun m => m)).trans h1, h2⟩⟩
theorem Stp.mono (h : Stp Z w w') (hm : ∀ g, Z g → Y g) : Stp Y w w' := ⟨h.kp.mono fun g _ => hm g, h.sb⟩
theorem setCells_sb {g : Nat} : ∀ (vs : List Value) (o : Nat) {w : World} {g' s : Nat}, (∀ v ∈ vs, v.oneCell' = true) → SB w g' s → SB (w.setCells g o vs) g' s
  | [], _, _, _, _, _, h => h
  | _ :: r, o, _, _, _, h1, h => setCells_sb r (o + 1) (fun v hv => h1 v (List.mem_cons_of_mem _ hv)) (h.set g o (h1 _ (List.mem_cons_self ..)))
/-- a slice over the head of a block of Z, with room for its cap -/
def OkRow (w : World) (Z : Nat → Prop) (n : Nat) (v : Value) : Prop := ∃ g c s, v = .slice (some ⟨g, 0, none⟩) n c ∧ n ≤ c ∧ c ≤ s ∧ Z g ∧ SB w g s
theorem OkRow.stp {n : Nat} {v : Value} (h : OkRow w Z n v) (k : Stp Y w w') : OkRow w' Z n v := by
  obtain ⟨g, c, s, e, h1, h2, h3, h4⟩ := h
  exact ⟨g, c, s, e, h1, h2, h3, k.sb g s h4⟩
theorem OkRow.cell {n : Nat} {v : Value} (h : OkRow w Z n v) {i : Nat} (hi : i < n) : ∃ g c, v = .slice (some ⟨g, 0, none⟩) n c ∧ Z g ∧ (∃ u, w.cell? ⟨g, i, none⟩ = some u) ∧ w.frozen? ⟨g, i, none⟩ = false := by
  obtain ⟨g, c, s, e, h1, h2, h3, h4⟩ := h
  exact ⟨g, c, e, h3, (h4.cell (by omega)).imp fun _ h => h.1, h4.frozen i⟩
end
section
variable {P : Program}
/-- append of one cell to such a row: in room, or moved behind all blocks -/
theorem run_appK (w : World) (Z : Nat → Prop) (hZ : ∀ g, w.heap.size ≤ g → Z g) (t ty e : TypeId) (z : Value) (bytes : Nat) (ht : P.underlying t = some (.slice e)) (hi : (P.info? e).map (fun i => (i.zero, i.size, i.bytes)) = some (some z, 1, bytes)) (hzs : z.cells.size = 1) (hz1c : ∀ x ∈ z.cells, x.oneCell' = true)
    (v : Value) (n : Nat) (hv : OkRow w Z n v) (ad : Addr) (c : Nat) (u : Value) (hu : w.cell? ad = some u) (h1 : u.oneCell' = true) (hn : n + 1 ≤ 1000) (hb : bytes ≤ 1000) :
    ∃ v' w', (Builtin.append_ #[t, t] ty #[v, .slice (some ad) 1 c]).run P w = .ok v' w' ∧ OkRow w' Z (n + 1) v' ∧ Stp Z w w' := by
  obtain ⟨i0, hi0, hz0, hz1, hz2⟩ := info_parts hi
  obtain ⟨g, c0, s, rfl, hc, hs, hg, hsb⟩ := hv
  have hnews : ∀ j x, [u][j]? = some x → w.cell? (ad.add j) = some x := fun j x hx => by
    match j with
    | 0 =>
      injection hx with hx
      subst hx
      have ha : ad.add 0 = ad := by obtain ⟨b, o, s⟩ := ad; cases s <;> simp [Addr.add]
      rw [ha]; exact hu
    | j + 1 => simp at hx
  have hone : ∀ x ∈ [u], x.oneCell' = true := fun x hx => by
    cases hx with
    | head => exact h1
    | tail _ h => cases h
  by_cases hroom : n + 1 ≤ c0
  · have hr := run_append_room_cells (P := P) (w := w) t ty e i0 ht hi0 g 0 n c0 ad 1 c [u] (by simp [hz1]) hnews hone hroom
      (fun j hj => by
        obtain ⟨x, hx, _⟩ := hsb.cell (i := 0 + n * i0.size + j) (by simp at hj; subst hj; rw [hz1]; omega)
        rw [hx]; rfl)
      (fun j _ => hsb.frozen _)
    refine ⟨_, _, hr, ⟨g, c0, s, rfl, hroom, hs, hg, setCells_sb _ _ hone hsb⟩, ⟨(Kp.refl _ _).sets _ _ (.inl hg), fun _ _ h => setCells_sb _ _ hone h⟩⟩
  · obtain ⟨olds, holds0⟩ : ∃ l : List Value, l = (List.range n).map fun k => (w.cell? ⟨g, k, none⟩).getD undef := ⟨_, rfl⟩
    have hol : olds.length = n := by rw [holds0]; simp
    have hall : ∀ j x, olds[j]? = some x → w.cell? ⟨g, j, none⟩ = some x ∧ x.oneCell' = true := fun j x hx => by
      rw [holds0, List.getElem?_map] at hx
      have hj : j < n := by
        rcases Nat.lt_or_ge j n with h | h
        · exact h
        · rw [List.getElem?_eq_none (by simpa using h)] at hx; cases hx
      rw [List.getElem?_range hj] at hx
      obtain ⟨y, hy, hy1⟩ := hsb.cell (i := j) (by omega)
      simp only [Option.map_some, Option.some.injEq] at hx
      rw [hy, Option.getD_some] at hx
      subst hx
      exact ⟨hy, hy1⟩
    have holds : ∀ j x, olds[j]? = some x → w.cell? ((⟨g, 0, none⟩ : Addr).add j) = some x := fun j x hx => by
      rw [Addr.add_mid, Nat.zero_add]; exact (hall j x hx).1
    have hr := run_append_grow (P := P) w t ty e i0 z ht hi0 hz0 ⟨g, 0, none⟩ n c0 olds (by rw [hol, hz1, Nat.mul_one]) holds ad 1 c [u] (by simp [hz1]) hnews (by omega) (by omega) (growslice_fits (by omega) (by
      have := Nat.mul_le_mul hn hb
      rw [hz2]; omega))
    have hge := grownCap_ge w (n + 1) c0 e
    refine ⟨_, _, hr, ⟨w.heap.size, _, _, rfl, hge, Nat.le_refl _, hZ _ (Nat.le_refl _), ⟨_, e, heap_alloc_new w.drew _, ?_, fun k x hk => ?_⟩⟩, Stp.no ((Kp.refl No w).drew.alloc _)⟩
    · simp only [Array.size_append, List.size_toArray, size_zeroCells, hzs, hol, List.length_cons, List.length_nil]
      omega
    · have hx : x ∈ olds.toArray ++ [u].toArray ++ Builtin.zeroCells z.cells (grownCap w (n + 1) c0 e - (n + 1)) := Array.mem_of_getElem? hk
      rw [Array.mem_append, Array.mem_append] at hx
      rcases hx with (hx | hx) | hx
      · obtain ⟨k, hk⟩ := List.getElem?_of_mem (List.mem_toArray.1 hx)
        exact (hall k x hk).2
      · exact hone x (List.mem_toArray.1 hx)
      · simp only [Builtin.zeroCells, Array.mem_map] at hx
        obtain ⟨k, _, rfl⟩ := hx
        rw [hzs, Nat.mod_one]
        exact hz1c _ (by rw [getElem!_pos z.cells 0 (by omega)]; exact Array.getElem_mem _)
theorem wp_appK (w : World) {o : Oper} {a : Act} {K : Act → World → Prop} {Q : Exit → Act → World → Prop} (s x : Operand) (t : TypeId)
    (ho : o.op = .call { callee := .builtin .append, args := #[s, x], argTypes := #[t, t] })
    (Z : Nat → Prop) (hZ : ∀ g, w.heap.size ≤ g → Z g) (e : TypeId) (z : Value) (bytes : Nat) (ht : P.underlying t = some (.slice e)) (hi : (P.info? e).map (fun i => (i.zero, i.size, i.bytes)) = some (some z, 1, bytes)) (hzs : z.cells.size = 1) (hz1c : ∀ x ∈ z.cells, x.oneCell' = true)
    (v : Value) (n : Nat) (hs : a.eval s = v) (hv : OkRow w Z n v) (ad : Addr) (c : Nat) (u : Value) (hx : a.eval x = .slice (some ad) 1 c) (hu : w.cell? ad = some u) (h1 : u.oneCell' = true) (hn : n + 1 ≤ 1000) (hb : bytes ≤ 1000)
    (h : ∀ v' w', OkRow w' Z (n + 1) v' → Stp Z w w' → K (a.put o.dst v') w') : o.wp P a w K Q := by
  obtain ⟨v', w', hr, h2, h3⟩ := run_appK (P := P) w Z hZ t o.type e z bytes ht hi hzs hz1c v n hv ad c u hu h1 hn hb
  unfold Oper.wp execOp
  simp only [ho, resolve, invoke, builtin, Sem.run_bind, Sem.run_pure, Result.andThen_ok, List.map_toArray, List.map_cons, List.map_nil, hs, hx, hr]
  exact h v' w' h2 h3
theorem wpList_appK (w : World) {ops : Array Oper} {rest : List Oper} {o : Oper} {a : Act} {Q : Exit → Act → World → Prop} (hgd : o.guard = none) (s x : Operand) (t : TypeId)
    (ho : o.op = .call { callee := .builtin .append, args := #[s, x], argTypes := #[t, t] })
    (Z : Nat → Prop) (hZ : ∀ g, w.heap.size ≤ g → Z g) (e : TypeId) (z : Value) (bytes : Nat) (ht : P.underlying t = some (.slice e)) (hi : (P.info? e).map (fun i => (i.zero, i.size, i.bytes)) = some (some z, 1, bytes)) (hzs : z.cells.size = 1) (hz1c : ∀ x ∈ z.cells, x.oneCell' = true)
    (v : Value) (n : Nat) (hs : a.eval s = v) (hv : OkRow w Z n v) (ad : Addr) (c : Nat) (u : Value) (hx : a.eval x = .slice (some ad) 1 c) (hu : w.cell? ad = some u) (h1 : u.oneCell' = true) (hn : n + 1 ≤ 1000) (hb : bytes ≤ 1000)
    (h : ∀ v' w', OkRow w' Z (n + 1) v' → Stp Z w w' → wpList P ops Q rest (a.put o.dst v') w') : wpList P ops Q (o :: rest) a w :=
  wpList_plain hgd fun _ hK => wp_appK w s x t ho Z hZ e z bytes ht hi hzs hz1c v n hs hv ad c u hx hu h1 hn hb fun v' w' h2 h3 => hK _ _ (h v' w' h2 h3)
end
end Go.Proofs.Ytaohaofjbgghgaa
