/- Lists of bytes in memory. No condition beyond what each theorem states. -/
import Derived.Test.YtccadcefhfdmgaaGreatDoorIg
namespace Go.Proofs.YtccadcefhfdmgaaGreatDoor
open Go Go.RowKit

/-- bytes as cells -/
def u8s (l : List UInt8) : List Value := l.map fun c => .int .u8 (c.toNat : Int)
@[simp] theorem u8s_length (l : List UInt8) : (u8s l).length = l.length := by simp [u8s]
theorem u8s_one (l : List UInt8) : ∀ v ∈ u8s l, v.oneCell' = true := by
  intro v hv; simp only [u8s, List.mem_map] at hv; obtain ⟨c, _, rfl⟩ := hv; rfl
theorem u8s_get (l : List UInt8) (j : Nat) : (u8s l)[j]? = (l[j]?).map fun c => .int .u8 (c.toNat : Int) := by simp [u8s]
theorem u8s_append (l m : List UInt8) : u8s (l ++ m) = u8s l ++ u8s m := by simp [u8s]
theorem u8s_take (l : List UInt8) (k : Nat) : u8s (l.take k) = (u8s l).take k := by simp [u8s]
theorem u8s_drop (l : List UInt8) (k : Nat) : u8s (l.drop k) = (u8s l).drop k := by simp [u8s]
theorem u8s_set (l : List UInt8) (k : Nat) (c : UInt8) : (u8s l).set k (.int .u8 (c.toNat : Int)) = u8s (l.set k c) := by simp [u8s, List.map_set]
theorem u8s_zero (n : Nat) : u8s (List.replicate n 0) = List.replicate n (.int .u8 0) := by simp [u8s]
theorem u8s_inj {l m : List UInt8} (h : u8s l = u8s m) : l = m := by
  refine List.map_inj_right (f := fun c : UInt8 => Value.int .u8 (c.toNat : Int)) ?_ |>.1 h
  intro a b e
  injection e with _ e
  exact UInt8.toNat_inj.1 (by omega)
/-- what a slice of bytes holds -/
def ArgB (w : World) (v : Value) (l : List UInt8) : Prop := ∃ A c, v = .slice A l.length c ∧ l.length ≤ c ∧ Cs w A (u8s l)
theorem ArgB.kp {w w' : World} {v : Value} {l : List UInt8} {M : Nat → Prop} (h : ArgB w v l) (hk : Kp M w w') (hM : ∀ g o n c, v = .slice (some ⟨g, o, none⟩) n c → ¬ M g) : ArgB w' v l := by
  obtain ⟨A, c, rfl, hc, h⟩ := h
  exact ⟨A, c, rfl, hc, h.kp hk fun g o e => hM g o _ _ (by rw [e])⟩
theorem ArgB.no {w w' : World} {v : Value} {l : List UInt8} (h : ArgB w v l) (hk : Kp No w w') : ArgB w' v l := h.kp hk fun _ _ _ _ _ m => m
theorem ArgB.nil (w : World) (A : Option Addr) (c : Nat) : ArgB w (.slice A 0 c) [] := ⟨A, c, rfl, Nat.zero_le _, fun h => absurd rfl h⟩
theorem ArgB.form {w : World} {v : Value} {l : List UInt8} (h : ArgB w v l) : ∃ A c, v = .slice A l.length c ∧ l.length ≤ c := by
  obtain ⟨A, c, e, hc, _⟩ := h; exact ⟨A, c, e, hc⟩
theorem ArgB.at_ {w : World} {v : Value} {l : List UInt8} (h : ArgB w v l) (hk : 0 < l.length) : ∃ g o c, v = .slice (some ⟨g, o, none⟩) l.length c ∧ l.length ≤ c ∧ ∀ j x, l[j]? = some x → w.cell? ⟨g, o + j, none⟩ = some (.int .u8 (x.toNat : Int)) := by
  obtain ⟨A, c, rfl, hc, hcs⟩ := h
  obtain ⟨g, o, rfl, hr⟩ := hcs (by intro e; have h0 := congrArg List.length e; rw [u8s_length, List.length_nil] at h0; omega)
  exact ⟨g, o, c, rfl, hc, fun j x hx => hr j _ (by rw [u8s_get, hx]; rfl)⟩
theorem ArgB.cs {w : World} {A : Option Addr} {n c : Nat} {l : List UInt8} (h : ArgB w (.slice A n c) l) : Cs w A (u8s l) ∧ n = l.length ∧ n ≤ c := by
  obtain ⟨A', c', e, hc, h⟩ := h
  injection e with e1 e2 e3
  subst e1 e2 e3
  exact ⟨h, rfl, hc⟩
theorem ArgB.take {w : World} {A : Option Addr} {n c : Nat} {l : List UInt8} (h : ArgB w (.slice A n c) l) (k : Nat) (hk : k ≤ l.length) : ArgB w (.slice A k c) (l.take k) := by
  obtain ⟨hcs, rfl, hc⟩ := h.cs
  refine ⟨A, c, by rw [List.length_take, Nat.min_eq_left hk], by rw [List.length_take]; omega, fun hx => ?_⟩
  obtain ⟨g, o, rfl, hr⟩ := hcs (fun e => hx (by rw [u8s_take, e]; simp))
  refine ⟨g, o, rfl, fun j v hv => hr j v ?_⟩
  rw [u8s_take, List.getElem?_take] at hv
  split at hv
  · exact hv
  · cases hv
theorem ArgB.drop {w : World} {g o n c : Nat} {l : List UInt8} (h : ArgB w (.slice (some ⟨g, o, none⟩) n c) l) (k : Nat) (hk : k ≤ l.length) : ArgB w (.slice (some ⟨g, o + k, none⟩) (n - k) (c - k)) (l.drop k) := by
  obtain ⟨hcs, rfl, hc⟩ := h.cs
  refine ⟨some ⟨g, o + k, none⟩, c - k, by rw [List.length_drop], by rw [List.length_drop]; omega, fun hx => ?_⟩
  obtain ⟨g', o', e, hr⟩ := hcs (fun e => hx (by rw [u8s_drop, e]; simp))
  injection e with e
  injection e with e1 e2
  subst e1 e2
  refine ⟨g, o + k, rfl, fun j v hv => ?_⟩
  rw [u8s_drop, List.getElem?_drop] at hv
  rw [show o + k + j = o + (k + j) by omega]
  exact hr _ v hv
theorem bk_argB {w : World} {g : Nat} {t : TypeId} {l : List UInt8} {sp : List Value} (h : Bk w g t (u8s l ++ sp)) {c : Nat} (hc : l.length ≤ c) : ArgB w (.slice (some ⟨g, 0, none⟩) l.length c) l :=
  ⟨_, c, rfl, hc, fun _ => ⟨g, 0, rfl, fun j v hv => by
    rw [h.cell, Nat.zero_add, List.getElem?_append_left (by
      have := (List.getElem?_eq_some_iff.1 hv).1; omega)]; exact hv⟩⟩
theorem bk_argB' {w : World} {g : Nat} {t : TypeId} {l : List UInt8} (h : Bk w g t (u8s l)) {c : Nat} (hc : l.length ≤ c) : ArgB w (.slice (some ⟨g, 0, none⟩) l.length c) l :=
  bk_argB (sp := []) (by simpa using h) hc
/-- bytes that the call has made: an own row -/
def OwnB (w : World) (B : Nat) (v : Value) (l : List UInt8) : Prop := w.ownsRow B 5 1 v l.length (u8s l)
theorem own_argB {w : World} {B : Nat} {v : Value} {l : List UInt8} (hown : OwnB w B v l) : ArgB w v l := by
  unfold OwnB at hown
  rcases hown.2 with ⟨rfl, h0⟩ | ⟨g, cap, cur, rfl, hb, hh, h1, h2, h3, h4⟩
  · exact ⟨Option.none, 0, by rw [h0], by omega, fun hx => absurd (List.eq_nil_of_length_eq_zero (by simp [h0])) hx⟩
  · refine ⟨_, cap, rfl, by omega, fun hx => ⟨g, 0, rfl, fun j v hv => ?_⟩⟩
    have := hown.cells (g := g) rfl j v hv
    rwa [Addr.add_mid] at this
theorem OwnB.nil (w : World) (B : Nat) : OwnB w B (.slice none 0 0) [] := nil_own _ _ _ _
theorem OwnB.kp {w w' : World} {B : Nat} {v : Value} {l : List UInt8} {M : Nat → Prop} (h : OwnB w B v l) (hk : Kp M w w') (hm : ∀ g, v.ownBlock = some g → ¬ M g) : OwnB w' B v l := own_kp h hk hm
theorem OwnB.no {w w' : World} {B : Nat} {v : Value} {l : List UInt8} (h : OwnB w B v l) (hk : Kp No w w') : OwnB w' B v l := own_kp h hk fun _ _ m => m
theorem OwnB.mono {w : World} {B B' : Nat} {v : Value} {l : List UInt8} (h : OwnB w B v l) (hb : B' ≤ B) : OwnB w B' v l := own_mono h hb
theorem ownB_of_bk {w : World} {g B : Nat} {l : List UInt8} (h : Bk w g 5 (u8s l)) (hb : B ≤ g) (hm : l.length ≤ maxLen) : OwnB w B (.slice (some ⟨g, 0, none⟩) l.length l.length) l := by
  have := own_of_bk (n := l.length) h hb (cap := l.length) (by simp) (Nat.le_refl _) hm
  rwa [List.take_of_length_le (by simp)] at this

theorem Tryz.infoByte : (Tryz.prog.info? 5).map (fun i => (i.zero, i.size, i.bytes)) = some (some (.int .u8 0), 1, 1) := by kernel_rfl
theorem mk_bytes (n : Nat) (hn : n ≤ 140737488355328) (w : World) :
    (Instr.makeSlice 120 (.int .i64 (n : Int)) (.int .i64 (n : Int))).run Tryz.prog w = .ok (.slice (some ⟨w.heap.size, 0, none⟩) n n) (w.alloc (.cells (List.replicate n (.int .u8 0)).toArray 5)) := by
  obtain ⟨i0, hi, hz0, hz1, hz2⟩ := info_parts Tryz.infoByte
  have := mk_run (P := Tryz.prog) 120 5 i0 _ Tryz.underlying120 hi hz0 1 (.int .u8 0) (by omega) (by rfl) n (by rw [hz2]; omega) (by omega) w
  rw [hz1, Nat.mul_one] at this
  exact this
theorem u8_nat (n : Nat) : IntKind.u8.wrap (n : Int) = ((UInt8.ofNat n).toNat : Int) := by
  rw [IntKind.wrap_u8, UInt8.toNat_ofNat']; omega
theorem byte_bd (c : UInt8) : 0 ≤ (c.toNat : Int) ∧ (c.toNat : Int) < 256 := by have := c.toNat_lt; omega
theorem take_snoc8 (l : List UInt8) (k : Nat) (h : k < l.length) : l.take (k + 1) = l.take k ++ [l[k]] := List.take_succ_eq_append_getElem h
theorem cs_new {w : World} {g : Nat} {t : TypeId} {xs : List Value} {C : Array Value} (hg : g = w.heap.size) (hC : C = xs.toArray) : Cs (w.alloc (.cells C t)) (some ⟨g, 0, none⟩) xs := fun _ => ⟨g, 0, rfl, fun j v hv => by
  rw [(Bk.new' hg hC : Bk _ g t xs).cell, Nat.zero_add]; exact hv⟩
theorem u8s_nat (q : Nat) : u8s [UInt8.ofNat q] = [.int .u8 ((q : Int) % 256)] := by
  simp only [u8s, List.map_cons, List.map_nil]
  rw [← u8_nat, IntKind.wrap_u8]
theorem OwnB.alloc {w : World} {B : Nat} {v : Value} {l : List UInt8} (h : OwnB w B v l) (o : Obj) : OwnB (w.alloc o) B v l := h.no ((Kp.refl No w).alloc o)
theorem OwnB.alloc' {w : World} {B k : Nat} {v : Value} {l : List UInt8} (h : OwnB w B v l) (hk : l.length = k) (o : Obj) : (w.alloc o).ownsRow B 5 1 v k (u8s l) := by subst hk; exact h.alloc o
theorem own_of {w : World} {B k : Nat} {v : Value} {l m : List UInt8} {ms : List Value} (h : w.ownsRow B 5 1 v k (u8s l ++ ms)) (hm : ms = u8s m) : OwnB w B v (l ++ m) := by
  subst hm
  rw [← u8s_append] at h
  have hl : (l ++ m).length = k := by have := h.1; simpa using this
  subst hl; exact h
/-- from an own row that began at B, only that row or new blocks have changed: nothing below B -/
theorem kp_own {w wr w' : World} {v : Value} {n : Nat} {xs : List Value} {t : TypeId} {size : Nat} (h : wr.ownsRow w.heap.size t size v n xs) (k : Kp No w wr) (k2 : Kp (fun k => v.ownBlock = some k) wr w') : Kp No w w' :=
  k.then_ k2 fun i hi hm => by
    have := (h.lt i hm).1; omega
end Go.Proofs.YtccadcefhfdmgaaGreatDoor
