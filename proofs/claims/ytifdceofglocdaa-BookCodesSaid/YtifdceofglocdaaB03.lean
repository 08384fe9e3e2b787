/- Several texts of this claim in one. No condition beyond what each theorem states. -/
import Derived.Test.YtifdceofglocdaaB02
import Derived.Test.YtifdceofglocdaaB01
import Derived.Laws.BitsAllLaws
import Derived.Deep.RegionLaw
import Derived.Deep.Cut
import Derived.Deep.CutRange
import Derived.Deep.DeepCutAuto
import Derived.PlainAid
import Derived.OwnWalk
import Derived.Laws.ShiftsVarLaws
import Derived.Laws.BytesArg
/- Lists of bytes in memory. No condition beyond what each theorem states. -/
namespace Go.Proofs.Ytifdceofglocdaa
open Go Go.RowKit

/-- bytes as cells -/
def u8s (l : List UInt8) : List Value := l.map fun c => .int .u8 (c.toNat : Int)
@[simp] theorem u8s_length (l : List UInt8) : (u8s l).length = l.length := by simp [u8s]
theorem u8s_one (l : List UInt8) : ∀ v ∈ u8s l, v.oneCell' = true := by
  intro v hv; simp only [u8s, List.mem_map] at hv; obtain ⟨c, _, rfl⟩ := hv; rfl
theorem u8s_get (l : List UInt8) (j : Nat) : (u8s l)[j]? = (l[j]?).map fun c => .int .u8 (c.toNat : Int) := by simp [u8s]
theorem u8s_append (l m : List UInt8) : u8s (l ++ m) = u8s l ++ u8s m := by simp [u8s]
theorem u8s_take (l : List UInt8) (k : Nat) : u8s (l.take k) = (u8s l).take k := by simp [u8s]
theorem u8s_drop (l : List UInt8) (k : Nat) : u8s (l.drop k) = (u8s l).drop k := by simp [u8s]
theorem u8s_set (l : List UInt8) (k : Nat) (c : UInt8) : (u8s l).set k (.int .u8 (c.toNat : Int)) = u8s (l.set k c) := by simp [u8s, List.map_set]
theorem u8s_zero (n : Nat) : u8s (List.replicate n 0) = List.replicate n (.int .u8 0) := by simp [u8s]
theorem u8s_inj {l m : List UInt8} (h : u8s l = u8s m) : l = m := by
  refine List.map_inj_right (f := fun c : UInt8 => Value.int .u8 (c.toNat : Int)) ?_ |>.1 h
  intro a b e
  injection e with _ e
  exact UInt8.toNat_inj.1 (by omega)
/-- what a slice of bytes holds -/
def ArgB (w : World) (v : Value) (l : List UInt8) : Prop := ∃ A c, v = .slice A l.length c ∧ l.length ≤ c ∧ Cs w A (u8s l)
theorem ArgB.kp {w w' : World} {v : Value} {l : List UInt8} {M : Nat → Prop} (h : ArgB w v l) (hk : Kp M w w') (hM : ∀ g o n c, v = .slice (some ⟨g, o, none⟩) n c → ¬ M g) : ArgB w' v l := by
  obtain ⟨A, c, rfl, hc, h⟩ := h
  exact ⟨A, c, rfl, hc, h.kp hk fun g o e => hM g o _ _ (by rw [e])⟩
theorem ArgB.no {w w' : World} {v : Value} {l : List UInt8} (h : ArgB w v l) (hk : Kp No w w') : ArgB w' v l := h.kp hk fun _ _ _ _ _ m => m
theorem ArgB.nil (w : World) (A : Option Addr) (c : Nat) : ArgB w (.slice A 0 c) [] := ⟨A, c, rfl, Nat.zero_le _, fun h => absurd rfl h⟩
theorem ArgB.form {w : World} {v : Value} {l : List UInt8} (h : ArgB w v l) : ∃ A c, v = .slice A l.length c ∧ l.length ≤ c := by
  obtain ⟨A, c, e, hc, _⟩ := h; exact ⟨A, c, e, hc⟩
theorem ArgB.at_ {w : World} {v : Value} {l : List UInt8} (h : ArgB w v l) (hk : 0 < l.length) : ∃ g o c, v = .slice (some ⟨g, o, none⟩) l.length c ∧ l.length ≤ c ∧ ∀ j x, l[j]? = some x → w.cell? ⟨g, o + j, none⟩ = some (.int .u8 (x.toNat : Int)) := by
  obtain ⟨A, c, rfl, hc, hcs⟩ := h
  obtain ⟨g, o, rfl, hr⟩ := hcs (by intro e; have h0 := congrArg List.length e; rw [u8s_length, List.length_nil] at h0; omega)
  exact ⟨g, o, c, rfl, hc, fun j x hx => hr j _ (by rw [u8s_get, hx]; rfl)⟩
theorem ArgB.cs {w : World} {A : Option Addr} {n c : Nat} {l : List UInt8} (h : ArgB w (.slice A n c) l) : Cs w A (u8s l) ∧ n = l.length ∧ n ≤ c := by
  obtain ⟨A', c', e, hc, h⟩ := h
  injection e with e1 e2 e3
  subst e1 e2 e3
  exact ⟨h, rfl, hc⟩
theorem ArgB.take {w : World} {A : Option Addr} {n c : Nat} {l : List UInt8} (h : ArgB w (.slice A n c) l) (k : Nat) (hk : k ≤ l.length) : ArgB w (.slice A k c) (l.take k) := by
  obtain ⟨hcs, rfl, hc⟩ := h.cs
  refine ⟨A, c, by rw [List.length_take, Nat.min_eq_left hk], by rw [List.length_take]; omega, fun hx => ?_⟩
  obtain ⟨g, o, rfl, hr⟩ := hcs (fun e => hx (by rw [u8s_take, e]; simp))
  refine ⟨g, o, rfl, fun j v hv => hr j v ?_⟩
  rw [u8s_take, List.getElem?_take] at hv
  split at hv
  · exact hv
  · cases hv
theorem ArgB.drop {w : World} {g o n c : Nat} {l : List UInt8} (h : ArgB w (.slice (some ⟨g, o, none⟩) n c) l) (k : Nat) (hk : k ≤ l.length) : ArgB w (.slice (some ⟨g, o + k, none⟩) (n - k) (c - k)) (l.drop k) := by
  obtain ⟨hcs, rfl, hc⟩ := h.cs
  refine ⟨some ⟨g, o + k, none⟩, c - k, by rw [List.length_drop], by rw [List.length_drop]; omega, fun hx => ?_⟩
  obtain ⟨g', o', e, hr⟩ := hcs (fun e => hx (by rw [u8s_drop, e]; simp))
  injection e with e
  injection e with e1 e2
  subst e1 e2
  refine ⟨g, o + k, rfl, fun j v hv => ?_⟩
  rw [u8s_drop, List.getElem?_drop] at hv
  rw [show o + k + j = o + (k + j) by omega]
  exact hr _ v hv
theorem bk_argB {w : World} {g : Nat} {t : TypeId} {l : List UInt8} {sp : List Value} (h : Bk w g t (u8s l ++ sp)) {c : Nat} (hc : l.length ≤ c) : ArgB w (.slice (some ⟨g, 0, none⟩) l.length c) l :=
  ⟨_, c, rfl, hc, fun _ => ⟨g, 0, rfl, fun j v hv => by
    rw [h.cell, Nat.zero_add, List.getElem?_append_left (by
      have := (List.getElem?_eq_some_iff.1 hv).1; omega)]; exact hv⟩⟩
theorem bk_argB' {w : World} {g : Nat} {t : TypeId} {l : List UInt8} (h : Bk w g t (u8s l)) {c : Nat} (hc : l.length ≤ c) : ArgB w (.slice (some ⟨g, 0, none⟩) l.length c) l :=
  bk_argB (sp := []) (by simpa using h) hc
/-- bytes that the call has made: an own row -/
def OwnB (w : World) (B : Nat) (v : Value) (l : List UInt8) : Prop := w.ownsRow B 5 1 v l.length (u8s l)
theorem own_argB {w : World} {B : Nat} {v : Value} {l : List UInt8} (hown : OwnB w B v l) : ArgB w v l := by
  unfold OwnB at hown
  rcases hown.2 with ⟨rfl, h0⟩ | ⟨g, cap, cur, rfl, hb, hh, h1, h2, h3, h4⟩
  · exact ⟨Option.none, 0, by rw [h0], by omega, fun hx => absurd (List.eq_nil_of_length_eq_zero (by simp [h0])) hx⟩
  · refine ⟨_, cap, rfl, by omega, fun hx => ⟨g, 0, rfl, fun j v hv => ?_⟩⟩
    have := hown.cells (g := g) rfl j v hv
    rwa [Addr.add_mid] at this
theorem OwnB.nil (w : World) (B : Nat) : OwnB w B (.slice none 0 0) [] := nil_own _ _ _ _
theorem OwnB.kp {w w' : World} {B : Nat} {v : Value} {l : List UInt8} {M : Nat → Prop} (h : OwnB w B v l) (hk : Kp M w w') (hm : ∀ g, v.ownBlock = some g → ¬ M g) : OwnB w' B v l := own_kp h hk hm
theorem OwnB.no {w w' : World} {B : Nat} {v : Value} {l : List UInt8} (h : OwnB w B v l) (hk : Kp No w w') : OwnB w' B v l := own_kp h hk fun _ _ m => m
theorem OwnB.mono {w : World} {B B' : Nat} {v : Value} {l : List UInt8} (h : OwnB w B v l) (hb : B' ≤ B) : OwnB w B' v l := own_mono h hb
theorem ownB_of_bk {w : World} {g B : Nat} {l : List UInt8} (h : Bk w g 5 (u8s l)) (hb : B ≤ g) (hm : l.length ≤ maxLen) : OwnB w B (.slice (some ⟨g, 0, none⟩) l.length l.length) l := by
  have := own_of_bk (n := l.length) h hb (cap := l.length) (by simp) (Nat.le_refl _) hm
  rwa [List.take_of_length_le (by simp)] at this

theorem Try.infoByte : (Try.prog.info? 5).map (fun i => (i.zero, i.size, i.bytes)) = some (some (.int .u8 0), 1, 1) := by kernel_rfl
theorem mk_bytes (n : Nat) (hn : n ≤ 140737488355328) (w : World) :
    (Instr.makeSlice 46 (.int .i64 (n : Int)) (.int .i64 (n : Int))).run Try.prog w = .ok (.slice (some ⟨w.heap.size, 0, none⟩) n n) (w.alloc (.cells (List.replicate n (.int .u8 0)).toArray 5)) := by
  obtain ⟨i0, hi, hz0, hz1, hz2⟩ := info_parts Try.infoByte
  have := mk_run (P := Try.prog) 46 5 i0 _ Try.underlying46 hi hz0 1 (.int .u8 0) (by omega) (by rfl) n (by rw [hz2]; omega) (by omega) w
  rw [hz1, Nat.mul_one] at this
  exact this
theorem u8_nat (n : Nat) : IntKind.u8.wrap (n : Int) = ((UInt8.ofNat n).toNat : Int) := by
  rw [IntKind.wrap_u8, UInt8.toNat_ofNat']; omega
theorem byte_bd (c : UInt8) : 0 ≤ (c.toNat : Int) ∧ (c.toNat : Int) < 256 := by have := c.toNat_lt; omega
theorem take_snoc8 (l : List UInt8) (k : Nat) (h : k < l.length) : l.take (k + 1) = l.take k ++ [l[k]] := List.take_succ_eq_append_getElem h
theorem cs_new {w : World} {g : Nat} {t : TypeId} {xs : List Value} {C : Array Value} (hg : g = w.heap.size) (hC : C = xs.toArray) : Cs (w.alloc (.cells C t)) (some ⟨g, 0, none⟩) xs := fun _ => ⟨g, 0, rfl, fun j v hv => by
  rw [(Bk.new' hg hC : Bk _ g t xs).cell, Nat.zero_add]; exact hv⟩
theorem u8s_nat (q : Nat) : u8s [UInt8.ofNat q] = [.int .u8 ((q : Int) % 256)] := by
  simp only [u8s, List.map_cons, List.map_nil]
  rw [← u8_nat, IntKind.wrap_u8]
theorem OwnB.alloc {w : World} {B : Nat} {v : Value} {l : List UInt8} (h : OwnB w B v l) (o : Obj) : OwnB (w.alloc o) B v l := h.no ((Kp.refl No w).alloc o)
theorem OwnB.alloc' {w : World} {B k : Nat} {v : Value} {l : List UInt8} (h : OwnB w B v l) (hk : l.length = k) (o : Obj) : (w.alloc o).ownsRow B 5 1 v k (u8s l) := by subst hk; exact h.alloc o
theorem own_of {w : World} {B k : Nat} {v : Value} {l m : List UInt8} {ms : List Value} (h : w.ownsRow B 5 1 v k (u8s l ++ ms)) (hm : ms = u8s m) : OwnB w B v (l ++ m) := by
  subst hm
  rw [← u8s_append] at h
  have hl : (l ++ m).length = k := by have := h.1; simpa using this
  subst hl; exact h
/-- from an own row that began at B, only that row or new blocks have changed: nothing below B -/
theorem kp_own {w wr w' : World} {v : Value} {n : Nat} {xs : List Value} {t : TypeId} {size : Nat} (h : wr.ownsRow w.heap.size t size v n xs) (k : Kp No w wr) (k2 : Kp (fun k => v.ownBlock = some k) wr w') : Kp No w w' :=
  k.then_ k2 fun i hi hm => by
    have := (h.lt i hm).1; omega
end Go.Proofs.Ytifdceofglocdaa

/- Numbers as bytes: the words in which the programs reckon them. No condition beyond what each theorem states. -/
namespace Go.Proofs.Ytifdceofglocdaa
open Go

set_option maxRecDepth 10000 in
theorem or128 : ∀ a : Nat, a < 256 → a ||| 128 = a % 128 + 128 := by decide
set_option maxRecDepth 10000 in
theorem and127 : ∀ a : Nat, a < 256 → a &&& 127 = a % 128 := by decide
theorem or_shift (x c i : Nat) (h : x < 128 ^ i) : x ||| (c <<< (7 * i)) = x + c * 128 ^ i := by
  have e : (128 : Nat) ^ i = 2 ^ (7 * i) := by rw [Nat.pow_mul]
  rw [e] at h ⊢
  rw [Nat.or_comm, ← Nat.shiftLeft_add_eq_or_of_lt h, Nat.shiftLeft_eq, Nat.add_comm]
/-- what is taken up from the i-th byte on, what was taken before being acc -/
def takeA (acc i : Nat) (l : List UInt8) : Nat × Nat × Int := if (takeN i l).2.2 = 0 then (acc + (takeN i l).1 * 128 ^ i, i + (takeN i l).2.1, 0) else (0, 0, (takeN i l).2.2)
theorem takeA_start (l : List UInt8) : takeA 0 0 l = takeN 0 l := by
  unfold takeA
  have key : ∀ (l : List UInt8) (i : Nat), (takeN i l).2.2 ≠ 0 → takeN i l = (0, 0, (takeN i l).2.2) := by
    intro l
    induction l with
    | nil => intro i _; rfl
    | cons c r ih =>
      intro i h
      unfold takeN at h ⊢
      by_cases h1 : c.toNat < 128
      · rw [if_pos h1] at h ⊢
        by_cases h2 : c.toNat = 0 ∧ 0 < i
        · rw [if_pos h2]
        · rw [if_neg h2] at h; exact absurd rfl h
      · rw [if_neg h1] at h ⊢
        by_cases h2 : i = 8
        · rw [if_pos h2]
        · rw [if_neg h2] at h ⊢
          by_cases h3 : (takeN (i + 1) r).2.2 = 0
          · simp only [h3, if_true] at h; exact absurd rfl h
          · simp only [h3, if_false]
  by_cases h : (takeN 0 l).2.2 = 0
  · rw [if_pos h]
    have e : takeN 0 l = ((takeN 0 l).1, (takeN 0 l).2.1, (takeN 0 l).2.2) := rfl
    rw [e, h]
    simp
  · rw [if_neg h, ← key l 0 h]
theorem takeA_nil (acc i : Nat) : takeA acc i [] = (0, 0, 20) := by unfold takeA takeN; rfl
theorem takeA_last (acc i : Nat) (c : UInt8) (r : List UInt8) (h : c.toNat < 128) (h2 : ¬ (c.toNat = 0 ∧ 0 < i)) : takeA acc i (c :: r) = (acc + c.toNat * 128 ^ i, i + 1, 0) := by
  have e : takeN i (c :: r) = (c.toNat, 1, 0) := by
    unfold takeN
    rw [if_pos h, if_neg h2]
  unfold takeA
  rw [e]
  rfl
theorem takeA_zero (acc i : Nat) (c : UInt8) (r : List UInt8) (h : c.toNat = 0) (h2 : 0 < i) : takeA acc i (c :: r) = (0, 0, 21) := by
  have e : takeN i (c :: r) = (0, 0, 21) := by
    unfold takeN
    rw [if_pos (by omega : c.toNat < 128), if_pos ⟨h, h2⟩]
  unfold takeA
  rw [e]
  rfl
theorem takeA_long (acc : Nat) (c : UInt8) (r : List UInt8) (h : 128 ≤ c.toNat) : takeA acc 8 (c :: r) = (0, 0, 21) := by
  have e : takeN 8 (c :: r) = (0, 0, 21) := by
    unfold takeN
    rw [if_neg (by omega : ¬ c.toNat < 128), if_pos rfl]
  unfold takeA
  rw [e]
  rfl
theorem takeA_more (acc i : Nat) (c : UInt8) (r : List UInt8) (h : 128 ≤ c.toNat) (hi : i ≠ 8) : takeA acc i (c :: r) = takeA (acc + (c.toNat - 128) * 128 ^ i) (i + 1) r := by
  unfold takeA
  have e : takeN i (c :: r) = if (takeN (i + 1) r).2.2 = 0 then (c.toNat - 128 + 128 * (takeN (i + 1) r).1, (takeN (i + 1) r).2.1 + 1, 0) else (0, 0, (takeN (i + 1) r).2.2) := by
    conv => lhs; unfold takeN
    rw [if_neg (by omega), if_neg hi]
  rw [e]
  by_cases h3 : (takeN (i + 1) r).2.2 = 0
  · rw [if_pos h3, if_pos h3]
    simp only [if_true, Prod.mk.injEq, and_true]
    refine ⟨?_, by omega⟩
    rw [Nat.add_mul, Nat.pow_succ, ← Nat.add_assoc]
    congr 1
    rw [Nat.mul_comm 128, Nat.mul_assoc, Nat.mul_comm 128]
  · rw [if_neg h3, if_neg h3, if_neg h3]
/-- the value that is taken stays below 2^63 -/
theorem takeN_lt (l : List UInt8) : (takeN 0 l).1 < 9223372036854775808 := by
  by_cases h : (takeN 0 l).2.2 = 0
  · have e : takeN 0 l = ((takeN 0 l).1, (takeN 0 l).2.1, 0) := by rw [← h]
    exact (take_inv e).2.2
  · have := takeA_start l
    unfold takeA at this
    rw [if_neg h] at this
    rw [← this]
    show (0 : Nat) < _
    omega
theorem takeN_len (l : List UInt8) : (takeN 0 l).2.1 ≤ l.length := by
  by_cases h : (takeN 0 l).2.2 = 0
  · have e : takeN 0 l = ((takeN 0 l).1, (takeN 0 l).2.1, 0) := by rw [← h]
    obtain ⟨h1, h2, _⟩ := take_inv e
    have h3 := congrArg List.length h1
    rw [List.length_append] at h3
    omega
  · have := takeA_start l
    unfold takeA at this
    rw [if_neg h] at this
    rw [← this]
    exact Nat.zero_le _
end Go.Proofs.Ytifdceofglocdaa

/- octets.Writer by contracts. No condition beyond what each theorem states. -/
namespace Go.Proofs.Ytifdceofglocdaa
open Go Go.RowKit

/-- a writer at b that holds the bytes l, in a block of its own from B on -/
def WrB (w : World) (b B : Nat) (v : Value) (l : List UInt8) : Prop := Bk w b 78 [v] ∧ OwnB w B v l
/-- the blocks that a call on it may change -/
def WrM (b : Nat) (v : Value) : Nat → Prop := fun k => k = b ∨ v.ownBlock = some k
/-- it lies where it lay, or in a new block -/
def Nxt (w : World) (v v' : Value) : Prop := ∀ g, v'.ownBlock = some g → v.ownBlock = some g ∨ w.heap.size ≤ g
def WrAft (w : World) (b B : Nat) (v : Value) (l : List UInt8) (w' : World) : Prop := ∃ v', WrB w' b B v' l ∧ Kp (WrM b v) w w' ∧ Nxt w v v'
theorem WrAft.start {w : World} {b B : Nat} {v : Value} {l : List UInt8} (h : WrB w b B v l) : WrAft w b B v l w := ⟨v, h, Kp.refl _ _, fun _ h => .inl h⟩
theorem WrAft.then_ {w w1 w2 : World} {b B : Nat} {v v1 : Value} {l2 : List UInt8} (k1 : Kp (WrM b v) w w1) (n1 : Nxt w v v1) (h2 : WrAft w1 b B v1 l2 w2) : WrAft w b B v l2 w2 := by
  obtain ⟨v2, b2, k2, n2⟩ := h2
  refine ⟨v2, b2, k1.then_ k2 ?_, ?_⟩
  · intro i hi hm
    rcases hm with hm | hm
    · exact .inl hm
    · rcases n1 i hm with h | h
      · exact .inr h
      · omega
  · intro g hg
    rcases n2 g hg with h | h
    · exact n1 g h
    · right; have := k1.size; omega
theorem WrB.step {wr w2 : World} {b B g cap : Nat} {vv : Value} {l : List UInt8} {c : UInt8} {o : Obj} (h : WrB wr b B vv l)
    (hown : w2.ownsRow B 5 1 (.slice (some ⟨g, 0, none⟩) (l.length + 1) cap) (l.length + 1) (u8s l ++ [.int .u8 (c.toNat : Int)])) (hk : Kp (fun k => vv.ownBlock = some k) (wr.alloc o) w2) (hat : vv.ownBlock = some g ∨ g = (wr.alloc o).heap.size) :
    WrAft wr b B vv (l ++ [c]) (w2.setCell ⟨b, 0, none⟩ (.slice (some ⟨g, 0, none⟩) (l.length + 1) cap)) := by
  obtain ⟨h1, h2⟩ := h
  have hO : OwnB w2 B (.slice (some ⟨g, 0, none⟩) (l.length + 1) cap) (l ++ [c]) := own_of (m := [c]) hown rfl
  have hne : vv.ownBlock ≠ some b := own_ne h2 h1 (by decide)
  have B2 : Bk w2 b 78 [vv] := (h1.alloc o).kp hk hne
  have hgb : (Value.slice (some ⟨g, 0, none⟩) (l.length + 1) cap).ownBlock ≠ some b := own_ne hO B2 (by decide)
  refine ⟨_, ⟨B2.set_ 0 _, hO.kp (M := One b) ((Kp.refl (One b) w2).set (g := b) (.inl rfl) 0 _) fun k hk hm => hgb (by rw [hk]; exact congrArg _ hm)⟩, ?_, ?_⟩
  · exact (((Kp.refl (WrM b vv) wr).alloc o).then_ hk fun i _ hm => .inr hm).set (.inl (.inl rfl)) 0 _
  · intro k hk
    have hk : g = k := by simpa [Value.ownBlock] using hk
    subst hk
    rcases hat with h | h
    · exact .inl h
    · right; rw [h]; simp
theorem or_u8 (m : Nat) : bits .or .u8 ((m : Int) % 256) 128 = ((UInt8.ofNat (m % 128 + 128)).toNat : Int) := by
  have h1 : (m : Int) % 256 = ((m % 256 : Nat) : Int) := by omega
  rw [h1, show (128 : Int) = ((128 : Nat) : Int) from rfl, u8_or_nat _ _ (by omega) (by omega), or128 _ (by omega), UInt8.toNat_ofNat']
  congr 1
  omega

set_option maxHeartbeats 1000000 in
theorem wnum_nil (n : Int) (w : World) : Calls Try.prog 53 #[.pointer none, .int .i64 n] w fun e w' => e = .returned (.tuple #[]) ∧ w = w' := by
  go_enter Try.func53, Try.ntmps53
  go_wp2
  refine bodyPost_ret (results_none rfl _ _ _) rfl ?_
  exact ⟨rfl, rfl⟩
set_option maxHeartbeats 1000000 in
theorem wnum_any (b B : Nat) (v : Value) (l : List UInt8) (n : Int) (w : World) (h : WrB w b B v l) (hB : B ≤ w.heap.size) (hl : l.length ≤ 1000000) (hn : n < 9223372036854775808) :
    Calls Try.prog 53 #[.pointer (some ⟨b, 0, none⟩), .int .i64 n] w fun e w' => e = .returned (.tuple #[]) ∧ WrAft w b B v (l ++ numS n.toNat) w' := by
  obtain ⟨N, hN⟩ : ∃ N : Nat, max n 0 = (N : Int) := ⟨n.toNat, by omega⟩
  have hN2 : n.toNat = N := by omega
  rw [hN2]
  have hlen : (numS N).length ≤ 9 := numS_len 8 N (by omega)
  have HL := Lib.hid hlen; have HN2 := Lib.hid hN2; clear hlen hN2
  have HW := Lib.hid h
  have hwr : IntKind.u64.wrap (N : Int) = (N : Int) := by rw [IntKind.wrap_u64]; omega
  clear h
  go_enter Try.func53, Try.ntmps53
  go_upto_region 1 with (fail)
  go_cut [4] (fun t wx => t = .int .u64 (N : Int) ∧ w = wx)
  case first =>
    by_cases h0 : n < 0
    · have e0 : N = 0 := by omega
      subst e0
      go_wp2
      go_meet
      exact ⟨rfl, rfl⟩
    · have e0 : n = (N : Int) := by omega
      subst e0
      go_wp2
      go_meet
      exact ⟨by first | rfl | rw [hwr], rfl⟩
  case rest =>
    obtain ⟨rfl, rfl⟩ := hcut
    go_wp2
    go_loopw [4] (fun t wr => ∃ (m : Nat) (l' : List UInt8), t = .int .u64 (m : Int) ∧ m ≤ N ∧ l' ++ numS m = l ++ numS N ∧ WrAft w b B v l' wr) (fun t _ => (intOf t).toNat)
    case atStart => exact ⟨N, l, rfl, Nat.le_refl _, rfl, WrAft.start HW.out⟩
    case round =>
      obtain ⟨m, l', rfl, hm, hl', va, ⟨hb, ho⟩, hk, hn'⟩ := hrel
      have hll : l'.length ≤ 1000009 := by
        have := congrArg List.length hl'
        rw [List.length_append, List.length_append] at this
        have := HL.out; omega
      obtain ⟨A, c, rfl⟩ : ∃ A c, va = .slice A l'.length c := by obtain ⟨A, c, h, _⟩ := own_len ho; exact ⟨A, c, h⟩
      have z0 : wr.cell? ⟨b, 0, none⟩ = some (.slice A l'.length c) := hb.cell 0
      have zf := hb.frozen
      have hsz : B ≤ wr.heap.size := Nat.le_trans hB hk.size
      have HB := Lib.hid hb; have HO := Lib.hid ho; have HK := Lib.hid hk; have HX := Lib.hid hn'; have HE := Lib.hid hl'; clear hb ho hk hn' hl'
      have hor := or_u8 m
      have hm63 : (m : Int) < 9223372036854775808 := by omega
      by_cases hlt : 127 < m
      · have h1 : (127 : Int) < (m : Int) := by omega
        clear hor
        go_wp2_with (at_builtin; refine wpList_app1 _ rfl _ _ 46 rfl B 5 _ 1 1 Try.underlying46 Try.infoByte rfl (by omega) _ l'.length (u8s l') rfl (HO.out.alloc _) _ _ _ rfl (Bk.new' (by simp) rfl) rfl (by simp [Value.oneCell']) (by omega) (by omega) (by simp; omega) ?_; intro g1 cap1 w1 hown1 hk1 hat1; have B1 : Bk w1 b 78 [.slice A l'.length c] := (HB.out.alloc _).kp hk1 (own_ne HO.out HB.out (by decide)); have z1 : w1.cell? ⟨b, 0, none⟩ = some (.slice A l'.length c) := B1.cell 0; have zf1 := B1.frozen; clear B1)
        rw [or_u8] at hown1
        have HS := Lib.hid (WrB.step ⟨HB.out, HO.out⟩ hown1 hk1 hat1)
        clear hown1 hk1 hat1
        go_roundw
        case rel => exact ⟨m / 128, l' ++ [UInt8.ofNat (m % 128 + 128)], by go_num, by omega, by rw [← HE.out, numS_big (n := m) (by omega), List.append_assoc]; rfl, WrAft.then_ HK.out HX.out HS.out⟩
        case measure => simp [intOf]; omega
      · have h1 : ¬ (127 : Int) < (m : Int) := by omega
        clear hor
        go_wp2_with (at_builtin; refine wpList_app1 _ rfl _ _ 46 rfl B 5 _ 1 1 Try.underlying46 Try.infoByte rfl (by omega) _ l'.length (u8s l') rfl (HO.out.alloc _) _ _ _ rfl (Bk.new' (by simp) rfl) rfl (by simp [Value.oneCell']) (by omega) (by omega) (by simp; omega) ?_; intro g1 cap1 w1 hown1 hk1 hat1; have B1 : Bk w1 b 78 [.slice A l'.length c] := (HB.out.alloc _).kp hk1 (own_ne HO.out HB.out (by decide)); have z1 : w1.cell? ⟨b, 0, none⟩ = some (.slice A l'.length c) := B1.cell 0; have zf1 := B1.frozen; clear B1)
        rw [show (m : Int) = ((UInt8.ofNat m).toNat : Int) by rw [UInt8.toNat_ofNat']; omega] at hown1
        have HS := Lib.hid (WrB.step ⟨HB.out, HO.out⟩ hown1 hk1 hat1)
        clear hown1 hk1 hat1
        go_end0
        refine ⟨rfl, ?_⟩
        rw [← HE.out, numS_small (n := m) (by omega)]
        exact WrAft.then_ HK.out HX.out HS.out
set_option maxHeartbeats 1000000 in
theorem wbytes_any (b B : Nat) (v : Value) (l : List UInt8) (w : World) (h : WrB w b B v l) (_hB : B ≤ w.heap.size) (hl : l.length ≤ 1000000) :
    Calls Try.prog 56 #[.pointer (some ⟨b, 0, none⟩)] w fun e w' => ∃ v', e = .returned v' ∧ OwnB w' w.heap.size v' l ∧ Kp No w w' := by
  obtain ⟨hb, ho⟩ := h
  obtain ⟨A, c, rfl⟩ : ∃ A c, v = .slice A l.length c := by obtain ⟨A, c, h, _⟩ := own_len ho; exact ⟨A, c, h⟩
  have z0 : w.cell? ⟨b, 0, none⟩ = some (.slice A l.length c) := hb.cell 0
  have HO := Lib.hid ho; clear ho hb
  go_enter Try.func56, Try.ntmps56
  go_wp2_with (at_builtin; refine (wpList_appV _ rfl _ _ 46 rfl w.heap.size 5 _ 1 Try.underlying46 Try.infoByte rfl _ 0 [] rfl (nil_own _ _ _ _) A l.length c (u8s l) rfl (by simp) (own_argB HO.out).cs.1 (u8s_one _) (by omega) (by omega) (Nat.le_refl _) ?_); intro v1 w1 o1 k1 _)
  have O1 : OwnB w1 w.heap.size v1 l := own_of (l := []) o1 rfl
  have K1 : Kp No w w1 := k1.mono (fun _ _ h => by cases h)
  go_ret
  exact ⟨_, rfl, O1, K1⟩
end Go.Proofs.Ytifdceofglocdaa

/- octets.Reader by contracts. No condition beyond what each theorem states. -/
namespace Go.Proofs.Ytifdceofglocdaa
open Go Go.RowKit Go.PlainAid

theorem pow_le8 {k : Nat} (h : k ≤ 8) : 128 ^ k ≤ 72057594037927936 := by
  have : 128 ^ k ≤ 128 ^ 8 := Nat.pow_le_pow_right (by omega) h
  simpa using this
theorem or_acc (acc k : Nat) (x : UInt8) (hk : k ≤ 8) (h : acc < 128 ^ k) :
    bits .or .u64 (acc : Int) (IntKind.u64.wrap (IntKind.u64.wrap (bits .and .u8 (x.toNat : Int) 127) * 2 ^ (7 * k))) = ((acc + x.toNat % 128 * 128 ^ k : Nat) : Int) := by
  have hx := x.toNat_lt
  have hp := pow_le8 hk
  have h1 : bits .and .u8 (x.toNat : Int) 127 = ((x.toNat % 128 : Nat) : Int) := by
    rw [show (127 : Int) = ((127 : Nat) : Int) from rfl, u8_and_nat _ _ (by omega) (by omega), and127 _ (by omega)]
  have h2 : x.toNat % 128 * 128 ^ k ≤ 127 * 72057594037927936 := Nat.mul_le_mul (by omega) hp
  have h3 : ((x.toNat % 128 : Nat) : Int) * 2 ^ (7 * k) = ((x.toNat % 128 * 128 ^ k : Nat) : Int) := by
    rw [Int.natCast_mul, Int.natCast_pow, show ((128 : Nat) : Int) = 2 ^ 7 by rfl, ← Int.pow_mul]
  have h4 : IntKind.u64.wrap ((x.toNat % 128 : Nat) : Int) = ((x.toNat % 128 : Nat) : Int) := by rw [IntKind.wrap_u64]; omega
  have h5 : IntKind.u64.wrap ((x.toNat % 128 * 128 ^ k : Nat) : Int) = ((x.toNat % 128 * 128 ^ k : Nat) : Int) := by
    rw [IntKind.wrap_u64]; generalize x.toNat % 128 * 128 ^ k = z at *; omega
  rw [h1, h4, h3, h5, u64_or_nat _ _ (by omega) (by generalize x.toNat % 128 * 128 ^ k = z at *; omega)]
  congr 1
  have := or_shift acc (x.toNat % 128) k h
  rw [Nat.shiftLeft_eq, show 2 ^ (7 * k) = 128 ^ k by rw [Nat.pow_mul]] at this
  exact this
theorem acc_lt (acc k : Nat) (x : Nat) (h : acc < 128 ^ k) : acc + x % 128 * 128 ^ k < 128 ^ (k + 1) := by
  have : x % 128 * 128 ^ k ≤ 127 * 128 ^ k := Nat.mul_le_mul_right _ (by omega)
  rw [Nat.pow_succ]
  omega
set_option maxRecDepth 100000 in
set_option maxHeartbeats 2000000 in
theorem onum_any (A : Option Addr) (c : Nat) (l : List UInt8) (w : World) (hv : ArgB w (.slice A l.length c) l) (hm : l.length ≤ maxLen) :
    Calls Try.prog 85 #[.slice A l.length c] w fun e w' => e = .returned (.tuple #[.int .i64 ((takeN 0 l).1 : Int), .int .i64 ((takeN 0 l).2.1 : Int), .int .i64 (takeN 0 l).2.2]) ∧ w = w' := by
  have HV := Lib.hid hv; clear hv
  unfold maxLen at hm
  go_enter Try.func85, Try.ntmps85
  go_wp2
  go_loopw [5, 10] (fun t i wr => ∃ k acc : Nat, k ≤ l.length ∧ k ≤ 9 ∧ acc < 128 ^ k ∧ t = .int .u64 (acc : Int) ∧ i = .int .i64 k ∧ wr = w ∧ takeA acc k (l.drop k) = takeN 0 l ∧ (k ≤ 8 ∨ l.length ≤ k)) (fun _ i _ => l.length - (intOf i).toNat)
  case atStart => exact ⟨0, 0, Nat.zero_le _, by omega, by decide, rfl, rfl, rfl, by rw [List.drop_zero]; exact takeA_start l, .inl (by omega)⟩
  case round =>
    obtain ⟨k, acc, hk, hk9, hacc, rfl, rfl, rfl, hT, h8⟩ := hrel
    have HT := Lib.hid hT; have HA := Lib.hid hacc; clear hT hacc
    by_cases hlt : k < l.length
    · have hk0 : (0 : Int) ≤ (k : Int) := by omega
      have hk1 : (k : Int) < (l.length : Int) := by omega
      have hk8 : k ≤ 8 := by omega
      clear h8 hk9
      obtain ⟨g, o, c', e1, hcl, hxx⟩ := HV.out.at_ (by omega)
      have hx := hxx k _ (List.getElem?_eq_getElem hlt)
      clear hxx
      injection e1 with e1 _ e1c
      subst e1 e1c
      have HD := Lib.hid (List.drop_eq_getElem_cons hlt)
      generalize l[k] = x at *
      have xb := byte_bd x
      go_upto_region 6 with (fail)
      rw [or_acc acc k x hk8 HA.out]
      have HB := Lib.hid (acc_lt acc k x.toNat HA.out)
      have HN := Lib.hid (show acc + x.toNat % 128 * 128 ^ k = acc + x.toNat % 128 * 128 ^ k from rfl)
      have hlt63 : acc + x.toNat % 128 * 128 ^ k < 9223372036854775808 := by
        have h1 := acc_lt acc k x.toNat HA.out
        have h2 := pow_le8 hk8
        rw [Nat.pow_succ] at h1
        omega
      obtain ⟨q, hq⟩ : ∃ q, acc + x.toNat % 128 * 128 ^ k = q := ⟨_, rfl⟩
      rw [hq] at hlt63 ⊢
      have HQ := Lib.hid hq; clear hq
      have hwq : IntKind.i64.wrap (q : Int) = (q : Int) := by rw [IntKind.wrap_i64]; omega
      obtain ⟨y, hy⟩ : ∃ y, x.toNat = y := ⟨_, rfl⟩
      rw [hy] at xb ⊢
      have H63 := Lib.hid hlt63; clear hlt63
      have HY := Lib.hid hy
      by_cases hx1 : y < 128
      · have d1 : (y : Int) < 128 := by omega
        by_cases hx2 : y = 0
        · subst hx2
          by_cases hk2 : 0 < k
          · have d2 : (0 : Int) < (k : Int) := by omega
            have HR := Lib.hid (show takeN 0 l = (0, 0, 21) by rw [← HT.out, HD.out]; exact takeA_zero acc k x _ HY.out hk2)
            go_wp2
            go_ret3
            exact ⟨by rw [HR.out]; rfl, rfl⟩
          · have e0 : k = 0 := by omega
            subst e0
            have HR := Lib.hid (show takeN 0 l = (q, 1, 0) by
              rw [← HT.out, HD.out, takeA_last acc 0 x _ (by rw [HY.out]; omega) (by omega), ← HQ.out, HY.out])
            go_wp2
            go_ret3
            exact ⟨by rw [HR.out]; rfl, rfl⟩
        · have d2 : ((y : Int) == 0) = false := by rw [beq_eq_false_iff_ne]; omega
          have HR := Lib.hid (show takeN 0 l = (q, k + 1, 0) by
            rw [← HT.out, HD.out, takeA_last acc k x _ (by rw [HY.out]; omega) (by rw [HY.out]; omega), ← HQ.out, HY.out, Nat.mod_eq_of_lt hx1])
          go_wp2
          go_ret3
          exact ⟨by rw [HR.out]; first | rfl | (rw [hwq]; rfl), rfl⟩
      · have d1 : ¬ (y : Int) < 128 := by omega
        by_cases h8 : k = 8
        · subst h8
          have HR := Lib.hid (show takeN 0 l = (0, 0, 21) by rw [← HT.out, HD.out]; exact takeA_long acc x _ (by rw [HY.out]; omega))
          go_wp2
          go_ret3
          exact ⟨by rw [HR.out]; first | rfl | (rw [hwq]; rfl), rfl⟩
        · have d2 : ((k : Int) == 8) = false := by rw [beq_eq_false_iff_ne]; omega
          have HR := Lib.hid (show takeA q (k + 1) (l.drop (k + 1)) = takeN 0 l by
            rw [← HT.out, HD.out, takeA_more acc k x _ (by rw [HY.out]; omega) h8, ← HQ.out, HY.out]
            congr 3
            omega)
          have HB2 := Lib.hid (show q < 128 ^ (k + 1) by rw [← HQ.out]; exact HB.out)
          go_wp2
          go_roundw
          case rel => exact ⟨k + 1, q, by omega, by omega, HB2.out, rfl, by go_num, by trivial, HR.out, by omega⟩
          case measure => simp [intOf]; omega
    · have hk' : k = l.length := by omega
      have hk1 : ¬ (k : Int) < (l.length : Int) := by omega
      have HR := Lib.hid (show takeN 0 l = (0, 0, 20) by rw [← HT.out, List.drop_of_length_le (by omega)]; exact takeA_nil acc k)
      clear hk'
      go_wp2
      go_ret3
      exact ⟨by rw [HR.out]; rfl, rfl⟩
end Go.Proofs.Ytifdceofglocdaa

/- octets.Reader by contracts (2). No condition beyond what each theorem states. -/
namespace Go.Proofs.Ytifdceofglocdaa
open Go Go.RowKit Go.PlainAid

/-- a reader at b that has the bytes l left -/
def RdB (w : World) (b : Nat) (v : Value) (l : List UInt8) (err : Int) : Prop := Bk w b 114 [v, .int .i64 err] ∧ ArgB w v l ∧ v.ownBlock ≠ some b
/-- a block of bytes -/
def TB (w : World) (k : Nat) : Prop := ∃ cs, Bk w k 5 cs
theorem TB.kp {w w' : World} {k : Nat} {M : Nat → Prop} (h : TB w k) (hk : Kp M w w') (hm : ¬ M k) : TB w' k := by obtain ⟨cs, h⟩ := h; exact ⟨cs, h.kp hk hm⟩
theorem own_tb {w : World} {B : Nat} {v : Value} {l : List UInt8} (h : OwnB w B v l) : ∀ g, v.ownBlock = some g → TB w g := by
  intro g hg
  rcases h.2 with ⟨e, _⟩ | ⟨g', cap, cur, e, _, hh, _⟩
  · rw [e] at hg; simp [Value.ownBlock] at hg
  · rw [e] at hg
    have : g' = g := by simpa [Value.ownBlock] using hg
    subst this
    exact ⟨cur.toList, by unfold Bk; rw [hh]⟩
/-- what it has left lies where it lay -/
def SameBlk (v v' : Value) : Prop := ∀ g, v'.ownBlock = some g → v.ownBlock = some g
theorem RdB.kp {w w' : World} {b : Nat} {v : Value} {l : List UInt8} {err : Int} {M : Nat → Prop} (h : RdB w b v l err) (hk : Kp M w w') (h1 : ¬ M b) (h2 : ∀ g, v.ownBlock = some g → ¬ M g) : RdB w' b v l err :=
  ⟨h.1.kp hk h1, h.2.1.kp hk fun g o n c e => h2 g (by rw [e]; simp [Value.ownBlock]), h.2.2⟩
set_option maxHeartbeats 1000000 in
theorem newr_any (A : Option Addr) (c : Nat) (l : List UInt8) (w : World) (hv : ArgB w (.slice A l.length c) l) (hm : l.length ≤ 1000000) :
    Calls Try.prog 60 #[.slice A l.length c] w fun e w' => ∃ b v, e = .returned (.pointer (some ⟨b, 0, none⟩)) ∧ w.heap.size ≤ b ∧ (∀ g, v.ownBlock = some g → w.heap.size ≤ g) ∧ RdB w' b v l 0 ∧ Kp No w w' ∧ (∀ g, v.ownBlock = some g → TB w' g) := by
  have HV := Lib.hid hv; clear hv
  go_enter Try.func60, Try.ntmps60
  go_wp2_with (at_builtin; refine (wpList_appV _ rfl _ _ 46 rfl w.heap.size 5 _ 1 Try.underlying46 Try.infoByte rfl _ 0 [] rfl (nil_own _ _ _ _) A l.length c (u8s l) rfl (by simp) HV.out.cs.1 (u8s_one _) (by omega) (by omega) (Nat.le_refl _) ?_); intro v1 w1 o1 k1 _; have O1 : OwnB w1 w.heap.size v1 l := own_of (l := []) o1 rfl; have K1 : Kp No w w1 := k1.mono (fun _ _ h => by cases h); obtain ⟨A1, c1, hv1, _⟩ := own_len O1; subst hv1; clear o1 k1)
  go_ret
  have hlo : ∀ g, (Value.slice A1 l.length c1).ownBlock = some g → w.heap.size ≤ g := by
    intro g h
    rcases O1.2 with ⟨e, _⟩ | ⟨g', cap, cur, e, hg, _⟩
    · rw [e] at h; simp [Value.ownBlock] at h
    · rw [e] at h
      have : g' = g := by simpa [Value.ownBlock] using h
      omega
  have B1 := Bk.new w1 114 [.slice A1 l.length c1, .int .i64 0]
  have O2 := O1.alloc (.cells #[.slice A1 l.length c1, .int .i64 0] 114)
  exact ⟨_, _, rfl, K1.size, fun g h => hlo g h, ⟨B1, own_argB O2, own_ne O2 B1 (by decide)⟩, K1.alloc _, own_tb O2⟩
theorem argB_tail {w : World} {A : Option Addr} {c k : Nat} {l : List UInt8} (h : ArgB w (.slice A l.length c) l) (hk : k ≤ l.length) : ArgB w (.slice (A.map fun x => x.add k) (l.length - k) (c - k)) (l.drop k) := by
  by_cases h0 : l = []
  · subst h0
    have : k = 0 := by simpa using hk
    subst this
    exact ArgB.nil _ _ _
  · obtain ⟨g, o, c', e, _, _⟩ := h.at_ (List.length_pos_iff.2 h0)
    injection e with e1 _ e2
    subst e1 e2
    have := h.drop k hk
    simpa [Addr.add_mid] using this
theorem rdK {w : World} {b : Nat} {x y : Value} : Kp (One b) w ((w.setCell ⟨b, 0, none⟩ x).setCell ⟨b, 1, none⟩ y) := ((Kp.refl (One b) w).set (.inl rfl) 0 x).set (.inl rfl) 1 y
set_option maxHeartbeats 2000000 in
theorem rnum_err (b : Nat) (v : Value) (l : List UInt8) (err : Int) (w : World) (h : RdB w b v l err) (he : err ≠ 0) :
    Calls Try.prog 61 #[.pointer (some ⟨b, 0, none⟩)] w fun e w' => e = .returned (.int .i64 0) ∧ w = w' := by
  have z1 : w.cell? ⟨b, 1, none⟩ = some (.int .i64 err) := h.1.cell 1
  have d1 : (err != 0) = true := by rw [bne_iff_ne]; exact he
  clear h
  go_enter Try.func61, Try.ntmps61
  go_wp2
  go_ret
  exact ⟨rfl, rfl⟩
set_option maxHeartbeats 2000000 in
theorem rnum_any (b : Nat) (v : Value) (l : List UInt8) (w : World) (h : RdB w b v l 0) (hm : l.length ≤ maxLen) :
    Calls Try.prog 61 #[.pointer (some ⟨b, 0, none⟩)] w fun e w' => e = .returned (.int .i64 ((takeN 0 l).1 : Int)) ∧ Kp (One b) w w' ∧ ∃ v', RdB w' b v' (l.drop (takeN 0 l).2.1) (takeN 0 l).2.2 ∧ SameBlk v v' := by
  obtain ⟨hb, hv, hne⟩ := h
  obtain ⟨A, c, rfl, hc⟩ := hv.form
  have z0 : w.cell? ⟨b, 0, none⟩ = some (.slice A l.length c) := hb.cell 0
  have z1 : w.cell? ⟨b, 1, none⟩ = some (.int .i64 0) := hb.cell 1
  have zf := hb.frozen
  have pn := onum_any A c l w hv hm
  have hk := takeN_len l
  obtain ⟨n, k, er, ht⟩ : ∃ n k er, takeN 0 l = (n, k, er) := ⟨_, _, _, rfl⟩
  rw [ht] at pn hk ⊢
  simp only at pn hk ⊢
  have HB := Lib.hid hb; have HV := Lib.hid hv; have HN := Lib.hid hne; clear hb hv hne ht
  have hk1 : (k : Int) ≤ (l.length : Int) := by omega
  go_enter Try.func61, Try.ntmps61
  go_wp2_with fail
  refine pn.mono ?_
  rintro e w' ⟨rfl, rfl⟩
  clear pn
  go_wp2
  all_goals go_ret
  · have hd : l.drop k = [] := List.drop_of_length_le (by omega)
    refine ⟨rfl, rdK, _, ⟨(HB.out.set_ 0 _).set_ 1 _, ?_, ?_⟩, ?_⟩
    · rw [hd]
      first | exact ArgB.nil _ _ _ | (rw [show l.length - k = 0 by omega]; exact ArgB.nil _ _ _)
    · first | exact HN.out | (intro h; exact HN.out (by rcases A with _ | a <;> first | (simp [Value.ownBlock] at h; done) | simpa [Value.ownBlock, Addr.add] using h))
    · first | exact fun g h => h | (intro g h; rcases A with _ | a <;> first | (simp [Value.ownBlock] at h; done) | simpa [Value.ownBlock, Addr.add] using h)
  · have hs : SameBlk (.slice A l.length c) (.slice (A.map fun x => x.add k) (l.length - k) (c - k)) := by
      intro g h
      rcases A with _ | ⟨a1, a2, a3⟩
      · simp [Value.ownBlock] at h
      · simp only [Option.map_some, Addr.add, Value.ownBlock] at h ⊢
        rw [← h]
        split <;> rfl
    have hn : (Value.slice (A.map fun x => x.add k) (l.length - k) (c - k)).ownBlock ≠ some b := fun h => HN.out (hs b h)
    refine ⟨rfl, rdK, _, ⟨(HB.out.set_ 0 _).set_ 1 _, (argB_tail HV.out hk).kp rdK ?_, hn⟩, hs⟩
    intro g o n' c' e hg
    have hg : g = b := hg
    subst hg
    rw [e] at hn
    exact hn (by simp [Value.ownBlock])
end Go.Proofs.Ytifdceofglocdaa

/- octets.Reader.Text, where it is refused. No condition beyond what each theorem states. -/
namespace Go.Proofs.Ytifdceofglocdaa
open Go Go.RowKit Go.PlainAid

set_option maxHeartbeats 2000000 in
theorem rtext_err (b : Nat) (v : Value) (l : List UInt8) (err m : Int) (w : World) (h : RdB w b v l err) (he : err ≠ 0) :
    Calls Try.prog 62 #[.pointer (some ⟨b, 0, none⟩), .int .i64 m] w fun e w' => e = .returned (.string ⟨#[]⟩) ∧ w = w' := by
  have z1 : w.cell? ⟨b, 1, none⟩ = some (.int .i64 err) := h.1.cell 1
  have d1 : (err != 0) = true := by rw [bne_iff_ne]; exact he
  clear h
  go_enter Try.func62, Try.ntmps62
  go_wp2
  go_ret
  exact ⟨rfl, rfl⟩
theorem RdB.refuse {w : World} {b : Nat} {v : Value} {l : List UInt8} {err er : Int} (h : RdB w b v l err) : RdB (w.setCell ⟨b, 1, none⟩ (.int .i64 er)) b v l er :=
  ⟨h.1.set_ 1 _, h.2.1.kp ((Kp.refl (One b) w).set (.inl rfl) 1 _) (fun g o n c e hg => h.2.2 (by have hg : g = b := hg; rw [e, hg]; simp [Value.ownBlock])), h.2.2⟩
set_option maxHeartbeats 2000000 in
theorem rtext_bad (b : Nat) (v : Value) (l : List UInt8) (m : Int) (w : World) (h : RdB w b v l 0) (hm : l.length ≤ maxLen) (he : (takeN 0 l).2.2 ≠ 0) :
    Calls Try.prog 62 #[.pointer (some ⟨b, 0, none⟩), .int .i64 m] w fun e w' => e = .returned (.string ⟨#[]⟩) ∧ Kp (One b) w w' ∧ RdB w' b v l (takeN 0 l).2.2 := by
  have HR := Lib.hid h
  obtain ⟨hb, hv, hne⟩ := h
  obtain ⟨A, c, rfl, hc⟩ := hv.form
  have z0 : w.cell? ⟨b, 0, none⟩ = some (.slice A l.length c) := hb.cell 0
  have z1 : w.cell? ⟨b, 1, none⟩ = some (.int .i64 0) := hb.cell 1
  have zf := hb.frozen
  have pn := onum_any A c l w hv hm
  obtain ⟨n, k, er, ht⟩ : ∃ n k er, takeN 0 l = (n, k, er) := ⟨_, _, _, rfl⟩
  rw [ht] at pn he ⊢
  simp only at pn he ⊢
  have d1 : (er != 0) = true := by rw [bne_iff_ne]; exact he
  clear hb hv hne ht he
  go_enter Try.func62, Try.ntmps62
  go_wp2_with fail
  refine pn.mono ?_
  rintro e w' ⟨rfl, rfl⟩
  clear pn
  go_wp2
  go_ret
  exact ⟨rfl, (Kp.refl (One b) w).set (.inl rfl) 1 _, HR.out.refuse⟩

set_option maxHeartbeats 2000000 in
theorem rtext_long (b : Nat) (v : Value) (l : List UInt8) (m : Int) (w : World) (h : RdB w b v l 0) (hm : l.length ≤ maxLen) (he : (takeN 0 l).2.2 = 0) (hl : max m 0 < ((takeN 0 l).1 : Int)) :
    Calls Try.prog 62 #[.pointer (some ⟨b, 0, none⟩), .int .i64 m] w fun e w' => e = .returned (.string ⟨#[]⟩) ∧ Kp (One b) w w' ∧ RdB w' b v l 21 := by
  have HR := Lib.hid h
  obtain ⟨hb, hv, hne⟩ := h
  obtain ⟨A, c, rfl, hc⟩ := hv.form
  have z0 : w.cell? ⟨b, 0, none⟩ = some (.slice A l.length c) := hb.cell 0
  have z1 : w.cell? ⟨b, 1, none⟩ = some (.int .i64 0) := hb.cell 1
  have zf := hb.frozen
  have pn := onum_any A c l w hv hm
  have hkl := takeN_len l
  obtain ⟨n, k, er, ht⟩ : ∃ n k er, takeN 0 l = (n, k, er) := ⟨_, _, _, rfl⟩
  rw [ht] at pn he hkl hl
  simp only at pn he hkl hl
  subst he
  unfold maxLen at hm
  have hl2 : m < (n : Int) ∧ (0 : Int) < (n : Int) := by omega
  obtain ⟨hl3, hl4⟩ := hl2
  clear hl
  clear hb hv hne ht
  rcases Int.lt_or_le m 0 with hm0 | hm0
  all_goals
    go_enter Try.func62, Try.ntmps62
    go_wp2_with fail
    refine pn.mono ?_
    rintro e w' ⟨rfl, rfl⟩
    clear pn
    go_wp2
    go_ret
    exact ⟨rfl, (Kp.refl (One b) w).set (.inl rfl) 1 _, HR.out.refuse⟩
set_option maxHeartbeats 2000000 in
theorem rtext_short (b : Nat) (v : Value) (l : List UInt8) (m : Int) (w : World) (h : RdB w b v l 0) (hm : l.length ≤ maxLen) (he : (takeN 0 l).2.2 = 0) (hl : ((takeN 0 l).1 : Int) ≤ max m 0) (hs : (l.length : Int) - ((takeN 0 l).2.1 : Int) < ((takeN 0 l).1 : Int)) :
    Calls Try.prog 62 #[.pointer (some ⟨b, 0, none⟩), .int .i64 m] w fun e w' => e = .returned (.string ⟨#[]⟩) ∧ Kp (One b) w w' ∧ RdB w' b v l 20 := by
  have HR := Lib.hid h
  obtain ⟨hb, hv, hne⟩ := h
  obtain ⟨A, c, rfl, hc⟩ := hv.form
  have z0 : w.cell? ⟨b, 0, none⟩ = some (.slice A l.length c) := hb.cell 0
  have z1 : w.cell? ⟨b, 1, none⟩ = some (.int .i64 0) := hb.cell 1
  have zf := hb.frozen
  have pn := onum_any A c l w hv hm
  have hkl := takeN_len l
  obtain ⟨n, k, er, ht⟩ : ∃ n k er, takeN 0 l = (n, k, er) := ⟨_, _, _, rfl⟩
  rw [ht] at pn he hkl hl hs
  simp only at pn he hkl hl hs
  subst he
  unfold maxLen at hm
  have hl2 : (n : Int) ≤ m ∧ 0 ≤ m := by omega
  obtain ⟨hl3, hm0⟩ := hl2
  clear hl
  have hl4 : ¬ m < (n : Int) := by omega
  have hk1 : (k : Int) ≤ (l.length : Int) := by omega
  clear hb hv hne ht
  have hx : True := trivial
  all_goals
    go_enter Try.func62, Try.ntmps62
    go_wp2_with fail
    refine pn.mono ?_
    rintro e w' ⟨rfl, rfl⟩
    clear pn
    go_wp2
    go_ret
    exact ⟨rfl, (Kp.refl (One b) w).set (.inl rfl) 1 _, HR.out.refuse⟩
end Go.Proofs.Ytifdceofglocdaa

/- Bytes as a text. No condition beyond what each theorem states. -/
namespace Go.Proofs.Ytifdceofglocdaa
open Go Go.RowKit

theorem conv_argB {w : World} {g o c : Nat} {l : List UInt8} (h : ArgB w (.slice (some ⟨g, o, none⟩) l.length c) l) :
    (convert 46 9 (.slice (some ⟨g, o, none⟩) l.length c)).run Try.prog w = .ok (.string ⟨l.toArray⟩) w := by
  have hu : Try.prog.underlying 5 = some (.int .u8) := by kernel_rfl
  have hd : Try.prog.underlying 9 = some .string := by kernel_rfl
  have := run_convert_bytes_arg w 46 5 Try.underlying46 hu g o l.length c (l.map fun x => (x.toNat : Int)) (by simp) (fun i hi => by
    obtain ⟨g', o', c', e, _, hx⟩ := h.at_ (by omega)
    have e1 : g = g' ∧ o = o' := by simp only [Value.slice.injEq, Option.some.injEq, Addr.mk.injEq] at e; exact ⟨e.1.1, e.1.2.1⟩
    obtain ⟨rfl, rfl⟩ := e1
    rw [hx i _ (List.getElem?_eq_getElem hi)]
    simp [List.getD, List.getElem?_eq_getElem hi]) 9 hd
  rw [this]
  have e : strOfNums (l.map fun x => (x.toNat : Int)) = ⟨l.toArray⟩ := by simp [strOfNums, Function.comp_def]
  rw [e]
end Go.Proofs.Ytifdceofglocdaa

/- octets.Reader.Text, where it is given. No condition beyond what each theorem states. -/
namespace Go.Proofs.Ytifdceofglocdaa
open Go Go.RowKit Go.PlainAid

theorem argB_mid {w : World} {g o c : Nat} {l : List UInt8} (h : ArgB w (.slice (some ⟨g, o, none⟩) l.length c) l) (k n : Nat) (hk : k + n ≤ l.length) :
    (∃ o1, (∀ W, (Instr.slice 46 (.slice (some ⟨g, o, none⟩) l.length c) (some (.int .i64 (k : Int))) (some (.int .i64 ((k : Int) + (n : Int)))) none).run Try.prog W = .ok (.slice (some ⟨g, o1, none⟩) n (c - k)) W) ∧ ArgB w (.slice (some ⟨g, o1, none⟩) ((l.drop k).take n).length (c - k)) ((l.drop k).take n)) ∧
    (∃ o2, (∀ W, (Instr.slice 46 (.slice (some ⟨g, o, none⟩) l.length c) (some (.int .i64 ((k : Int) + (n : Int)))) none none).run Try.prog W = .ok (.slice (some ⟨g, o2, none⟩) (l.length - (k + n)) (c - (k + n))) W) ∧ ArgB w (.slice (some ⟨g, o2, none⟩) (l.length - (k + n)) (c - (k + n))) (l.drop (k + n))) := by
  have hc : l.length ≤ c := by obtain ⟨_, _, hc⟩ := h.cs; exact hc
  have hu : Try.prog.underlying 46 = some (.slice (Try.prog.elem 46)) := by kernel_rfl
  have hsz : ∀ W, (sizeOf (Try.prog.elem 46)).run Try.prog W = .ok 1 W := fun W => by kernel_rfl
  have e1 : ((k : Int) + (n : Int)).toNat = k + n := by omega
  have hl1 : ((l.drop k).take n).length = n := by rw [List.length_take, List.length_drop]; omega
  constructor
  · by_cases hck : c = k
    · have hn : n = 0 := by omega
      subst hn
      refine ⟨o, fun W => ?_, ?_⟩
      · rw [run_slice_lh (P := Try.prog) W 46 _ _ _ hu .i64 .i64 _ _ (by omega) (by omega) (by omega), hsz]
        simp [Result.andThen, sliced, hck]
      · simpa using ArgB.nil _ _ _
    · refine ⟨o + k, fun W => ?_, ?_⟩
      · rw [run_slice_lh (P := Try.prog) W 46 _ _ _ hu .i64 .i64 _ _ (by omega) (by omega) (by omega), hsz]
        simp [Result.andThen, sliced, hck, e1, Addr.add_mid]
      · have hd := h.drop k (by omega)
        have := ArgB.take (n := l.length - k) (c := c - k) (l := l.drop k) hd n (by rw [List.length_drop]; omega)
        rw [hl1]; exact this
  · by_cases hck : c = k + n
    · have hn : l.length - (k + n) = 0 := by omega
      have hd : l.drop (k + n) = [] := List.drop_of_length_le (by omega)
      refine ⟨o, fun W => ?_, ?_⟩
      · rw [run_slice_l (P := Try.prog) W 46 _ _ _ hu .i64 _ (by omega) (by omega), hsz]
        simp [Result.andThen, sliced, hck, e1]
      · rw [hn, hd]; exact ArgB.nil _ _ _
    · refine ⟨o + (k + n), fun W => ?_, h.drop (k + n) (by omega)⟩
      rw [run_slice_l (P := Try.prog) W 46 _ _ _ hu .i64 _ (by omega) (by omega), hsz]
      simp [Result.andThen, sliced, hck, e1, Addr.add_mid]
set_option maxRecDepth 100000 in
set_option maxHeartbeats 2000000 in
theorem rtext_yes (b : Nat) (v : Value) (l : List UInt8) (m : Int) (w : World) (h : RdB w b v l 0) (hm : l.length ≤ maxLen) (he : (takeN 0 l).2.2 = 0) (hl : ((takeN 0 l).1 : Int) ≤ max m 0) (hs : (takeN 0 l).1 + (takeN 0 l).2.1 ≤ l.length) :
    Calls Try.prog 62 #[.pointer (some ⟨b, 0, none⟩), .int .i64 m] w fun e w' => e = .returned (.string ⟨((l.drop (takeN 0 l).2.1).take (takeN 0 l).1).toArray⟩) ∧ Kp (One b) w w' ∧ ∃ v', RdB w' b v' (l.drop ((takeN 0 l).2.1 + (takeN 0 l).1)) 0 ∧ SameBlk v v' := by
  have HR := Lib.hid h
  obtain ⟨hb, hv, hne⟩ := h
  have hpos : 0 < l.length := by
    rcases Nat.eq_zero_or_pos l.length with h0 | h0
    · rw [List.eq_nil_of_length_eq_zero h0] at he
      simp [takeN] at he
    · exact h0
  obtain ⟨g, o, c, rfl, hc, _⟩ := hv.at_ hpos
  have z0 : w.cell? ⟨b, 0, none⟩ = some (.slice (some ⟨g, o, none⟩) l.length c) := hb.cell 0
  have z1 : w.cell? ⟨b, 1, none⟩ = some (.int .i64 0) := hb.cell 1
  have zf := hb.frozen
  have pn := onum_any _ c l w hv hm
  obtain ⟨n, k, er, ht⟩ : ∃ n k er, takeN 0 l = (n, k, er) := ⟨_, _, _, rfl⟩
  rw [ht] at pn he hl hs ⊢
  simp only at pn he hl hs ⊢
  subst he
  unfold maxLen at hm
  obtain ⟨⟨o1, r1, a1⟩, o2, r2, a2⟩ := argB_mid hv k n (by omega)
  have hcv := conv_argB a1
  have hl1 : ((l.drop k).take n).length = n := by rw [List.length_take, List.length_drop]; omega
  rw [hl1] at hcv
  have A2 := Lib.hid a2; have HB := Lib.hid hb; have HN := Lib.hid hne
  obtain ⟨S, hS⟩ : ∃ S : ByteArray, S = ⟨((l.drop k).take n).toArray⟩ := ⟨_, rfl⟩
  rw [← hS] at hcv ⊢
  have hs1 : (n : Int) + (k : Int) ≤ (l.length : Int) := by omega
  have hs2 : ¬ (l.length : Int) - (k : Int) < (n : Int) := by omega
  have hm2 : (n : Int) ≤ m ∨ n = 0 := by omega
  clear hb hv hne ht a1 a2 hl1 hS hpos
  rcases Int.lt_or_le m 0 with hm0 | hm0
  all_goals
    have hm3 : ¬ max m 0 < (n : Int) := by omega
    have hm4 : m < 0 → ¬ (0 : Int) < (n : Int) := fun h => by omega
    have hm5 : 0 ≤ m → ¬ m < (n : Int) := fun h => by omega
    first
      | (have hm6 := hm4 hm0; clear hm5)
      | (have hm6 := hm5 hm0; clear hm4)
    clear hl hm2 hm3
    go_enter Try.func62, Try.ntmps62
    go_wp2_with fail
    refine pn.mono ?_
    rintro e w' ⟨rfl, rfl⟩
    clear pn
    go_wp2
    go_ret
    have B1 := HB.out.set_ 0 (.slice (some ⟨g, o2, none⟩) (l.length - (k + n)) (c - (k + n)))
    refine ⟨rfl, (Kp.refl (One b) w).set (.inl rfl) 0 _, _, ⟨B1, A2.out.kp ((Kp.refl (One b) w).set (.inl rfl) 0 _) ?_, ?_⟩, ?_⟩
    · intro g' o' n' c' e hg
      injection e with e1
      injection e1 with e1
      injection e1 with e1
      subst e1
      exact HN.out (by rw [show g = b from hg]; simp [Value.ownBlock])
    · intro h; exact HN.out (by simpa [Value.ownBlock] using h)
    · intro g' h; simpa [Value.ownBlock] using h
end Go.Proofs.Ytifdceofglocdaa
