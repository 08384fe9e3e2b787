/- Words for WireOwn: rows that are written, prefixes of rows, texts of bytes. No condition beyond what each theorem states. -/
import Derived.Test.YtbnpdghfbiacaaaGreatB46
import Derived.Test.YtbnpdghfbiacaaaGreatB18
import Derived.Laws.OwnMore
namespace Go.Proofs.YtbnpdghfbiacaaaGreat
open Go Go.RowKit Go.PlainAid

set_option maxRecDepth 100000 in
theorem conv_zero (A : Option Addr) (c : Nat) (w : World) : (convert 30 9 (.slice A 0 c)).run Tryz.prog w = .ok (.string ⟨#[]⟩) w := by
  rw [run_convert_bytes_string (P := Tryz.prog) w 30 9 5 A 0 c Tryz.underlying30 Tryz.underlying5 Tryz.underlying9]
  cases A with
  | none => rfl
  | some a => exact run_bytesToString w a 0 c [] rfl
theorem conv_all {w : World} {A : Option Addr} {c : Nat} {l : List UInt8} (h : ArgB w (.slice A l.length c) l) : (convert 30 9 (.slice A l.length c)).run Tryz.prog w = .ok (.string ⟨l.toArray⟩) w := by
  by_cases hl : l = []
  · subst hl; exact conv_zero A c w
  · exact conv_any h hl
theorem SlI.take {w : World} {g c n : Nat} {L : List Int} (h : SlI w (.slice (some ⟨g, 0, none⟩) n c) L) (k : Nat) (hk : k ≤ L.length) : SlI w (.slice (some ⟨g, 0, none⟩) k c) (L.take k) := by
  obtain ⟨A', c', e, hc, h⟩ := h
  injection e with e1 e2 e3
  subst e1 e2 e3
  have hl : (L.take k).length = k := by rw [List.length_take]; omega
  refine ⟨_, c, by rw [hl], by rw [hl]; omega, fun hx => ?_⟩
  obtain ⟨g', o, cs, e1, hb, hr⟩ := h (fun e => hx (by rw [e]; simp))
  refine ⟨g', o, cs, e1, hb, fun j v hv => hr j v ?_⟩
  have e : ints (L.take k) = (ints L).take k := by simp [ints, List.map_take]
  rw [e] at hv
  have hj := (List.getElem?_eq_some_iff.1 hv).1
  rw [List.length_take] at hj
  rw [List.getElem?_take_of_lt (by omega)] at hv
  exact hv
theorem own_slI3 {w : World} {B n : Nat} {v : Value} {L : List Int} (h : w.ownsRow B 3 1 v n (ints L ++ [.int .i64 (-91), .int .i64 (-92)])) (hn : n = L.length + 2) : SlI w v (L ++ [-91, -92]) := by
  have e : ints L ++ [.int .i64 (-91), .int .i64 (-92)] = ints (L ++ [-91, -92]) := by simp [ints]
  rw [e, hn, show L.length + 2 = (L ++ [-91, -92]).length by simp] at h
  exact own_slI h
theorem own_bkG {w : World} {B g n n' c : Nat} {t : TypeId} {xs : List Value} (h : w.ownsRow B t 1 (.slice (some ⟨g, 0, none⟩) n' c) n xs) : ∃ cs, Bk w g t cs ∧ n ≤ cs.length ∧ cs.take n = xs := by
  rcases h.2 with ⟨hb, _⟩ | ⟨g', cap, cur, hv, hB, hh, h1, h2, h3, h4⟩
  · cases hb
  · injection hv with e1 e2 e3
    injection e1 with e1
    injection e1 with e1
    subst e1 e2 e3
    refine ⟨cur.toList, by unfold Bk; simpa using hh, by simp; omega, by rw [← h4, Nat.mul_one]⟩
/-- rows of unlike types lie apart -/
theorem own_apart_t {w : World} {B B2 n n2 s s2 : Nat} {t t2 : TypeId} {v v2 : Value} {xs ys : List Value} (h : w.ownsRow B t s v n xs) (h2 : w.ownsRow B2 t2 s2 v2 n2 ys) (ht : t ≠ t2) : ∀ g, v.ownBlock = some g → v2.ownBlock ≠ some g := fun g h3 h4 => by
  obtain ⟨cs, hb⟩ := own_bk h2 g h4
  exact own_ne h hb ht h3
theorem Kp.trans0 {M : Nat → Prop} {a b c : World} (h : Kp M a b) (k : Kp No b c) : Kp M a c := h.then_ k fun _ _ m => m.elim
set_option maxRecDepth 100000 in
/-- v[:h] of ints -/
theorem slice_toI (g n h c : Nat) (h1 : h ≤ c) (h2 : 0 < c) (W : World) : (Instr.slice 26 (.slice (some ⟨g, 0, none⟩) n c) none (some (.int .i64 (h : Int))) none).run Tryz.prog W = .ok (.slice (some ⟨g, 0, none⟩) h c) W := by
  rw [run_slice_h (P := Tryz.prog) W 26 (some ⟨g, 0, none⟩) n c Tryz.underlying26 .i64 (h : Int) (by omega) (by omega)]
  have hs : (sizeOf (Tryz.prog.elem 26)).run Tryz.prog W = .ok 1 W := by kernel_rfl
  rw [hs]
  simp [Result.andThen, sliced, show ¬ c = 0 by omega, Addr.add]
set_option maxRecDepth 100000 in
/-- v[:h] of bytes -/
theorem slice_toB (g n h c : Nat) (h1 : h ≤ c) (h2 : 0 < c) (W : World) : (Instr.slice 30 (.slice (some ⟨g, 0, none⟩) n c) none (some (.int .i64 (h : Int))) none).run Tryz.prog W = .ok (.slice (some ⟨g, 0, none⟩) h c) W := by
  rw [run_slice_h (P := Tryz.prog) W 30 (some ⟨g, 0, none⟩) n c Tryz.underlying30 .i64 (h : Int) (by omega) (by omega)]
  have hs : (sizeOf (Tryz.prog.elem 30)).run Tryz.prog W = .ok 1 W := by kernel_rfl
  rw [hs]
  simp [Result.andThen, sliced, show ¬ c = 0 by omega, Addr.add]
theorem ints_set (L : List Int) (j : Nat) (x : Int) : (ints L).set j (.int .i64 x) = ints (L.set j x) := by simp [ints, List.map_set]
theorem OwnB.set {w : World} {B a n c j : Nat} {l : List UInt8} (h : OwnB w B (.slice (some ⟨a, 0, Option.none⟩) n c) l) (u : UInt8) : OwnB (w.setCell ⟨a, j, Option.none⟩ (.int .u8 (u.toNat : Int))) B (.slice (some ⟨a, 0, Option.none⟩) n c) (l.set j u) := by
  unfold OwnB at h ⊢
  have hn : n = l.length := by
    obtain ⟨_, _, e, _⟩ := own_len h
    injection e
  subst hn
  have := (World.ownsRow.stored h j (.int .u8 (u.toNat : Int))).1
  rw [u8s_set] at this
  rw [List.length_set]
  exact this
theorem own_setI {w : World} {B a n c j : Nat} {L : List Int} (h : w.ownsRow B 3 1 (.slice (some ⟨a, 0, Option.none⟩) n c) n (ints L)) (x : Int) : (w.setCell ⟨a, j, Option.none⟩ (.int .i64 x)).ownsRow B 3 1 (.slice (some ⟨a, 0, Option.none⟩) n c) n (ints (L.set j x)) := by
  have := (World.ownsRow.stored h j (.int .i64 x)).1
  rwa [ints_set] at this
end Go.Proofs.YtbnpdghfbiacaaaGreat
