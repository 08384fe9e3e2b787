/- Several texts of this claim in one. No condition beyond what each theorem states. -/
import Derived.Test.YtlgbmkdeamgpkaaGreatDoorB02
import Derived.Test.YtlgbmkdeamgpkaaGreatDoorB01
import Derived.Deep.QuietTactic
import Derived.BigQuiet
import Derived.Outline
/- Lists of lists of bytes in memory. No condition beyond what each theorem states. -/
namespace Go.Proofs.YtlgbmkdeamgpkaaGreatDoor
open Go Go.RowKit

theorem own_bkR {w : World} {base : Nat} {e : TypeId} {size n : Nat} {v : Value} {xs : List Value} {g : Nat} (h : w.ownsRow base e size v n xs) (hg : v.ownBlock = some g) : base ≤ g ∧ ∃ cs, Bk w g e cs := by
  rcases h.2 with ⟨rfl, _⟩ | ⟨g', cap, cur, rfl, hb, hh, _⟩
  · simp [Value.ownBlock] at hg
  · have : g' = g := by simpa [Value.ownBlock] using hg
    subst this
    exact ⟨hb, cur.toList, by unfold Bk; simpa using hh⟩
/-- own rows of unlike types lie apart -/
theorem own_apart {w : World} {B B' : Nat} {v x : Value} {n m : Nat} {xs ys : List Value} {t t' : TypeId} {s s' : Nat} (h : w.ownsRow B t s v n xs) (h' : w.ownsRow B' t' s' x m ys) (hne : t ≠ t') : ∀ g, x.ownBlock = some g → v.ownBlock ≠ some g := fun g hg => by
  obtain ⟨_, cs, hb⟩ := own_bkR h' hg
  exact own_ne h hb hne
theorem own_cap {w : World} {B n size : Nat} {t : TypeId} {v : Value} {xs : List Value} (h : w.ownsRow B t size v n xs) : ∃ A c, v = .slice A n c ∧ n ≤ c ∧ c ≤ maxLen := by
  rcases h.2 with ⟨rfl, rfl⟩ | ⟨g, cap, cur, hv, _, _, hc, hm, _⟩
  · exact ⟨_, _, rfl, Nat.le_refl _, by unfold maxLen; omega⟩
  · exact ⟨_, _, hv, hc, hm⟩

/-- a list of fresh lists of bytes: all of the call's own -/
def Rows (w : World) (B : Nat) (v : Value) (L : List (List UInt8)) : Prop :=
  ∃ xs : List Value, w.ownsRow B 69 1 v L.length xs ∧ ∀ i (h : i < L.length), ∃ x, xs[i]? = some x ∧ OwnB w B x L[i]
theorem Rows.nil (w : World) (B : Nat) : Rows w B (.slice Option.none 0 0) [] := ⟨[], World.ownsRow_nil _ _ _ _, by intro i hi; simp at hi⟩
/-- a block of neither a list nor bytes, or below B, may change -/
theorem Rows.kp {w w' : World} {B : Nat} {v : Value} {L : List (List UInt8)} {M : Nat → Prop} (h : Rows w B v L) (hk : Kp M w w')
    (hM : ∀ g cs, B ≤ g → (Bk w g 69 cs ∨ Bk w g 5 cs) → ¬ M g) : Rows w' B v L := by
  obtain ⟨xs, hown, hr⟩ := h
  refine ⟨xs, own_kp hown hk (fun g hg => ?_), fun i hi => ?_⟩
  · obtain ⟨hb, cs, hbk⟩ := own_bkR hown hg
    exact hM g cs hb (.inl hbk)
  · obtain ⟨x, hx, hox⟩ := hr i hi
    refine ⟨x, hx, hox.kp hk fun g hg => ?_⟩
    obtain ⟨hb, cs, hbk⟩ := own_bkR hox hg
    exact hM g cs hb (.inr hbk)
theorem Rows.no {w w' : World} {B : Nat} {v : Value} {L : List (List UInt8)} (h : Rows w B v L) (hk : Kp No w w') : Rows w' B v L := h.kp hk fun _ _ _ _ m => m
theorem Rows.mono {w : World} {B B' : Nat} {v : Value} {L : List (List UInt8)} (h : Rows w B v L) (hb : B' ≤ B) : Rows w B' v L := by
  obtain ⟨xs, hown, hr⟩ := h
  refine ⟨xs, own_mono hown hb, fun i hi => ?_⟩
  obtain ⟨x, hx, hox⟩ := hr i hi
  exact ⟨x, hx, hox.mono hb⟩
/-- one list more -/
theorem Rows.push {w w1 : World} {B : Nat} {v v1 x : Value} {L : List (List UInt8)} {l : List UInt8} {n m : Nat} {xs : List Value}
    (hown : w.ownsRow B 69 1 v n xs) (hn : n = L.length) (hrows : ∀ i (h : i < L.length), ∃ x, xs[i]? = some x ∧ OwnB w B x L[i]) (hx : OwnB w B x l)
    (hown1 : w1.ownsRow B 69 1 v1 m (xs ++ [x])) (hm : m = L.length + 1) (hk1 : Kp (fun k => v.ownBlock = some k) w w1) : Rows w1 B v1 (L ++ [l]) := by
  subst hn hm
  have hxs : xs.length = L.length := by have := hown.1; omega
  refine ⟨xs ++ [x], by simpa using hown1, fun i hi => ?_⟩
  by_cases hlt : i < L.length
  · obtain ⟨y, hy, hr⟩ := hrows i hlt
    refine ⟨y, by rw [List.getElem?_append_left (by omega)]; exact hy, ?_⟩
    rw [List.getElem_append_left hlt]
    exact hr.kp hk1 fun g hg => own_apart hown hr (by decide) g hg
  · have hi' : i = L.length := by simp at hi; omega
    subst hi'
    refine ⟨x, by rw [List.getElem?_append_right (by omega), hxs]; simp, ?_⟩
    simp only [List.getElem_concat_length]
    exact hx.kp hk1 fun g hg => own_apart hown hx (by decide) g hg

/-- what a slice of slices of bytes holds -/
def ArgR (w : World) (v : Value) (L : List (List UInt8)) : Prop := ∃ A c xs, v = .slice A L.length c ∧ L.length ≤ c ∧ xs.length = L.length ∧ Cs w A xs ∧ ∀ i (h : i < L.length), ∃ x, xs[i]? = some x ∧ ArgB w x L[i]
/-- the same, the lists' capacities within the bounds -/
def CapR (w : World) (v : Value) (L : List (List UInt8)) : Prop := ∃ A c xs, v = .slice A L.length c ∧ L.length ≤ c ∧ c ≤ maxLen ∧ xs.length = L.length ∧ Cs w A xs ∧ ∀ i (h : i < L.length), ∃ a k, xs[i]? = some (.slice a L[i].length k) ∧ k ≤ maxLen ∧ ArgB w (.slice a L[i].length k) L[i]
theorem CapR.arg {w : World} {v : Value} {L : List (List UInt8)} (h : CapR w v L) : ArgR w v L := by
  obtain ⟨A, c, xs, rfl, hc, _, hl, hcs, hx⟩ := h
  refine ⟨A, c, xs, rfl, hc, hl, hcs, fun i hi => ?_⟩
  obtain ⟨a, k, h1, _, h2⟩ := hx i hi
  exact ⟨_, h1, h2⟩
theorem Rows.cap {w : World} {B : Nat} {v : Value} {L : List (List UInt8)} (h : Rows w B v L) : CapR w v L := by
  obtain ⟨xs, hown, hr⟩ := h
  obtain ⟨A, c, hv, hc, hm⟩ := own_cap hown
  subst hv
  have hxl : xs.length = L.length := by have := hown.1; omega
  refine ⟨A, c, xs, rfl, hc, hm, hxl, fun hx => ?_, fun i hi => ?_⟩
  · rcases hown.2 with ⟨_, h0⟩ | ⟨g, cap, cur, hv, hb, hh, h1, h2, h3, h4⟩
    · exact absurd (List.eq_nil_of_length_eq_zero (by omega)) hx
    · injection hv with hv
      subst hv
      refine ⟨g, 0, rfl, fun j v hv => ?_⟩
      have := hown.cells (g := g) rfl j v hv
      rwa [Addr.add_mid] at this
  · obtain ⟨x, hx, hox⟩ := hr i hi
    obtain ⟨a, k, hxv, _, hk⟩ := own_cap hox
    subst hxv
    exact ⟨a, k, hx, hk, own_argB hox⟩
theorem Rows.arg {w : World} {B : Nat} {v : Value} {L : List (List UInt8)} (h : Rows w B v L) : ArgR w v L := h.cap.arg
theorem ArgR.no {w w' : World} {v : Value} {L : List (List UInt8)} (h : ArgR w v L) (hk : Kp No w w') : ArgR w' v L := by
  obtain ⟨A, c, xs, rfl, hc, hl, hcs, hx⟩ := h
  refine ⟨A, c, xs, rfl, hc, hl, hcs.kp hk (fun _ _ _ m => m), fun i hi => ?_⟩
  obtain ⟨x, h1, h2⟩ := hx i hi
  exact ⟨x, h1, h2.no hk⟩
theorem CapR.no {w w' : World} {v : Value} {L : List (List UInt8)} (h : CapR w v L) (hk : Kp No w w') : CapR w' v L := by
  obtain ⟨A, c, xs, rfl, hc, hm, hl, hcs, hx⟩ := h
  refine ⟨A, c, xs, rfl, hc, hm, hl, hcs.kp hk (fun _ _ _ m => m), fun i hi => ?_⟩
  obtain ⟨a, k, h1, h2, h3⟩ := hx i hi
  exact ⟨a, k, h1, h2, h3.no hk⟩
theorem CapR.at_ {w : World} {v : Value} {L : List (List UInt8)} (h : CapR w v L) : ∃ A c, v = .slice A L.length c ∧ L.length ≤ c ∧ c ≤ maxLen ∧ ∀ i (hi : i < L.length), ∃ g o a k, A = some ⟨g, o, Option.none⟩ ∧ w.cell? ⟨g, o + i, Option.none⟩ = some (.slice a L[i].length k) ∧ k ≤ maxLen ∧ ArgB w (.slice a L[i].length k) L[i] := by
  obtain ⟨A, c, xs, rfl, hc, hm, hl, hcs, hx⟩ := h
  refine ⟨A, c, rfl, hc, hm, fun i hi => ?_⟩
  obtain ⟨a, k, h1, h2, h3⟩ := hx i hi
  obtain ⟨g, o, e, hr⟩ := hcs (by intro e; subst e; simp at hl; omega)
  exact ⟨g, o, a, k, e, hr i _ h1, h2, h3⟩
theorem ArgR.at_ {w : World} {v : Value} {L : List (List UInt8)} (h : ArgR w v L) : ∃ A c, v = .slice A L.length c ∧ L.length ≤ c ∧ ∀ i (hi : i < L.length), ∃ g o a k, A = some ⟨g, o, Option.none⟩ ∧ w.cell? ⟨g, o + i, Option.none⟩ = some (.slice a L[i].length k) ∧ ArgB w (.slice a L[i].length k) L[i] := by
  obtain ⟨A, c, xs, rfl, hc, hl, hcs, hx⟩ := h
  refine ⟨A, c, rfl, hc, fun i hi => ?_⟩
  obtain ⟨x, h1, h3⟩ := hx i hi
  obtain ⟨a, k, e2, _⟩ := h3.form
  subst e2
  obtain ⟨g, o, e, hr⟩ := hcs (by intro e; subst e; simp at hl; omega)
  exact ⟨g, o, a, k, e, hr i _ h1, h3⟩

/-- append(v, x..) of bytes onto bytes of the call's own -/
theorem wp_appB (w : World) {o : Oper} {a : Act} {K : Act → World → Prop} {Q : Exit → Act → World → Prop} (s x : Operand)
    (ho : o.op = .call { callee := .builtin .append, args := #[s, x], argTypes := #[69, 69] })
    (base : Nat) (v : Value) (l : List UInt8) (hs : a.eval s = v) (hown : OwnB w base v l) (A : Option Addr) (m c : Nat) (ms : List UInt8) (hx : a.eval x = .slice A m c) (hl : ms.length = m) (hc : Cs w A (u8s ms))
    (hn : l.length + m ≤ 140737488355328) (hbase : base ≤ w.heap.size)
    (h : ∀ A' n' c' w', OwnB w' base (.slice A' n' c') (l ++ ms) → (∀ w0, w0.heap.size ≤ base → Kp No w0 w → Kp No w0 w') → Kp (fun k => v.ownBlock = some k) w w' → K (a.put o.dst (.slice A' n' c')) w') : o.wp Tryz.prog a w K Q :=
  wp_appV w s x 69 ho base 5 _ 1 Tryz.underlying69 Tryz.infoByte rfl v l.length (u8s l) hs hown A m c (u8s ms) hx (by rw [u8s_length]; exact hl) hc (u8s_one _) (by omega) (by omega) hbase
    fun v' w' o1 k1 _ => by
      have ob : OwnB w' base v' (l ++ ms) := own_of o1 rfl
      obtain ⟨A', c', e, _⟩ := own_len ob
      subst e
      exact h _ _ _ w' ob (fun w0 h0 k => k.then_ k1 fun i hi hm => by have := (hown.lt i hm).1; omega) k1
theorem wpList_appB (w : World) {ops : Array Oper} {rest : List Oper} {o : Oper} {a : Act} {Q : Exit → Act → World → Prop} (hgd : o.guard = none) (s x : Operand)
    (ho : o.op = .call { callee := .builtin .append, args := #[s, x], argTypes := #[69, 69] })
    (base : Nat) (v : Value) (l : List UInt8) (hs : a.eval s = v) (hown : OwnB w base v l) (A : Option Addr) (m c : Nat) (ms : List UInt8) (hx : a.eval x = .slice A m c) (hl : ms.length = m) (hc : Cs w A (u8s ms))
    (hn : l.length + m ≤ 140737488355328) (hbase : base ≤ w.heap.size)
    (h : ∀ A' n' c' w', OwnB w' base (.slice A' n' c') (l ++ ms) → (∀ w0, w0.heap.size ≤ base → Kp No w0 w → Kp No w0 w') → Kp (fun k => v.ownBlock = some k) w w' → wpList Tryz.prog ops Q rest (a.put o.dst (.slice A' n' c')) w') : wpList Tryz.prog ops Q (o :: rest) a w :=
  wpList_plain hgd fun _ hK => wp_appB w s x ho base v l hs hown A m c ms hx hl hc hn hbase fun A' n' c' w' h1 h2 h3 => hK _ _ (h A' n' c' w' h1 h2 h3)
theorem step_appB (w : World) {ops : Array Oper} {o : Oper} {a : Act} {K : Act → World → Prop} {Q : Exit → Act → World → Prop} {E : Prop} (hgd : o.guard = none) (s x : Operand)
    (ho : o.op = .call { callee := .builtin .append, args := #[s, x], argTypes := #[69, 69] })
    (base : Nat) (v : Value) (l : List UInt8) (hs : a.eval s = v) (hown : OwnB w base v l) (A : Option Addr) (m c : Nat) (ms : List UInt8) (hx : a.eval x = .slice A m c) (hl : ms.length = m) (hc : Cs w A (u8s ms))
    (hn : l.length + m ≤ 140737488355328) (hbase : base ≤ w.heap.size)
    (h : ∀ A' n' c' w', OwnB w' base (.slice A' n' c') (l ++ ms) → (∀ w0, w0.heap.size ≤ base → Kp No w0 w → Kp No w0 w') → Kp (fun k => v.ownBlock = some k) w w' → K (a.put o.dst (.slice A' n' c')) w') : if Region.wanted o (yielded ops a.tmps) = true then Oper.wp Tryz.prog o a w K Q else E := by
  have hw : Region.wanted o (yielded ops a.tmps) = true := by simp [Region.wanted, hgd]
  rw [if_pos hw]
  exact wp_appB w s x ho base v l hs hown A m c ms hx hl hc hn hbase h
theorem Tryz.infoBytes' : (Tryz.prog.info? 69).map (fun i => (i.zero, i.size, i.bytes)) = some (some (.slice Option.none 0 0), 1, 24) := by kernel_rfl
/-- append(v, x) of one list of bytes onto a list of lists of the call's own -/
theorem wpList_appR (w : World) {ops : Array Oper} {rest : List Oper} {o : Oper} {a : Act} {Q : Exit → Act → World → Prop} (hgd : o.guard = none) (s x : Operand)
    (ho : o.op = .call { callee := .builtin .append, args := #[s, x], argTypes := #[63, 63] })
    (base : Nat) (v : Value) (L : List (List UInt8)) (hs : a.eval s = v) (hown : Rows w base v L) (A : Option Addr) (c : Nat) (y : Value) (hy : y.oneCell' = true) (l : List UInt8) (hx : a.eval x = .slice A 1 c) (hc : Cs w A [y]) (hoy : OwnB w base y l)
    (hn : (L.length + 1) * 24 ≤ 140737488355328) (hbase : base ≤ w.heap.size)
    (h : ∀ A' n' c' w', Rows w' base (.slice A' n' c') (L ++ [l]) → (∀ w0, w0.heap.size ≤ base → Kp No w0 w → Kp No w0 w') → wpList Tryz.prog ops Q rest (a.put o.dst (.slice A' n' c')) w') : wpList Tryz.prog ops Q (o :: rest) a w := by
  obtain ⟨xs, ho1, hr⟩ := hown
  refine wpList_appV w hgd s x 63 ho base 69 _ 24 Tryz.underlying63 Tryz.infoBytes' rfl v L.length xs hs ho1 A 1 c [y] hx rfl hc (by intro u hu; rw [List.mem_singleton.1 hu]; exact hy) (by omega) (by omega) hbase ?_
  intro v' w' o1 k1 _
  obtain ⟨A', c', e, _⟩ := own_len o1
  subst e
  exact h _ _ _ w' (Rows.push ho1 rfl hr hoy o1 rfl k1) (fun w0 h0 k => k.then_ k1 fun i hi hm => by have := (ho1.lt i hm).1; omega)
end Go.Proofs.YtlgbmkdeamgpkaaGreatDoor

/- The program's octets: Four, OfFour, Sum, by contracts. No condition beyond what each theorem states. -/
namespace Go.Proofs.YtlgbmkdeamgpkaaGreatDoor
open Go Go.RowKit

set_option maxHeartbeats 1000000 in
theorem four_any (n : Nat) (w : World) : Calls Tryz.prog 123 #[.int .u32 (n : Int)] w fun e w' => ∃ g, e = .returned (.slice (some ⟨g, 0, none⟩) 4 4) ∧ Bk w' g 5 (u8s (four n)) ∧ w.heap.size ≤ g ∧ Kp No w w' := by
  have h0 := u8_nat n
  have h1 := u8_nat (n / 256)
  have h2 := u8_nat (n / 65536)
  have h3 := u8_nat (n / 16777216)
  have HS := Lib.hid (show u8s (four n) = [.int .u8 ((UInt8.ofNat n).toNat : Int), .int .u8 ((UInt8.ofNat (n / 256)).toNat : Int), .int .u8 ((UInt8.ofNat (n / 65536)).toNat : Int), .int .u8 ((UInt8.ofNat (n / 16777216)).toNat : Int)] from rfl)
  have H0 := Lib.hid h0; have H1 := Lib.hid h1; have H2 := Lib.hid h2; have H3 := Lib.hid h3
  clear h0 h1 h2 h3
  go_enter Tryz.func123, Tryz.ntmps123
  go_wp2
  go_ret
  refine ⟨w.heap.size, rfl, ?_, Nat.le_refl _, (Kp.refl _ _).alloc _⟩
  rw [HS.out, ← H0.out, ← H1.out, ← H2.out, ← H3.out]
  exact Bk.new' rfl (by simp [IntKind.wrap_u8])

theorem xor_byte (y : BitVec 32) (x : UInt8) : bits .xor .u32 (y.toNat : Int) (x.toNat : Int) = ((y ^^^ BitVec.ofNat 32 x.toNat).toNat : Int) := by
  have h := xor_u32 y (BitVec.ofNat 32 x.toNat)
  have hx : (BitVec.ofNat 32 x.toNat).toNat = x.toNat := by have := x.toNat_lt; rw [BitVec.toNat_ofNat]; omega
  rw [hx] at h
  exact h
theorem not_u32 (y : BitVec 32) : bits .xor .u32 4294967295 (y.toNat : Int) = ((y ^^^ 0xffffffff#32).toNat : Int) := by
  have h := xor_u32 0xffffffff#32 y
  rw [BitVec.xor_comm] at h
  exact h
set_option maxHeartbeats 1000000 in
theorem sum_any (v : Value) (l : List UInt8) (w : World) (hv : ArgB w v l) (hl : l.length ≤ maxLen) :
    Calls Tryz.prog 88 #[v] w fun e w' => e = .returned (.int .u32 (crcI l)) ∧ w = w' := by
  obtain ⟨A, c, hv0, hc⟩ := hv.form
  subst hv0
  have HV := Lib.hid hv; clear hv
  unfold maxLen at hl
  go_enter Tryz.func88, Tryz.ntmps88
  go_wp2
  go_loopw [3, 8] (fun x i wr => ∃ k : Nat, k ≤ l.length ∧ i = .int .i64 k ∧ x = .int .u32 ((crcF 0xffffffff#32 (l.take k)).toNat : Int) ∧ wr = w) (fun _ i _ => l.length - (intOf i).toNat)
  case atStart => exact ⟨0, Nat.zero_le _, rfl, rfl, rfl⟩
  case round =>
    obtain ⟨k, hk, rfl, rfl, rfl⟩ := hrel
    by_cases hlt : k < l.length
    · have hk0 : (0 : Int) ≤ (k : Int) := by omega
      have hk1 : (k : Int) < (l.length : Int) := by omega
      obtain ⟨g, o, c', e1, hc', hxx⟩ := HV.out.at_ (by omega)
      have hx := hxx k _ (List.getElem?_eq_getElem hlt)
      clear hxx
      injection e1 with e1 _ e1c
      subst e1 e1c
      have HT := Lib.hid (take_snoc8 l k hlt)
      generalize l[k] = x at *
      generalize hy : crcF 0xffffffff#32 (l.take k) = y
      have HY := Lib.hid hy; clear hy
      have hxb := byte_bd x
      go_wp2
      go_loop [3, 16] (fun u i => ∃ m : Nat, m ≤ 8 ∧ i = .int .i64 m ∧ u = .int .u32 ((crcSteps m (y ^^^ BitVec.ofNat 32 x.toNat)).toNat : Int)) (fun _ i => 8 - (intOf i).toNat)
      case atStart => exact ⟨0, Nat.zero_le _, rfl, congrArg (Value.int .u32) (xor_byte y x)⟩
      case round =>
        obtain ⟨m, hm, rfl, rfl⟩ := hrel
        have HN := Lib.hid (crcSteps_succ m (y ^^^ BitVec.ofNat 32 x.toNat))
        generalize hz : crcSteps m (y ^^^ BitVec.ofNat 32 x.toNat) = z at *
        have HZ := Lib.hid hz; clear hz
        by_cases hm8 : m < 8
        · have hm1 : (m : Int) < 8 := by omega
          go_wp2
          go_round
          case rel => exact ⟨m + 1, by omega, by go_num, by rw [HN.out, ← round_u32, IntKind.wrap_u32']⟩
          case measure => simp [intOf]; omega
        · have hm1 : ¬ (m : Int) < 8 := by omega
          obtain rfl : m = 8 := by omega
          go_wp2
          go_roundw
          case rel => exact ⟨k + 1, by omega, by go_num, by rw [HT.out, crcF_snoc, HY.out, ← HZ.out]; rfl, trivial⟩
          case measure => simp [intOf]; omega
    · have hk1 : ¬ (k : Int) < (l.length : Int) := by omega
      obtain rfl : k = l.length := by omega
      generalize hy : crcF 0xffffffff#32 (l.take l.length) = y
      have HY := Lib.hid hy; clear hy
      go_wp2
      go_ret
      refine ⟨?_, rfl⟩
      rw [List.take_length] at HY
      have e : crcI l = ((y ^^^ 0xffffffff#32).toNat : Int) := by unfold crcI crcS; rw [HY.out]
      rw [e, ← not_u32]
      rfl

theorem or_hi (i : Nat) (x y : Int) (hi : i ≤ 32) (hx : 0 ≤ x) (hx1 : x < 2 ^ i) (hy : 0 ≤ y) (hy1 : y * 2 ^ i < 4294967296) : bits .or .u32 x (y * 2 ^ i) = x + y * 2 ^ i := by
  obtain ⟨a, rfl⟩ := Int.eq_ofNat_of_zero_le hx
  obtain ⟨b, rfl⟩ := Int.eq_ofNat_of_zero_le hy
  have ha : a < 2 ^ i := by exact_mod_cast hx1
  have ha2 : a < 4294967296 := Nat.lt_of_lt_of_le ha (Nat.pow_le_pow_right (by decide) hi)
  have e : ((b : Int) * 2 ^ i) = ((b * 2 ^ i : Nat) : Int) := by rw [Int.natCast_mul, Int.natCast_pow]; rfl
  have hb : b * 2 ^ i < 4294967296 := by rw [e] at hy1; omega
  rw [e, u32_or_nat a _ ha2 hb, Nat.or_comm, Nat.mul_comm b, ← Nat.two_pow_add_eq_or_of_lt ha b]
  rw [Int.natCast_add]
  exact Int.add_comm _ _
theorem four_or (a b c d : UInt8) : bits .or .u32 (bits .or .u32 (bits .or .u32 (a.toNat : Int) ((b.toNat : Int) * 256)) ((c.toNat : Int) * 65536)) ((d.toNat : Int) * 16777216) = (a.toNat : Int) + b.toNat * 256 + c.toNat * 65536 + d.toNat * 16777216 := by
  have ha := byte_bd a; have hb := byte_bd b; have hc := byte_bd c; have hd := byte_bd d
  have h1 := or_hi 8 (a.toNat : Int) (b.toNat : Int) (by decide) (by omega) (by omega) (by omega) (by omega)
  have h2 := or_hi 16 ((a.toNat : Int) + b.toNat * 256) (c.toNat : Int) (by decide) (by omega) (by omega) (by omega) (by omega)
  have h3 := or_hi 24 ((a.toNat : Int) + b.toNat * 256 + c.toNat * 65536) (d.toNat : Int) (by decide) (by omega) (by omega) (by omega) (by omega)
  rw [show (2 : Int) ^ 8 = 256 from rfl] at h1
  rw [show (2 : Int) ^ 16 = 65536 from rfl] at h2
  rw [show (2 : Int) ^ 24 = 16777216 from rfl] at h3
  rw [h1, h2, h3]
set_option maxHeartbeats 1000000 in
theorem ofFour_any (v : Value) (l : List UInt8) (w : World) (hv : ArgB w v l) (hl : 4 ≤ l.length) (hm : l.length ≤ maxLen) :
    Calls Tryz.prog 132 #[v] w fun e w' => e = .returned (.tuple #[.int .u32 (ofFour l : Int), .bool true]) ∧ ∃ m, w' = w.drewN m := by
  obtain ⟨g, o, c, hv0, hc, hx⟩ := hv.at_ (by omega)
  subst hv0
  clear hv
  unfold maxLen at hm
  have x0 : w.cell? ⟨g, o, none⟩ = _ := hx 0 _ (List.getElem?_eq_getElem (by omega))
  have x1 := hx 1 _ (List.getElem?_eq_getElem (by omega))
  have x2 := hx 2 _ (List.getElem?_eq_getElem (by omega))
  have x3 := hx 3 _ (List.getElem?_eq_getElem (by omega))
  clear hx
  have HO := Lib.hid (show ofFour l = (l[0]'(by omega)).toNat + (l[1]'(by omega)).toNat * 256 + (l[2]'(by omega)).toNat * 65536 + (l[3]'(by omega)).toNat * 16777216 by
    simp [ofFour, List.getD_eq_getElem?_getD, show 0 < l.length by omega, show 1 < l.length by omega, show 2 < l.length by omega, show 3 < l.length by omega])
  generalize l[0]'(by omega) = y0 at *
  generalize l[1]'(by omega) = y1 at *
  generalize l[2]'(by omega) = y2 at *
  generalize l[3]'(by omega) = y3 at *
  have b0 := byte_bd y0; have b1 := byte_bd y1; have b2 := byte_bd y2; have b3 := byte_bd y3
  have n4 : ¬ (l.length : Int) < 4 := by omega
  have n0 : (0 : Int) < (l.length : Int) := by omega
  have n1 : (1 : Int) < (l.length : Int) := by omega
  have n2 : (2 : Int) < (l.length : Int) := by omega
  have n3 : (3 : Int) < (l.length : Int) := by omega
  go_enter Tryz.func132, Tryz.ntmps132
  go_wp2
  go_quiet (fail)
  go_wp2
  go_ret2
  refine ⟨?_, _, rfl⟩
  have e : ((ofFour l : Nat) : Int) = (y0.toNat : Int) + y1.toNat * 256 + y2.toNat * 65536 + y3.toNat * 16777216 := by rw [HO.out]; simp
  rw [e, ← four_or]
  rfl
end Go.Proofs.YtlgbmkdeamgpkaaGreatDoor

/- The reference's octets: Four, OfFour, Sum, and the sector's number, by contracts. No condition beyond what each theorem states. -/
namespace Go.Proofs.YtlgbmkdeamgpkaaGreatDoor
open Go Go.RowKit

set_option maxHeartbeats 1000000 in
theorem secnum_any (v : Value) (l : List UInt8) (w : World) (hv : ArgB w v l) (hl : 4 ≤ l.length) (hm : l.length ≤ maxLen) :
    Calls Tryz.prog 87 #[v] w fun e w' => e = .returned (.int .i64 (ofFour l : Int)) ∧ ∃ m, w' = w.drewN m := by
  have hb := ofFour_lt l
  have HV := Lib.hid hv; clear hv
  go_enter Tryz.func87, Tryz.ntmps87
  go_wp2_with fail
  refine (ofFour_any _ _ _ HV.out hl hm).mono ?_
  rintro e w' ⟨rfl, m, rfl⟩
  go_wp2
  go_ret
  exact ⟨rfl, _, rfl⟩

theorem low_bit (x : UInt8) (m : Nat) : bits .and .u32 ((x.toNat : Int) / 2 ^ m) 1 = if x.toNat.testBit m then 1 else 0 := by
  have hx := x.toNat_lt
  have e : (x.toNat : Int) / 2 ^ m = ((x.toNat / 2 ^ m : Nat) : Int) := by rw [Int.natCast_ediv, Int.natCast_pow]; rfl
  have hlt : x.toNat / 2 ^ m < 4294967296 := Nat.lt_of_le_of_lt (Nat.div_le_self _ _) (by omega)
  have h := u32_and_nat (x.toNat / 2 ^ m) 1 hlt (by decide)
  rw [e, show (1 : Int) = ((1 : Nat) : Int) from rfl, h, Nat.and_one_is_mod, Nat.testBit_eq_decide_div_mod_eq]
  have := Nat.mod_two_eq_zero_or_one (x.toNat / 2 ^ m)
  rcases this with h0 | h0 <;> simp [h0]

set_option maxHeartbeats 1000000 in
theorem rsum_any (v : Value) (l : List UInt8) (w : World) (hv : ArgB w v l) (hl : l.length ≤ maxLen) :
    Calls Tryz.prog 131 #[v] w fun e w' => e = .returned (.int .u32 (crcI l)) ∧ w = w' := by
  obtain ⟨A, c, hv0, hc⟩ := hv.form
  subst hv0
  have HV := Lib.hid hv; clear hv
  unfold maxLen at hl
  go_enter Tryz.func131, Tryz.ntmps131
  go_wp2
  go_loopw [3, 4] (fun x i wr => ∃ k : Nat, k ≤ l.length ∧ i = .int .i64 k ∧ x = .int .u32 ((crcF 0xffffffff#32 (l.take k)).toNat : Int) ∧ wr = w) (fun _ i _ => l.length - (intOf i).toNat)
  case atStart => exact ⟨0, Nat.zero_le _, rfl, rfl, rfl⟩
  case round =>
    obtain ⟨k, hk, rfl, rfl, rfl⟩ := hrel
    by_cases hlt : k < l.length
    · have hk0 : (0 : Int) ≤ (k : Int) := by omega
      have hk1 : (k : Int) < (l.length : Int) := by omega
      obtain ⟨g, o, c', e1, hc', hxx⟩ := HV.out.at_ (by omega)
      have hx := hxx k _ (List.getElem?_eq_getElem hlt)
      clear hxx
      injection e1 with e1 _ e1c
      subst e1 e1c
      have HT := Lib.hid (take_snoc8 l k hlt)
      generalize l[k] = x at *
      generalize hy : crcF 0xffffffff#32 (l.take k) = y
      have HY := Lib.hid hy; clear hy
      have hxb := byte_bd x
      go_wp2
      go_loop [3, 5] (fun u i => ∃ m : Nat, m ≤ 8 ∧ i = .int .i64 m ∧ u = .int .u32 ((refSteps x y m).toNat : Int)) (fun _ i => 8 - (intOf i).toNat)
      case atStart => exact ⟨0, Nat.zero_le _, rfl, rfl⟩
      case round =>
        obtain ⟨m, hm, rfl, rfl⟩ := hrel
        have HN := Lib.hid (show refSteps x y (m + 1) = refStep (refSteps x y m) (x.toNat.testBit m) from rfl)
        have HB := Lib.hid (ref_byte x y)
        generalize hz : refSteps x y m = z at *
        have HZ := Lib.hid hz; clear hz
        by_cases hm8 : m < 8
        · have hm1 : (m : Int) < 8 := by omega
          have hmin : min m 32 = m := by omega
          have hlb := low_bit x m
          have hlz := low_u32 z
          generalize hbt : x.toNat.testBit m = bt at *
          generalize hzt : z.getLsbD 0 = zt at *
          have HBT := Lib.hid hbt; have HZT := Lib.hid hzt; clear hbt hzt
          have hstep := refStep_val z bt
          rw [HZT.out] at hstep
          have HS := Lib.hid hstep; clear hstep
          cases bt <;> cases zt
          all_goals
            simp only [if_true, Bool.false_eq_true, if_false] at hlb hlz
            go_wp2
            go_round
            case rel => exact ⟨m + 1, by omega, by go_num, by rw [HN.out, HS.out]; rfl⟩
            case measure => simp [intOf]; omega
        · have hm1 : ¬ (m : Int) < 8 := by omega
          obtain rfl : m = 8 := by omega
          go_wp2
          go_roundw
          case rel => exact ⟨k + 1, by omega, by go_num, by rw [HT.out, crcF_snoc, HY.out, ← HB.out, HZ.out], trivial⟩
          case measure => simp [intOf]; omega
    · have hk1 : ¬ (k : Int) < (l.length : Int) := by omega
      obtain rfl : k = l.length := by omega
      generalize hy : crcF 0xffffffff#32 (l.take l.length) = y
      have HY := Lib.hid hy; clear hy
      go_wp2
      go_ret
      refine ⟨?_, rfl⟩
      rw [List.take_length] at HY
      have e : crcI l = ((y ^^^ 0xffffffff#32).toNat : Int) := by unfold crcI crcS; rw [HY.out]
      rw [e, ← xor_u32]
      rfl

set_option maxHeartbeats 1000000 in
theorem rofFour_any (v : Value) (l : List UInt8) (w : World) (hv : ArgB w v l) (hl : 4 ≤ l.length) (hm : l.length ≤ maxLen) :
    Calls Tryz.prog 174 #[v] w fun e w' => e = .returned (.tuple #[.int .u32 (ofFour l : Int), .bool true]) ∧ w = w' := by
  obtain ⟨g, o, c, hv0, hc, hx⟩ := hv.at_ (by omega)
  subst hv0
  clear hv
  unfold maxLen at hm
  have x0 : w.cell? ⟨g, o, none⟩ = _ := hx 0 _ (List.getElem?_eq_getElem (by omega))
  have x1 := hx 1 _ (List.getElem?_eq_getElem (by omega))
  have x2 := hx 2 _ (List.getElem?_eq_getElem (by omega))
  have x3 := hx 3 _ (List.getElem?_eq_getElem (by omega))
  clear hx
  have HO := Lib.hid (show ofFour l = (l[0]'(by omega)).toNat + (l[1]'(by omega)).toNat * 256 + (l[2]'(by omega)).toNat * 65536 + (l[3]'(by omega)).toNat * 16777216 by
    simp [ofFour, List.getD_eq_getElem?_getD, show 0 < l.length by omega, show 1 < l.length by omega, show 2 < l.length by omega, show 3 < l.length by omega])
  generalize l[0]'(by omega) = y0 at *
  generalize l[1]'(by omega) = y1 at *
  generalize l[2]'(by omega) = y2 at *
  generalize l[3]'(by omega) = y3 at *
  have b0 := byte_bd y0; have b1 := byte_bd y1; have b2 := byte_bd y2; have b3 := byte_bd y3
  have n4 : ¬ (l.length : Int) < 4 := by omega
  have n0 : (0 : Int) < (l.length : Int) := by omega
  have n1 : (1 : Int) < (l.length : Int) := by omega
  have n2 : (2 : Int) < (l.length : Int) := by omega
  have n3 : (3 : Int) < (l.length : Int) := by omega
  go_enter Tryz.func174, Tryz.ntmps174
  go_wp2
  refine wp_loop_rounds 5 ?_
  rw [rounds_succ]
  go_wp2
  rw [rounds_succ]
  go_wp2
  rw [rounds_succ]
  go_wp2
  rw [rounds_succ]
  go_wp2
  rw [rounds_succ]
  go_wp2
  go_ret2
  refine ⟨?_, rfl⟩
  have e : ((ofFour l : Nat) : Int) = ((y3.toNat * 256 + y2.toNat : Int) * 256 + y1.toNat) * 256 + y0.toNat := by rw [HO.out]; omega
  rw [e]
  rfl

set_option maxHeartbeats 1000000 in
theorem rfour_any (n : Nat) (hn : n < 4294967296) (w : World) : Calls Tryz.prog 130 #[.int .u32 (n : Int)] w fun e w' => ∃ v, e = .returned v ∧ OwnB w' w.heap.size v (four n) ∧ Kp No w w' := by
  have HI := Tryz.infoByte
  go_enter Tryz.func130, Tryz.ntmps130
  go_wp2
  go_loopw [0, 3, 4] (fun x v i wr => ∃ k : Nat, k ≤ 4 ∧ i = .int .i64 k ∧ x = .int .u32 ((n / 256 ^ k : Nat) : Int) ∧ OwnB wr w.heap.size v ((four n).take k) ∧ Kp No w wr) (fun _ _ i _ => 4 - (intOf i).toNat)
  case atStart => exact ⟨0, Nat.zero_le _, rfl, by simp, OwnB.nil _ _, Kp.refl _ _⟩
  case round =>
    obtain ⟨k, hk, rfl, rfl, hown, hkp⟩ := hrel
    by_cases hlt : k < 4
    · have hk1 : (k : Int) < 4 := by omega
      have hlen : ((four n).take k).length = k := by simp; omega
      have hN := Lib.hid (show n / 256 ^ (k + 1) = n / 256 ^ k / 256 by rw [Nat.pow_succ, Nat.div_div_eq_div_mul])
      have HT := Lib.hid (show (four n).take (k + 1) = (four n).take k ++ [UInt8.ofNat (n / 256 ^ k)] by
        rcases k with _ | _ | _ | _ | k
        · simp [four]
        · simp [four]
        · simp [four]
        · simp [four]
        · omega)
      have hbd : n / 256 ^ k < 4294967296 := Nat.lt_of_le_of_lt (Nat.div_le_self _ _) hn
      generalize n / 256 ^ k = q at *
      have q0 : (0 : Int) ≤ (q : Int) := by omega
      have HU := Lib.hid (u8s_nat q)
      have HW := Lib.hid hown
      generalize (four n).take k = l at *
      have hsz : w.heap.size ≤ wr.heap.size := hkp.size
      have ha := fun o => HW.out.alloc' hlen o
      clear hown hlen
      go_wp2_with (at_builtin; refine wpList_appV _ rfl _ _ 69 rfl w.heap.size 5 _ 1 Tryz.underlying69 HI rfl _ k (u8s l) rfl (ha _) _ 1 1 [.int .u8 ((q : Int) % 256)] rfl rfl (cs_new rfl rfl) (by intro u hu; cases hu with | head => rfl | tail _ h => cases h) (by omega) (by omega) (by simp; omega) ?_)
      intro v' w' o1 k1 _
      have HO := Lib.hid (own_of o1 HU.out.symm)
      have HK := Lib.hid (kp_own (ha _) (hkp.alloc _) k1)
      clear o1 k1 ha
      go_wp2
      go_roundw
      case rel => exact ⟨k + 1, by omega, by go_num, by rw [hN.out]; rfl, by rw [HT.out]; exact HO.out, HK.out⟩
      case measure => simp [intOf]; omega
    · obtain rfl : k = 4 := by omega
      go_wp2
      go_ret
      exact ⟨_, rfl, hown, hkp⟩
end Go.Proofs.YtlgbmkdeamgpkaaGreatDoor

/- bytes.Trim of zero bytes, by contract. No condition beyond what each theorem states. -/
namespace Go.Proofs.YtlgbmkdeamgpkaaGreatDoor
open Go Go.RowKit

/-- the length without the zeros at the end -/
def zrK (l : List UInt8) : Nat → Nat
  | 0 => 0
  | k + 1 => if l.getD k 0 = 0 then zrK l k else k + 1
/-- the zeros at the head, d from the end n -/
def zlK (l : List UInt8) (n : Nat) : Nat → Nat
  | 0 => n
  | d + 1 => if l.getD (n - (d + 1)) 0 = 0 then zlK l n d else n - (d + 1)
theorem zrK_le (l : List UInt8) : ∀ k, zrK l k ≤ k
  | 0 => Nat.le_refl _
  | k + 1 => by unfold zrK; split; exact Nat.le_trans (zrK_le l k) (Nat.le_succ _); exact Nat.le_refl _
theorem zrK_last (l : List UInt8) : ∀ k, 0 < zrK l k → l.getD (zrK l k - 1) 0 ≠ 0
  | 0, h => by simp [zrK] at h
  | k + 1, h => by
    unfold zrK at h ⊢
    by_cases hz : l.getD k 0 = 0
    · rw [if_pos hz] at h ⊢; exact zrK_last l k h
    · rw [if_neg hz] at h ⊢; exact hz
theorem zrK_zero (l : List UInt8) : ∀ k, k ≤ l.length → (zrK l k = 0 ↔ zeroS (l.take k))
  | 0, _ => by simp [zrK, zeroS]
  | k + 1, h => by
    have ih := zrK_zero l k (by omega)
    have hg : l.getD k 0 = l[k] := by simp [List.getD_eq_getElem?_getD, List.getElem?_eq_getElem (show k < l.length by omega)]
    rw [zeroS_iff] at ih ⊢
    rw [take_snoc8 l k (by omega)]
    unfold zrK
    rw [hg]
    by_cases hz : l[k] = 0
    · rw [if_pos hz, ih]
      constructor
      · intro h x hx
        rcases List.mem_append.1 hx with hx | hx
        · exact h x hx
        · rw [List.mem_singleton.1 hx]; exact hz
      · exact fun h x hx => h x (List.mem_append_left _ hx)
    · rw [if_neg hz]
      exact ⟨fun h => by omega, fun h => absurd (h _ (List.mem_append_right _ (List.mem_singleton.2 rfl))) hz⟩

theorem ret_sl {x : Value} {A : Option Addr} {n m c : Nat} (hx : x = .slice A n c) (h : n = m) : Ending.returned x = .returned (.slice A m c) := by rw [hx, h]

set_option maxHeartbeats 1000000 in
theorem trimR_any (g o c : Nat) (l : List UInt8) (w : World) (hv : ArgB w (.slice (some ⟨g, o, none⟩) l.length c) l) (hm : c ≤ maxLen) :
    Calls Tryz.prog 134 #[.slice (some ⟨g, o, none⟩) l.length c, .int .u8 0] w fun e w' => e = .returned (.slice (some ⟨g, o, none⟩) (zrK l l.length) c) ∧ w = w' := by
  obtain ⟨hcs, _, hc⟩ := hv.cs
  have HV := Lib.hid hv; clear hv hcs
  unfold maxLen at hm
  go_enter Tryz.func134, Tryz.ntmps134
  go_wp2
  go_loop [0] (fun s => ∃ k : Nat, k ≤ l.length ∧ s = .slice (some ⟨g, o, none⟩) k c ∧ zrK l k = zrK l l.length) (fun s => match s with | .slice _ n _ => n | _ => 0)
  case atStart => exact ⟨_, Nat.le_refl _, rfl, rfl⟩
  case round =>
    obtain ⟨k, hk, rfl, hz⟩ := hrel
    have HZ := Lib.hid hz; clear hz
    rcases k with _ | k
    · have h0 := Lib.hid (show zrK l 0 = 0 from rfl)
      go_wp2
      go_ret
      exact ⟨ret_sl rfl (h0.out.symm.trans HZ.out), rfl⟩
    · obtain ⟨g', o', c', e1, hc', hxx⟩ := HV.out.at_ (by omega)
      injection e1 with e1 _ e1c
      injection e1 with e1
      injection e1 with e1 e2
      subst e1 e2 e1c
      have hx := hxx k _ (List.getElem?_eq_getElem (by omega))
      clear hxx
      have hg : l.getD k 0 = l[k] := by simp [List.getD_eq_getElem?_getD, List.getElem?_eq_getElem (show k < l.length by omega)]
      have hs : zrK l (k + 1) = if l[k] = 0 then zrK l k else k + 1 := by rw [← hg]; rfl
      generalize l[k] = x at *
      have HS := Lib.hid hs; clear hs hg
      have hk0 : (0 : Int) < ((k + 1 : Nat) : Int) := by omega
      have hk1 : ((k + 1 : Nat) : Int) - 1 = (k : Int) := by omega
      by_cases hx0 : x = 0
      · have hS := Lib.hid (HS.out.trans (if_pos hx0))
        subst hx0
        go_wp2
        go_round
        case rel => exact ⟨k, by omega, rfl, by rw [← hS.out]; exact HZ.out⟩
        case measure => simp
      · have hS := Lib.hid (HS.out.trans (if_neg hx0))
        have hxn : ((x.toNat : Int) == 0) = false := by
          rw [beq_eq_false_iff_ne]; intro e; apply hx0; apply UInt8.toNat_inj.1; show x.toNat = 0; omega
        clear hx0
        go_wp2
        go_ret
        exact ⟨ret_sl rfl (hS.out.symm.trans HZ.out), rfl⟩

theorem zlK_spec (l : List UInt8) (n : Nat) : ∀ d, d ≤ n → zlK l n d ≤ n ∧ n - d ≤ zlK l n d
  | 0, _ => ⟨Nat.le_refl _, by unfold zlK; omega⟩
  | d + 1, h => by
    have ih := zlK_spec l n d (by omega)
    unfold zlK
    split
    · exact ⟨ih.1, by omega⟩
    · omega
set_option maxHeartbeats 1000000 in
theorem trimL_nil (A : Option Addr) (c : Nat) (w : World) : Calls Tryz.prog 133 #[.slice A 0 c, .int .u8 0] w fun e w' => e = .returned (.slice none 0 0) ∧ w = w' := by
  go_enter Tryz.func133, Tryz.ntmps133
  go_wp2
  refine wp_loop_rounds 1 ?_
  rw [rounds_succ]
  go_wp2
  go_ret
  exact ⟨rfl, rfl⟩
set_option maxHeartbeats 1000000 in
/-- a list that ends with a byte that is not zero -/
theorem trimL_any (g o n c : Nat) (l : List UInt8) (w : World) (hv : ArgB w (.slice (some ⟨g, o, none⟩) n c) l) (hn : 0 < n) (hlast : l.getD (n - 1) 0 ≠ 0) (hm0 : c ≤ maxLen) :
    Calls Tryz.prog 133 #[.slice (some ⟨g, o, none⟩) n c, .int .u8 0] w fun e w' => e = .returned (.slice (some ⟨g, o + zlK l n n, none⟩) (n - zlK l n n) (c - zlK l n n)) ∧ w = w' := by
  obtain ⟨hcs, hnl, hc⟩ := hv.cs
  have HV := Lib.hid hv; clear hv hcs
  have HL := Lib.hid hlast; clear hlast
  have hm := hm0
  unfold maxLen at hm
  have HN := Lib.hid hnl; clear hnl
  go_enter Tryz.func133, Tryz.ntmps133
  go_wp2
  go_loop [0] (fun s => ∃ i : Nat, i < n ∧ s = .slice (some ⟨g, o + i, none⟩) (n - i) (c - i) ∧ zlK l n (n - i) = zlK l n n) (fun s => match s with | .slice _ n _ => n | _ => 0)
  case atStart => exact ⟨0, hn, rfl, rfl⟩
  case round =>
    obtain ⟨i, hi, rfl, hz⟩ := hrel
    have HZ := Lib.hid hz; clear hz
    have hln := HN.out
    obtain ⟨g', o', c', e1, hc', hxx⟩ := HV.out.at_ (by omega)
    injection e1 with e1 e1n e1c
    clear e1n
    injection e1 with e1
    injection e1 with e1 e2
    subst e1 e2 e1c
    have hx := hxx i _ (List.getElem?_eq_getElem (by omega))
    clear hxx
    have hg : l.getD i 0 = l[i]'(by omega) := by simp [List.getD_eq_getElem?_getD, List.getElem?_eq_getElem (show i < l.length by omega)]
    obtain ⟨d, hd⟩ : ∃ d, n - i = d + 1 := ⟨n - i - 1, by omega⟩
    have hs : zlK l n (d + 1) = if l[i]'(by omega) = 0 then zlK l n d else i := by
      rw [← hg]
      show (if l.getD (n - (d + 1)) 0 = 0 then zlK l n d else n - (d + 1)) = _
      rw [show n - (d + 1) = i by omega]
    have hl : i + 1 = n → ¬ l[i]'(by omega) = 0 := fun e => by rw [← hg, show i = n - 1 by omega]; exact HL.out
    generalize l[i]'(by omega) = x at *
    have HS := Lib.hid hs; clear hs hg hln hc'
    have HD := Lib.hid hd
    have hcd : ∃ e, c - i = d + 1 + e := ⟨c - i - (d + 1), by omega⟩
    obtain ⟨e, hcd⟩ := hcd
    rw [hd, hcd]
    have HC := Lib.hid hcd
    rw [hd] at HZ
    by_cases hx0 : x = 0
    · have hS := Lib.hid (HS.out.trans (if_pos hx0))
      have hd1 : 0 < d := by
        rcases Nat.eq_zero_or_pos d with h | h
        · exact absurd hx0 (hl (by omega))
        · exact h
      clear hl hd hcd
      subst hx0
      have k0 : (0 : Int) < ((d + 1 : Nat) : Int) := by omega
      have k1 : ¬ d + 1 + e = 1 := by omega
      go_wp2
      go_round
      case rel => exact ⟨i + 1, by have := HD.out; omega, by have h1 := HD.out; have h2 := HC.out; rw [show n - (i + 1) = d by omega, show c - (i + 1) = d + e by omega]; first | rfl | (congr 2; omega) | (congr 1; omega), by rw [show n - (i + 1) = d by have := HD.out; omega, ← hS.out]; exact HZ.out⟩
      case measure => simp
    · have hS := Lib.hid (HS.out.trans (if_neg hx0))
      have hxn : ((x.toNat : Int) == 0) = false := by
        rw [beq_eq_false_iff_ne]; intro e; apply hx0; apply UInt8.toNat_inj.1; show x.toNat = 0; omega
      clear hx0 hl hd hcd
      have k0 : (0 : Int) < ((d + 1 : Nat) : Int) := by omega
      have hz : zlK l n n = i := by rw [← HZ.out]; exact hS.out
      have HF := Lib.hid hz; clear hz
      go_wp2
      go_ret
      refine ⟨?_, rfl⟩
      rw [HF.out, HD.out, HC.out]
      rfl

set_option maxHeartbeats 1000000 in
set_option maxRecDepth 100000 in
theorem trim_zero (A : Option Addr) (c : Nat) (l : List UInt8) (w : World) (hv : ArgB w (.slice A l.length c) l) (hm : c ≤ maxLen) (hz : zeroS l) :
    Calls Tryz.prog 89 #[.slice A l.length c, .string ⟨#[0]⟩] w fun e w' => e = .returned (.slice none 0 0) ∧ ∃ m, w' = w.drewN m := by
  by_cases h0 : l.length = 0
  · have HV := Lib.hid hv; clear hv
    rw [h0]
    have H0 := Lib.hid h0; clear h0
    go_enter Tryz.func89, Tryz.ntmps89
    go_wp2
    go_ret
    exact ⟨rfl, 0, rfl⟩
  · obtain ⟨g, o, c', e, _, _⟩ := hv.at_ (by omega)
    injection e with e e2 e3
    subst e e3
    clear e2
    have hzb : (({ data := #[0] } : ByteArray)[0]).toNat = 0 := by decide
    have h1 : ((l.length : Int) == 0) = false := by rw [beq_eq_false_iff_ne]; omega
    have HZ := Lib.hid ((zrK_zero l l.length (Nat.le_refl _)).2 (by rwa [List.take_length]))
    clear hz h0
    go_enter Tryz.func89, Tryz.ntmps89
    go_wp2_with fail
    have cq1 : ∀ n, Calls Tryz.prog 134 #[.slice (some ⟨g, o, none⟩) l.length c, .int .u8 0] (w.drewN n) fun e w' => e = .returned (.slice (some ⟨g, o, none⟩) 0 c) ∧ ∃ m, w' = w.drewN m := fun n => by
      have ct := trimR_any g o c l (w.drewN n) (hv.no ((Kp.refl _ _).drewN _)) hm
      rw [HZ.out] at ct
      exact ct.mono fun _ _ ⟨a, b⟩ => ⟨a, n, b.symm⟩
    have cq2 : ∀ n, Calls Tryz.prog 133 #[.slice (some ⟨g, o, none⟩) 0 c, .int .u8 0] (w.drewN n) fun e w' => e = .returned (.slice none 0 0) ∧ ∃ m, w' = w.drewN m := fun n =>
      (trimL_nil _ _ _).mono fun _ _ ⟨a, b⟩ => ⟨a, n, b.symm⟩
    clear hv HZ
    go_quiet ((first | (go_at_call 134; exact cq1 _) | (go_at_call 133; exact cq2 _)))
    go_wp2
    go_ret
    exact ⟨rfl, _, rfl⟩
/-- the answer for a list that is not all zeros -/
def trimV (g o c : Nat) (l : List UInt8) : Value := .slice (some ⟨g, o + zlK (l.take (zrK l l.length)) (zrK l l.length) (zrK l l.length), none⟩) (zrK l l.length - zlK (l.take (zrK l l.length)) (zrK l l.length) (zrK l l.length)) (c - zlK (l.take (zrK l l.length)) (zrK l l.length) (zrK l l.length))
set_option maxRecDepth 100000 in
set_option maxHeartbeats 1000000 in
theorem trim_some (g o c : Nat) (l : List UInt8) (w : World) (hv : ArgB w (.slice (some ⟨g, o, none⟩) l.length c) l) (hm : c ≤ maxLen) (hz : ¬ zeroS l) :
    Calls Tryz.prog 89 #[.slice (some ⟨g, o, none⟩) l.length c, .string ⟨#[0]⟩] w fun e w' => e = .returned (trimV g o c l) ∧ ∃ m, w' = w.drewN m := by
  have h0 : l.length ≠ 0 := by
    intro e; apply hz; rw [List.eq_nil_of_length_eq_zero e]; rfl
  have hzr : 0 < zrK l l.length := by
    rcases Nat.eq_zero_or_pos (zrK l l.length) with h | h
    · exact absurd ((zrK_zero l l.length (Nat.le_refl _)).1 h) (by rwa [List.take_length])
    · exact h
  have hle := zrK_le l l.length
  have hlast : (l.take (zrK l l.length)).getD (zrK l l.length - 1) 0 ≠ 0 := by
    have := zrK_last l l.length hzr
    rw [List.getD_eq_getElem?_getD] at this ⊢
    rwa [List.getElem?_take_of_lt (by omega)]
  have hzb : (({ data := #[0] } : ByteArray)[0]).toNat = 0 := by decide
  have h1 : ((l.length : Int) == 0) = false := by rw [beq_eq_false_iff_ne]; omega
  have hV : Hid (trimV g o c l = .slice (some ⟨g, o + zlK (l.take (zrK l l.length)) (zrK l l.length) (zrK l l.length), none⟩) (zrK l l.length - zlK (l.take (zrK l l.length)) (zrK l l.length) (zrK l l.length)) (c - zlK (l.take (zrK l l.length)) (zrK l l.length) (zrK l l.length))) := Lib.hid rfl
  have cq1 : ∀ n, Calls Tryz.prog 134 #[.slice (some ⟨g, o, none⟩) l.length c, .int .u8 0] (w.drewN n) fun e w' => e = .returned (.slice (some ⟨g, o, none⟩) (zrK l l.length) c) ∧ ∃ m, w' = w.drewN m := fun n =>
    (trimR_any g o c l (w.drewN n) (hv.no ((Kp.refl _ _).drewN _)) hm).mono fun _ _ ⟨a, b⟩ => ⟨a, n, b.symm⟩
  have cq2 : ∀ n, Calls Tryz.prog 133 #[.slice (some ⟨g, o, none⟩) (zrK l l.length) c, .int .u8 0] (w.drewN n) fun e w' => e = .returned (trimV g o c l) ∧ ∃ m, w' = w.drewN m := fun n => by
    have ct := trimL_any g o (zrK l l.length) c (l.take (zrK l l.length)) (w.drewN n) ((hv.no ((Kp.refl _ _).drewN _)).take _ hle) hzr hlast hm
    rw [← hV.out] at ct
    exact ct.mono fun _ _ ⟨a, b⟩ => ⟨a, n, b.symm⟩
  clear hV hv hz h0 hzr hlast
  generalize zrK l l.length = z at *
  generalize trimV g o c l = tv at *
  go_enter Tryz.func89, Tryz.ntmps89
  go_wp2_with fail
  go_quiet ((first | (go_at_call 134; exact cq1 _) | (go_at_call 133; exact cq2 _)))
  go_wp2
  go_ret
  exact ⟨rfl, _, rfl⟩
theorem trimV_len (g o c : Nat) (l : List UInt8) (hz : ¬ zeroS l) : ∃ A n k, trimV g o c l = .slice A n k ∧ 0 < n := by
  refine ⟨_, _, _, rfl, ?_⟩
  have hzr : 0 < zrK l l.length := by
    rcases Nat.eq_zero_or_pos (zrK l l.length) with h | h
    · exact absurd ((zrK_zero l l.length (Nat.le_refl _)).1 h) (by rwa [List.take_length])
    · exact h
  have hlast : (l.take (zrK l l.length)).getD (zrK l l.length - 1) 0 ≠ 0 := by
    have := zrK_last l l.length hzr
    rw [List.getD_eq_getElem?_getD] at this ⊢
    rwa [List.getElem?_take_of_lt (by omega)]
  generalize zrK l l.length = z at *
  have key : ∀ d, d ≤ z → 0 < d → zlK (l.take z) z d < z := by
    intro d
    induction d with
    | zero => intro _ h; omega
    | succ d ih =>
      intro hd _
      unfold zlK
      by_cases h0 : (l.take z).getD (z - (d + 1)) 0 = 0
      · rw [if_pos h0]
        rcases Nat.eq_zero_or_pos d with e | e
        · subst e; exact absurd h0 hlast
        · exact ih (by omega) e
      · rw [if_neg h0]; omega
  have := key z (Nat.le_refl _) hzr
  omega
end Go.Proofs.YtlgbmkdeamgpkaaGreatDoor
