/- Several texts of this claim in one. No condition beyond what each theorem states. -/
import Derived.Test.YtifdceofglocdaaB01
import Derived.Lib.Hide
import Derived.PlainAid
import Derived.Deep.QuietTactic
import Derived.BigQuiet
import Derived.Outline
import Derived.Lib.SplitLaws
import Derived.Lib.Join
import Derived.Lib.Strings
import Derived.Lib.IndexBytes
import Derived.Lib.Split
import Derived.Test.YtifdceofglocdaaShelf
import Derived.Laws.Strings
import Derived.Deep.LoopGhost
import Derived.StillTailTactics
import Derived.Deep.RegionHeld3
/- Lists of ints in memory: no condition beyond what each theorem states. -/
namespace Go.Proofs.Ytifdceofglocdaa
open Go Go.RowKit

def ints (L : List Int) : List Value := L.map (Value.int .i64)
@[simp] theorem ints_length (L : List Int) : (ints L).length = L.length := by simp [ints]
theorem ints_get (L : List Int) (j : Nat) : (ints L)[j]? = (L[j]?).map (Value.int .i64) := by simp [ints]
theorem ints_append (L M : List Int) : ints (L ++ M) = ints L ++ ints M := by simp [ints]
theorem ints_one (L : List Int) : ∀ u ∈ ints L, u.oneCell' = true := by
  intro v hv; simp only [ints, List.mem_map] at hv; obtain ⟨c, _, rfl⟩ := hv; rfl
theorem ints_take (L : List Int) (k : Nat) : ints (L.take k) = (ints L).take k := by simp [ints]
/-- what a slice of ints holds -/
def ArgInts (w : World) (v : Value) (L : List Int) : Prop := ∃ A c, v = .slice A L.length c ∧ L.length ≤ c ∧ Cs w A (ints L)
theorem Cs.kp {w w' : World} {A : Option Addr} {xs : List Value} {M : Nat → Prop} (h : Cs w A xs) (hk : Kp M w w') (hM : ∀ g o, A = some ⟨g, o, none⟩ → ¬ M g) : Cs w' A xs := fun hx => by
  obtain ⟨g, o, e, hr⟩ := h hx
  exact ⟨g, o, e, range_kp hr hk (hM g o e)⟩
theorem ArgInts.kp {w w' : World} {v : Value} {L : List Int} {M : Nat → Prop} (h : ArgInts w v L) (hk : Kp M w w') (hM : ∀ g o n c, v = .slice (some ⟨g, o, none⟩) n c → ¬ M g) : ArgInts w' v L := by
  obtain ⟨A, c, rfl, hc, h⟩ := h
  exact ⟨A, c, rfl, hc, h.kp hk fun g o e => hM g o _ _ (by rw [e])⟩
theorem ArgInts.no {w w' : World} {v : Value} {L : List Int} (h : ArgInts w v L) (hk : Kp No w w') : ArgInts w' v L := h.kp hk fun _ _ _ _ _ m => m
theorem ArgInts.nil (w : World) (A : Option Addr) (c : Nat) : ArgInts w (.slice A 0 c) [] := ⟨A, c, rfl, Nat.zero_le _, fun h => absurd rfl h⟩
theorem ArgInts.at_ {w : World} {v : Value} {L : List Int} (h : ArgInts w v L) {k : Nat} (hk : k < L.length) : ∃ g o c, v = .slice (some ⟨g, o, none⟩) L.length c ∧ ∀ j x, L[j]? = some x → w.cell? ⟨g, o + j, none⟩ = some (.int .i64 x) := by
  obtain ⟨A, c, rfl, hc, hcs⟩ := h
  obtain ⟨g, o, rfl, hr⟩ := hcs (by intro e; have h0 := congrArg List.length e; rw [ints_length, List.length_nil] at h0; omega)
  exact ⟨g, o, c, rfl, fun j x hx => hr j _ (by rw [ints_get, hx]; rfl)⟩
theorem ArgInts.take {w : World} {A : Option Addr} {n c : Nat} {L : List Int} (h : ArgInts w (.slice A n c) L) (k : Nat) (hk : k ≤ L.length) : ArgInts w (.slice A k c) (L.take k) := by
  obtain ⟨A', c', e, hc, h⟩ := h
  injection e with e1 e2 e3
  subst e1 e2 e3
  refine ⟨A, c, by rw [List.length_take, Nat.min_eq_left hk], by rw [List.length_take]; omega, fun hx => ?_⟩
  obtain ⟨g, o, rfl, hr⟩ := h (fun e => hx (by rw [ints_take, e]; simp))
  refine ⟨g, o, rfl, fun j v hv => hr j v ?_⟩
  rw [ints_take, List.getElem?_take] at hv
  split at hv
  · exact hv
  · cases hv
theorem ArgInts.cs {w : World} {A : Option Addr} {n c : Nat} {L : List Int} (h : ArgInts w (.slice A n c) L) : Cs w A (ints L) ∧ n = L.length ∧ n ≤ c := by
  obtain ⟨A', c', e, hc, h⟩ := h
  injection e with e1 e2 e3
  subst e1 e2 e3
  exact ⟨h, rfl, hc⟩
theorem own_argI {w : World} {B : Nat} {v : Value} {L : List Int} {n : Nat} {t : TypeId} (hown : w.ownsRow B t 1 v n (ints L)) : ArgInts w v L := by
  have hl : L.length = n := by have := hown.1; simp at this; omega
  subst hl
  rcases hown.2 with ⟨rfl, h0⟩ | ⟨g, cap, cur, rfl, hb, hh, h1, h2, h3, h4⟩
  · exact ⟨Option.none, 0, by rw [h0], by omega, fun hx => absurd (List.eq_nil_of_length_eq_zero (by simp [h0])) hx⟩
  · refine ⟨_, cap, rfl, by omega, fun hx => ⟨g, 0, rfl, fun j v hv => ?_⟩⟩
    have := hown.cells (g := g) rfl j v hv
    rwa [Addr.add_mid] at this
theorem own_kp {w w' : World} {base : Nat} {e : TypeId} {size n : Nat} {v : Value} {xs : List Value} {M : Nat → Prop} (h : w.ownsRow base e size v n xs) (hk : Kp M w w') (hm : ∀ g, v.ownBlock = some g → ¬ M g) : w'.ownsRow base e size v n xs := by
  refine ⟨h.1, ?_⟩
  rcases h.2 with hn | ⟨g, cap, cur, rfl, hb, hgg, rest⟩
  · exact .inl hn
  · exact .inr ⟨g, cap, cur, rfl, hb, (hk.block g (Array.getElem?_eq_some_iff.1 hgg).1 (hm g rfl)).trans hgg, rest⟩
theorem own_mono {w : World} {base base' : Nat} {e : TypeId} {size n : Nat} {v : Value} {xs : List Value} (h : w.ownsRow base e size v n xs) (hb : base' ≤ base) : w.ownsRow base' e size v n xs := by
  refine ⟨h.1, ?_⟩
  rcases h.2 with hn | ⟨g, cap, cur, rfl, hb', rest⟩
  · exact .inl hn
  · exact .inr ⟨g, cap, cur, rfl, by omega, rest⟩
theorem own_fresh (w : World) (base : Nat) (e : TypeId) (hb : base ≤ w.heap.size) : (w.alloc (.cells #[] e)).ownsRow base e 1 (.slice (some ⟨w.heap.size, 0, none⟩) 0 0) 0 [] := by
  refine ⟨rfl, .inr ⟨w.heap.size, 0, #[], rfl, hb, heap_alloc_new w _, ?_, ?_, ?_, ?_⟩⟩ <;> simp
theorem own_of_bk {w : World} {g : Nat} {t : TypeId} {cs : List Value} {base n cap : Nat} (h : Bk w g t cs) (hb : base ≤ g) (hn : cs.length = cap) (hc : n ≤ cap) (hm : cap ≤ maxLen) : w.ownsRow base t 1 (.slice (some ⟨g, 0, none⟩) n cap) n (cs.take n) :=
  ⟨by rw [List.length_take]; omega, .inr ⟨g, cap, cs.toArray, rfl, hb, h, hc, hm, by simp [hn], by rw [Nat.mul_one]⟩⟩
theorem own_len {w : World} {B n size : Nat} {t : TypeId} {v : Value} {xs : List Value} (h : w.ownsRow B t size v n xs) : ∃ A c, v = .slice A n c ∧ n ≤ c := by
  rcases h.2 with ⟨rfl, rfl⟩ | ⟨g, cap, cur, hv, _, _, hc, _⟩
  · exact ⟨_, _, rfl, Nat.le_refl _⟩
  · exact ⟨_, _, hv, hc⟩
theorem own_form {w : World} {B n size : Nat} {t : TypeId} {v : Value} {xs : List Value} (h : w.ownsRow B t size v n xs) (hn : 0 < n) : ∃ g cap, v = .slice (some ⟨g, 0, none⟩) n cap ∧ n ≤ cap ∧ B ≤ g ∧ g < w.heap.size := by
  rcases h.2 with ⟨_, h0⟩ | ⟨g, cap, cur, hv, _, _, hc, _⟩
  · omega
  · have := h.lt g (by rw [hv]; rfl)
    exact ⟨g, cap, hv, hc, this.1, this.2⟩

theorem nil_own (w : World) (base : Nat) (e : TypeId) (size : Nat) : w.ownsRow base e size (.slice none 0 0) 0 [] := World.ownsRow_nil w base e size
section
variable {P : Program}
/-- append(v, xs...): cells onto a row of the call's own, nil or not, from whatever source -/
theorem run_appV (w : World) (t ty : TypeId) (base : Nat) (e : TypeId) (z : Value) (bytes : Nat) (ht : P.underlying t = some (.slice e)) (hi : (P.info? e).map (fun i => (i.zero, i.size, i.bytes)) = some (some z, 1, bytes)) (hzs : z.cells.size = 1)
    (v : Value) (n : Nat) (xs : List Value) (hown : w.ownsRow base e 1 v n xs)
    (A : Option Addr) (m c : Nat) (news : List Value) (hl : news.length = m) (hc : Cs w A news) (h1 : ∀ u ∈ news, u.oneCell' = true)
    (hn : n + m ≤ 281474976710656) (hbytes : (n + m) * bytes ≤ 140737488355328) (hbase : base ≤ w.heap.size) :
    ∃ v' w', (Builtin.append_ #[t, t] ty #[v, .slice A m c]).run P w = .ok v' w' ∧ w'.ownsRow base e 1 v' (n + m) (xs ++ news) ∧ Kp (fun k => v.ownBlock = some k) w w' ∧ (∀ g, v'.ownBlock = some g → v.ownBlock = some g ∨ g = w.heap.size) := by
  obtain ⟨i0, hi0, hz0, hz1, hz2⟩ := info_parts hi
  cases A with
  | none =>
    have hm : news = [] := by
      by_cases hne : news = []
      · exact hne
      · obtain ⟨g, o, e, _⟩ := hc hne; cases e
    subst hm
    have hm0 : m = 0 := by simpa using hl.symm
    subst hm0
    refine ⟨v, w, ?_, by simpa using hown, Kp.refl _ _, fun g h => .inl h⟩
    rcases hown.2 with ⟨rfl, rfl⟩ | ⟨g, cap, cur, rfl, _, _, hnc, _⟩
    · simp [Builtin.append_, run_underlying ht, sizeOf, typeInfo, hi0, Builtin.lenOf, Builtin.firstCells]
    · simp [Builtin.append_, run_underlying ht, sizeOf, typeInfo, hi0, Builtin.lenOf, Builtin.firstCells, hnc, storeCells]
  | some ad =>
    have hnews : ∀ j u, news[j]? = some u → w.cell? (ad.add j) = some u := by
      intro j u hu
      obtain ⟨g, o, e, hr⟩ := hc (by intro e; subst e; simp at hu)
      injection e with e; subst e
      rw [Addr.add_mid]; exact hr j u hu
    obtain ⟨v', w', hr, h2, h3, _, h5⟩ := run_append_own_at (P := P) w base t ty e i0 z 1 bytes ht hi0 hz0 hz1 hz2 hzs (by omega) v n xs hown ad m c news (by omega) hnews h1 (by unfold maxLen; omega) hbytes hbase
    refine ⟨v', w', hr, h2, (Kp.of_grownBy h3).mono (fun k _ e => e), fun g hg => ?_⟩
    rcases h5 with e | e
    · left; rw [← e]; exact hg
    · right; rw [e] at hg; injection hg with hg; exact hg.symm
theorem wp_appV (w : World) {o : Oper} {a : Act} {K : Act → World → Prop} {Q : Exit → Act → World → Prop} (s x : Operand) (t : TypeId)
    (ho : o.op = .call { callee := .builtin .append, args := #[s, x], argTypes := #[t, t] })
    (base : Nat) (e : TypeId) (z : Value) (bytes : Nat) (ht : P.underlying t = some (.slice e)) (hi : (P.info? e).map (fun i => (i.zero, i.size, i.bytes)) = some (some z, 1, bytes)) (hzs : z.cells.size = 1)
    (v : Value) (n : Nat) (xs : List Value) (hs : a.eval s = v) (hown : w.ownsRow base e 1 v n xs)
    (A : Option Addr) (m c : Nat) (news : List Value) (hx : a.eval x = .slice A m c) (hl : news.length = m) (hc : Cs w A news) (h1 : ∀ u ∈ news, u.oneCell' = true)
    (hn : n + m ≤ 281474976710656) (hbytes : (n + m) * bytes ≤ 140737488355328) (hbase : base ≤ w.heap.size)
    (h : ∀ v' w', w'.ownsRow base e 1 v' (n + m) (xs ++ news) → Kp (fun k => v.ownBlock = some k) w w' → (∀ g, v'.ownBlock = some g → v.ownBlock = some g ∨ g = w.heap.size) → K (a.put o.dst v') w') : o.wp P a w K Q := by
  obtain ⟨v', w', hr, h2, h3, h4⟩ := run_appV (P := P) w t o.type base e z bytes ht hi hzs v n xs hown A m c news hl hc h1 hn hbytes hbase
  unfold Oper.wp execOp
  simp only [ho, resolve, invoke, builtin, Sem.run_bind, Sem.run_pure, Result.andThen_ok, List.map_toArray, List.map_cons, List.map_nil, hs, hx, hr]
  exact h v' w' h2 h3 h4
theorem wpList_appV (w : World) {ops : Array Oper} {rest : List Oper} {o : Oper} {a : Act} {Q : Exit → Act → World → Prop} (hgd : o.guard = none) (s x : Operand) (t : TypeId)
    (ho : o.op = .call { callee := .builtin .append, args := #[s, x], argTypes := #[t, t] })
    (base : Nat) (e : TypeId) (z : Value) (bytes : Nat) (ht : P.underlying t = some (.slice e)) (hi : (P.info? e).map (fun i => (i.zero, i.size, i.bytes)) = some (some z, 1, bytes)) (hzs : z.cells.size = 1)
    (v : Value) (n : Nat) (xs : List Value) (hs : a.eval s = v) (hown : w.ownsRow base e 1 v n xs)
    (A : Option Addr) (m c : Nat) (news : List Value) (hx : a.eval x = .slice A m c) (hl : news.length = m) (hc : Cs w A news) (h1 : ∀ u ∈ news, u.oneCell' = true)
    (hn : n + m ≤ 281474976710656) (hbytes : (n + m) * bytes ≤ 140737488355328) (hbase : base ≤ w.heap.size)
    (h : ∀ v' w', w'.ownsRow base e 1 v' (n + m) (xs ++ news) → Kp (fun k => v.ownBlock = some k) w w' → (∀ g, v'.ownBlock = some g → v.ownBlock = some g ∨ g = w.heap.size) → wpList P ops Q rest (a.put o.dst v') w') : wpList P ops Q (o :: rest) a w :=
  wpList_plain hgd fun _ hK => wp_appV w s x t ho base e z bytes ht hi hzs v n xs hs hown A m c news hx hl hc h1 hn hbytes hbase fun v' w' h2 h3 h4 => hK _ _ (h v' w' h2 h3 h4)
/-- make([]T, 0, c) -/
theorem mk_run0 (t e : TypeId) (i : TypeInfo) (z : Value) (ht : P.underlying t = some (.slice e)) (hi : P.info? e = some i) (hz : i.zero = some z) (v : Value) (hc : z.cells = #[v]) (hsz : i.size = 1)
    (n : Nat) (hbytes : i.bytes * n ≤ 281474976710656) (h63 : n ≤ 9223372036854775807) (w : World) :
    (Instr.makeSlice t (.int .i64 0) (.int .i64 (n : Int))).run P w = .ok (.slice (some ⟨w.heap.size, 0, none⟩) 0 n) (w.alloc (.cells (List.replicate n v).toArray e)) := by
  have hr := run_make (P := P) w t e i z ht hi hz .i64 .i64 (0 : Nat) n (by omega) (by omega) (by omega) (by omega)
  rw [hc, show (#[v] : Array Value) = Array.replicate 1 v from rfl, madeCells_same _ _ _ (by omega), hsz, Nat.mul_one] at hr
  exact hr
theorem own_made0 (w : World) (base : Nat) (e : TypeId) (v : Value) (n : Nat) (hb : base ≤ w.heap.size) (hm : n ≤ maxLen) : (w.alloc (.cells (List.replicate n v).toArray e)).ownsRow base e 1 (.slice (some ⟨w.heap.size, 0, none⟩) 0 n) 0 [] :=
  ⟨rfl, .inr ⟨w.heap.size, n, (List.replicate n v).toArray, rfl, hb, heap_alloc_new w _, Nat.zero_le _, hm, by simp, by simp⟩⟩
end

theorem ret_bool {x : Value} {b c : Bool} (hx : x = .bool b) (h : b = c) : Ending.returned x = .returned (.bool c) := by rw [hx, h]
theorem ret_int {x : Value} {b c : Int} (hx : x = .int .i64 b) (h : b = c) : Ending.returned x = .returned (.int .i64 c) := by rw [hx, h]
end Go.Proofs.Ytifdceofglocdaa

/- Plain laws on stamps: no condition beyond what each theorem states. -/
namespace Go.Proofs.Ytifdceofglocdaa
open Go Go.RowKit

/-! plain -/
def okN (n : Int) : Bool := decide (1 ≤ n ∧ n ≤ 1099511627776)
def validS (L : List Int) : Bool := decide (L.length ≤ 4) && L.all okN
def cmpI (a b : Int) : Int := if a < b then -1 else if b < a then 1 else 0
def cmpS : List Int → List Int → Int
  | [], [] => 0
  | [], _ :: _ => -1
  | _ :: _, [] => 1
  | a :: L, b :: M => if a < b then -1 else if b < a then 1 else cmpS L M
def underS (L M : List Int) : Bool := decide (L.length ≤ M.length) && decide (cmpS L (M.take L.length) = 0)
def laterS (L M : List Int) : List Int := if cmpS L M < 0 then M else L
def extS (L : List Int) (n : Int) : List Int × Int := if validS L = false then ([], 13) else if L.length = 4 then ([], 14) else if okN n = false then ([], 66) else (L ++ [n], 0)
def nextS (L : List Int) : List Int × Int := if L = [] ∨ validS L = false then ([], 13) else if L.getLast? = some 1099511627776 then ([], 66) else (L.set (L.length - 1) (L.getD (L.length - 1) 0 + 1), 0)

theorem cmpS_step {L M : List Int} {k : Nat} (h1 : k < L.length) (h2 : k < M.length) : cmpS (L.drop k) (M.drop k) = if L[k] < M[k] then -1 else if M[k] < L[k] then 1 else cmpS (L.drop (k + 1)) (M.drop (k + 1)) := by
  rw [List.drop_eq_getElem_cons h1, List.drop_eq_getElem_cons h2]; rfl
theorem cmpS_end1 {L M : List Int} {k : Nat} (h1 : L.length ≤ k) (h2 : k < M.length) : cmpS (L.drop k) (M.drop k) = -1 := by
  rw [List.drop_eq_nil_of_le h1, List.drop_eq_getElem_cons h2]; rfl
theorem cmpS_end2 {L M : List Int} {k : Nat} (h1 : k < L.length) (h2 : M.length ≤ k) : cmpS (L.drop k) (M.drop k) = 1 := by
  rw [List.drop_eq_nil_of_le h2, List.drop_eq_getElem_cons h1]; rfl
theorem cmpS_end0 {L M : List Int} {k : Nat} (h1 : L.length ≤ k) (h2 : M.length ≤ k) : cmpS (L.drop k) (M.drop k) = 0 := by
  rw [List.drop_eq_nil_of_le h2, List.drop_eq_nil_of_le h1]; rfl
theorem all_take {L : List Int} {k : Nat} (p : Int → Bool) (hk : k < L.length) : (L.take (k + 1)).all p = ((L.take k).all p && p L[k]) := by
  rw [List.take_succ_eq_append_getElem hk, List.all_append]; simp
end Go.Proofs.Ytifdceofglocdaa

/- The program's stamps: counts, Valid, inOrder, Compare, by contracts. No condition beyond what each theorem states. -/
namespace Go.Proofs.Ytifdceofglocdaa
open Go Go.RowKit Go.PlainAid

theorem counts_any (n : Int) (w : World) : Calls Try.prog 100 #[.int .i64 n] w fun e w' => e = .returned (.bool (okN n)) ∧ w = w' := by
  go_enter Try.func100, Try.ntmps100
  by_cases h1 : 1 ≤ n <;> by_cases h2 : n ≤ 1099511627776
  all_goals
    have HS := Lib.hid (show okN n = decide (1 ≤ n ∧ n ≤ 1099511627776) from rfl)
    go_wp2
    go_ret
    exact ⟨ret_bool rfl (by rw [HS.out]; simp [h1, h2]), rfl⟩
theorem vf_any (n : Int) (w : World) : Calls Try.prog 99 #[.int .i64 n] w fun e w' => e = .returned (.bool (!okN n)) ∧ w = w' := by
  go_enter Try.func99, Try.ntmps99
  go_wp2_with fail
  refine (counts_any _ _).mono ?_
  rintro e w' ⟨rfl, rfl⟩
  go_wp2
  go_ret
  exact ⟨rfl, rfl⟩
set_option maxHeartbeats 1000000 in
theorem indexF_any (A : Option Addr) (c : Nat) (L : List Int) (w : World) (hv : ArgInts w (.slice A L.length c) L) (hl : L.length ≤ maxLen) :
    Calls Try.prog 107 #[.slice A L.length c, .func (.func 99) #[] #[]] w fun e w' => (∃ r : Int, e = .returned (.int .i64 r) ∧ decide (0 ≤ r) = !(L.all okN)) ∧ w = w' := by
  have HV := Lib.hid hv; clear hv
  unfold maxLen at hl
  go_enter Try.func107, Try.ntmps107
  go_wp2
  go_loopw [8] (fun i wr => ∃ k : Nat, k ≤ L.length ∧ i = .int .i64 k ∧ wr = w ∧ (L.take k).all okN = true) (fun i _ => L.length - (intOf i).toNat)
  case atStart => exact ⟨0, Nat.zero_le _, rfl, rfl, by simp⟩
  case round =>
    obtain ⟨k, hk, rfl, rfl, hF⟩ := hrel
    have HF := Lib.hid hF; clear hF
    by_cases hlt : k < L.length
    · have hk0 : (0 : Int) ≤ (k : Int) := by omega
      have hk1 : (k : Int) < (L.length : Int) := by omega
      obtain ⟨g, o, c', e1, hxx⟩ := HV.out.at_ hlt
      have hx := hxx k _ (List.getElem?_eq_getElem hlt)
      clear hxx
      injection e1 with e1 _ e1c
      subst e1 e1c
      have HT := Lib.hid (all_take okN hlt)
      have HM := Lib.hid (show okN L[k] = false → L.all okN = false from fun h => by
        rw [Bool.eq_false_iff]; intro ha
        have := List.all_eq_true.1 ha _ (List.getElem_mem hlt)
        rw [h] at this; cases this)
      generalize L[k] = x at *
      go_wp2_with fail
      refine (vf_any x _).mono ?_
      rintro e w' ⟨rfl, rfl⟩
      cases hok : okN x with
      | false =>
        have HO := Lib.hid hok; clear hok
        go_wp2
        go_ret
        exact ⟨⟨k, rfl, by rw [HM.out HO.out]; simp⟩, rfl⟩
      | true =>
        have HO := Lib.hid hok; clear hok
        go_wp2
        go_roundw
        case rel => exact ⟨k + 1, by omega, by go_num, by trivial, by rw [HT.out, HF.out, HO.out]; rfl⟩
        case measure => simp [intOf]; omega
    · have hk' : k = L.length := by omega
      have hall : L.all okN = true := by have := HF.out; rwa [hk', List.take_length] at this
      have HA := Lib.hid hall; clear hall hk'
      have hk1 : ¬ (k : Int) < (L.length : Int) := by omega
      go_wp2
      go_ret
      exact ⟨⟨-1, rfl, by rw [HA.out]; rfl⟩, rfl⟩
theorem containsF_any (A : Option Addr) (c : Nat) (L : List Int) (w : World) (hv : ArgInts w (.slice A L.length c) L) (hl : L.length ≤ maxLen) :
    Calls Try.prog 98 #[.slice A L.length c, .func (.func 99) #[] #[]] w fun e w' => e = .returned (.bool (!(L.all okN))) ∧ w = w' := by
  go_enter Try.func98, Try.ntmps98
  go_wp2_with fail
  refine (indexF_any _ _ _ _ hv hl).mono ?_
  rintro e w' ⟨⟨r, rfl, hr⟩, rfl⟩
  have HR := Lib.hid hr; clear hr hv
  go_wp2
  go_ret
  exact ⟨ret_bool rfl HR.out, rfl⟩
theorem validS_any (v : Value) (L : List Int) (w : World) (hv : ArgInts w v L) (hl : L.length ≤ maxLen) :
    Calls Try.prog 88 #[v] w fun e w' => e = .returned (.bool (validS L)) ∧ w = w' := by
  have HV := Lib.hid hv
  obtain ⟨A, c, rfl, hc, _⟩ := hv
  go_enter Try.func88, Try.ntmps88
  by_cases h4 : L.length ≤ 4
  · have h4' : (L.length : Int) ≤ 4 := by omega
    have HS := Lib.hid (show validS L = L.all okN by unfold validS; rw [decide_eq_true h4]; simp)
    go_wp2_with fail
    refine (containsF_any _ _ _ _ HV.out hl).mono ?_
    rintro e w' ⟨rfl, rfl⟩
    generalize L.all okN = b at *
    cases b
    all_goals
      go_wp2
      go_ret
      exact ⟨ret_bool rfl (by rw [HS.out]), rfl⟩
  · have h4' : ¬ (L.length : Int) ≤ 4 := by omega
    have HS := Lib.hid (show validS L = false by unfold validS; rw [decide_eq_false h4]; simp)
    go_wp2
    go_ret
    exact ⟨ret_bool rfl HS.out.symm, rfl⟩

end Go.Proofs.Ytifdceofglocdaa

/- Plain laws on paths as lists of bytes: no program in sight. -/
namespace Go.Proofs.Ytifdceofglocdaa
open Go

abbrev Bytes := List UInt8

/-- a letter of a segment -/
def okC (c : UInt8) : Bool := (decide (97 ≤ c.toNat) && decide (c.toNat ≤ 122)) || (decide (48 ≤ c.toNat) && decide (c.toNat ≤ 57))
/-- a segment -/
def segB (x : Bytes) : Bool := decide (1 ≤ x.length) && decide (x.length ≤ 6) && x.all okC
/-- what fine computes, n letters into a segment -/
def fineL : Bytes → Nat → Bool
  | [], n => decide (0 < n ∧ n ≤ 6)
  | c :: r, n => if c.toNat = 47 then (if n = 0 then false else fineL r 0) else if okC c then (if 6 ≤ n then false else fineL r (n + 1)) else false
/-- the pieces between the strokes -/
def segs : Bytes → List Bytes
  | [] => [[]]
  | c :: r => if c.toNat = 47 then [] :: segs r else match segs r with | [] => [[c]] | x :: t => (c :: x) :: t
/-- the segments of a path -/
def path (l : Bytes) : Option (List Bytes) := if l = [] then some [] else if (segs l).all segB && decide ((segs l).length ≤ 4) then some (segs l) else none

theorem segs_ne (l : Bytes) : segs l ≠ [] := by
  cases l with
  | nil => simp [segs]
  | cons c r =>
    unfold segs
    split
    · simp
    · split <;> simp

theorem fineL_iff : ∀ (l : Bytes) (n : Nat), n ≤ 6 → (fineL l n = true ↔ ∃ x t, segs l = x :: t ∧ 1 ≤ n + x.length ∧ n + x.length ≤ 6 ∧ x.all okC = true ∧ t.all segB = true)
  | [], n, hn => by
    simp only [fineL, segs, decide_eq_true_eq]
    constructor
    · intro h
      exact ⟨[], [], rfl, by simp; omega, by simp; omega, rfl, rfl⟩
    · rintro ⟨x, t, h, h1, h2, _⟩
      simp at h
      obtain ⟨rfl, rfl⟩ := h
      simp at h1 h2
      omega
  | c :: r, n, hn => by
    unfold fineL segs
    by_cases hc : c.toNat = 47
    · rw [if_pos hc, if_pos hc]
      by_cases h0 : n = 0
      · subst h0
        rw [if_pos rfl]
        constructor
        · intro h; cases h
        · rintro ⟨x, t, h, h1, _⟩
          simp at h
          obtain ⟨rfl, rfl⟩ := h
          simp at h1
      · rw [if_neg h0, fineL_iff r 0 (by omega)]
        constructor
        · rintro ⟨x, t, h, h1, h2, h3, h4⟩
          refine ⟨[], segs r, rfl, by simp; omega, by simp; omega, rfl, ?_⟩
          rw [h]
          simp only [List.all_cons, Bool.and_eq_true, segB, decide_eq_true_eq]
          exact ⟨⟨⟨by omega, by omega⟩, h3⟩, h4⟩
        · rintro ⟨x, t, h, h1, h2, h3, h4⟩
          simp at h
          obtain ⟨rfl, rfl⟩ := h
          cases hs : segs r with
          | nil => exact absurd hs (segs_ne r)
          | cons y u =>
            rw [hs] at h4
            simp only [List.all_cons, Bool.and_eq_true, segB, decide_eq_true_eq] at h4
            exact ⟨y, u, rfl, by omega, by omega, h4.1.2, h4.2⟩
    · rw [if_neg hc, if_neg hc]
      cases hs : segs r with
      | nil => exact absurd hs (segs_ne r)
      | cons y u =>
        simp only
        by_cases hok : okC c = true
        · rw [if_pos hok]
          by_cases h6 : 6 ≤ n
          · rw [if_pos h6]
            constructor
            · intro h; cases h
            · rintro ⟨x, t, h, h1, h2, _⟩
              simp at h
              obtain ⟨rfl, rfl⟩ := h
              simp at h2
              omega
          · rw [if_neg h6, fineL_iff r (n + 1) (by omega)]
            constructor
            · rintro ⟨x, t, h, h1, h2, h3, h4⟩
              rw [hs] at h
              simp at h
              obtain ⟨rfl, rfl⟩ := h
              exact ⟨c :: y, u, rfl, by simp; omega, by simp; omega, by simp [hok]; simpa using h3, h4⟩
            · rintro ⟨x, t, h, h1, h2, h3, h4⟩
              simp at h
              obtain ⟨rfl, rfl⟩ := h
              simp at h1 h2
              exact ⟨y, u, hs, by omega, by omega, by simp [hok] at h3; simpa using h3, h4⟩
        · rw [if_neg hok]
          constructor
          · intro h; cases h
          · rintro ⟨x, t, h, h1, h2, h3, h4⟩
            simp at h
            obtain ⟨rfl, rfl⟩ := h
            simp at h3
            exact absurd h3.1 hok

theorem fine_segs (l : Bytes) : fineL l 0 = (segs l).all segB := by
  rw [Bool.eq_iff_iff, fineL_iff l 0 (by omega)]
  constructor
  · rintro ⟨x, t, h, h1, h2, h3, h4⟩
    rw [h]
    simp only [List.all_cons, Bool.and_eq_true, segB, decide_eq_true_eq]
    exact ⟨⟨⟨by omega, by omega⟩, h3⟩, h4⟩
  · intro h
    cases hs : segs l with
    | nil => exact absurd hs (segs_ne l)
    | cons y u =>
      rw [hs] at h
      simp only [List.all_cons, Bool.and_eq_true, segB, decide_eq_true_eq] at h
      exact ⟨y, u, rfl, by omega, by omega, h.1.2, h.2⟩

theorem segs_length (l : Bytes) : (segs l).length = l.count 47 + 1 := by
  induction l with
  | nil => simp [segs]
  | cons c r ih =>
    unfold segs
    by_cases hc : c.toNat = 47
    · have : c = 47 := UInt8.toNat_inj.1 hc
      subst this
      rw [if_pos hc]; simp [ih]
    · have : c ≠ 47 := fun e => hc (by rw [e]; rfl)
      rw [if_neg hc, List.count_cons_of_ne this]
      cases hs : segs r with
      | nil => exact absurd hs (segs_ne r)
      | cons y u => rw [← ih, hs]; simp

theorem path_nil : path [] = some [] := by simp [path]
theorem path_ne {l : Bytes} (h : l ≠ []) : path l = if fineL l 0 = true ∧ l.count 47 < 4 then some (segs l) else none := by
  unfold path
  rw [if_neg h, ← fine_segs, segs_length]
  by_cases hf : fineL l 0 = true <;> by_cases hc : l.count 47 < 4 <;> simp [hf, hc] <;> omega
theorem path_isSome_iff {l : Bytes} (h : l ≠ []) : (path l).isSome = true ↔ fineL l 0 = true ∧ l.count 47 < 4 := by
  rw [path_ne h]; split <;> simp [*]

theorem segs_sum (l : Bytes) : ((segs l).map fun x => x.length + 1).sum = l.length + 1 := by
  induction l with
  | nil => simp [segs]
  | cons c r ih =>
    unfold segs
    split
    · simp [ih]; omega
    · cases hs : segs r with
      | nil => exact absurd hs (segs_ne r)
      | cons y u => rw [hs] at ih; simp at ih ⊢; omega
theorem sum_le : ∀ (L : List Bytes), L.all segB = true → (L.map fun x => x.length + 1).sum ≤ 7 * L.length
  | [], _ => by simp
  | x :: t, h => by
    simp only [List.all_cons, Bool.and_eq_true, segB, decide_eq_true_eq] at h
    have := sum_le t h.2
    simp only [List.map_cons, List.sum_cons, List.length_cons]
    omega
/-- a path is short -/
theorem path_len {l : Bytes} (h : (path l).isSome = true) : l.length ≤ 27 := by
  unfold path at h
  split at h
  · rename_i e; subst e; simp
  · split at h
    · rename_i e
      simp only [Bool.and_eq_true, decide_eq_true_eq] at e
      have := sum_le _ e.1
      rw [segs_sum] at this
      omega
    · simp at h

theorem splitK_ne (c : UInt8) (r : Bytes) (hc : c ≠ 47) (k : Nat) : Lib.splitK [47] 0 k (c :: r) = match Lib.splitK [47] 0 k r with | [] => [] | x :: t => (c :: x) :: t := by
  cases k with
  | zero => rfl
  | succ k =>
    have hge := Lib.indexByte_ge r 47
    have hi : Lib.index (c :: r) [47] = if Lib.index r [47] = -1 then -1 else Lib.index r [47] + 1 := by
      rw [Lib.index_one, Lib.index_one, Lib.indexByte]
      have : (c == 47) = false := by simpa using hc
      rw [this]; simp
    unfold Lib.splitK
    rw [hi]
    rw [Lib.index_one] at *
    by_cases h : Lib.indexByte r 47 = -1
    · rw [if_pos h]; simp [h]
    · rw [if_neg h]
      have h1 : (Lib.indexByte r 47 + 1 == -1) = false := by simp; omega
      have h2 : (Lib.indexByte r 47 == -1) = false := by simpa using h
      have h3 : (Lib.indexByte r 47 + 1).toNat = (Lib.indexByte r 47).toNat + 1 := by omega
      simp [h1, h2, h3]
theorem splitK_segs : ∀ l : Bytes, Lib.splitK [47] 0 (l.count 47) l = segs l
  | [] => rfl
  | c :: r => by
    unfold segs
    by_cases hc : c.toNat = 47
    · have : c = 47 := UInt8.toNat_inj.1 hc
      subst this
      rw [if_pos hc, ← splitK_segs r, List.count_cons_self]
      have hi : Lib.index (47 :: r) [47] = 0 := by rw [Lib.index_one, Lib.indexByte]; simp
      conv => lhs; unfold Lib.splitK
      rw [hi]; simp
    · have h : c ≠ 47 := fun e => hc (by rw [e]; rfl)
      rw [if_neg hc, List.count_cons_of_ne h, splitK_ne c r h, splitK_segs r]
      cases hs : segs r with
      | nil => exact absurd hs (segs_ne r)
      | cons y u => rfl

theorem indexByte_mem (c : UInt8) : ∀ l : Bytes, 0 ≤ Lib.indexByte l c ↔ c ∈ l
  | [] => by simp [Lib.indexByte]
  | b :: l => by
    unfold Lib.indexByte
    by_cases h : b = c
    · subst h; simp
    · have h1 : (b == c) = false := by simpa using h
      have := Lib.indexByte_ge l c
      have ih := indexByte_mem c l
      rw [h1]
      simp only [Bool.false_eq_true, if_false, List.mem_cons]
      by_cases h2 : Lib.indexByte l c = -1
      · simp only [h2, BEq.rfl, if_true]
        have : ¬ c ∈ l := fun m => by have := ih.2 m; omega
        simp [this, Ne.symm h]
      · have h3 : (Lib.indexByte l c == -1) = false := by simpa using h2
        rw [h3]
        simp only [Bool.false_eq_true, if_false]
        have hm : c ∈ l := ih.1 (by omega)
        simp [hm]; omega
/-- a piece without a stroke -/
theorem segs_none {x : Bytes} (h : (47 : UInt8) ∉ x) : segs x = [x] := by
  induction x with
  | nil => rfl
  | cons c r ih =>
    simp at h
    unfold segs
    have hc : ¬ c.toNat = 47 := fun e => h.1 (UInt8.toNat_inj.1 e).symm
    rw [if_neg hc, ih h.2]
theorem segs_append {x : Bytes} (y : Bytes) (h : (47 : UInt8) ∉ x) : segs (x ++ 47 :: y) = x :: segs y := by
  induction x with
  | nil => rfl
  | cons c r ih =>
    simp at h
    have hc : ¬ c.toNat = 47 := fun e => h.1 (UInt8.toNat_inj.1 e).symm
    rw [List.cons_append, segs, if_neg hc, ih h.2]
theorem okC_ne {c : UInt8} (h : okC c = true) : c ≠ 47 := by
  rintro rfl
  exact absurd h (by decide)
theorem segB_none {x : Bytes} (h : segB x = true) : (47 : UInt8) ∉ x := by
  intro m
  simp only [segB, Bool.and_eq_true] at h
  exact okC_ne (List.all_eq_true.1 h.2 47 m) rfl
theorem segB_fine (x : Bytes) : segB x = (decide ((47 : UInt8) ∉ x) && fineL x 0) := by
  rw [fine_segs]
  by_cases h : (47 : UInt8) ∈ x
  · have : ¬ segB x = true := fun e => segB_none e h
    simp [h, this]
  · rw [segs_none h]; simp [h]
/-- joining gives a list of pieces whose pieces are these -/
theorem segs_join : ∀ (L : List Bytes), L ≠ [] → L.all segB = true → segs (Lib.join L [47]) = L
  | [], h, _ => absurd rfl h
  | [x], _, h => by
    simp at h
    rw [Lib.join_one, segs_none (segB_none h)]
  | x :: y :: t, _, h => by
    have hx : segB x = true := by simp at h; exact h.1
    have hr : (y :: t).all segB = true := by simp at h ⊢; exact h.2
    have e : Lib.join (x :: y :: t) [47] = x ++ 47 :: Lib.join (y :: t) [47] := by simp [Lib.join, List.intercalate]
    rw [e, segs_append _ (segB_none hx), segs_join (y :: t) (by simp) hr]
theorem join_segs : ∀ (l : Bytes), Lib.join (segs l) [47] = l
  | [] => by simp [segs, Lib.join, List.intercalate]
  | c :: r => by
    unfold segs
    have ih := join_segs r
    cases hs : segs r with
    | nil => exact absurd hs (segs_ne r)
    | cons y u =>
      rw [hs] at ih
      by_cases hc : c.toNat = 47
      · have : c = 47 := UInt8.toNat_inj.1 hc
        subst this
        rw [if_pos hc]
        have e : Lib.join ([] :: y :: u) [47] = 47 :: Lib.join (y :: u) [47] := by simp [Lib.join, List.intercalate]
        rw [e, ih]
      · rw [if_neg hc]
        cases u with
        | nil => simp [Lib.join, List.intercalate] at ih ⊢; exact ih
        | cons z v =>
          have e : Lib.join ((c :: y) :: z :: v) [47] = c :: Lib.join (y :: z :: v) [47] := by simp [Lib.join, List.intercalate]
          simp only
          rw [e, ih]
end Go.Proofs.Ytifdceofglocdaa

/- The program's functions on paths, by contracts. -/
namespace Go.Proofs.Ytifdceofglocdaa
open Go Go.RowKit Go.PlainAid

theorem fineL_step (l : List UInt8) (k n : Nat) (hk : k < l.length) : fineL (l.drop k) n = if l[k].toNat = 47 then (if n = 0 then false else fineL (l.drop (k + 1)) 0) else if okC l[k] then (if 6 ≤ n then false else fineL (l.drop (k + 1)) (n + 1)) else false := by
  rw [List.drop_eq_getElem_cons hk]; rfl

set_option maxRecDepth 100000 in
theorem fine_any (s : ByteArray) (w : World) (hs : s.size ≤ maxLen) :
    Calls Try.prog 94 #[.string s] w fun e w' => e = .returned (.bool (fineL s.data.toList 0)) ∧ w' = w := by
  have hb := get_bt s
  have hs' : (s.size : Int) ≤ 9223372036854775807 := by unfold maxLen at hs; omega
  go_enter Try.func94, Try.ntmps94
  go_wp2
  go_step3
  go_wp2
  go_step3
  go_wp2
  go_loopw [8, 3] (fun i n wr => ∃ k : Nat, k ≤ s.size ∧ i = .int .i64 k ∧ ∃ N : Nat, N ≤ 6 ∧ n = .int .i64 N ∧ wr = w ∧ fineL (s.data.toList.drop k) N = fineL s.data.toList 0) (fun i _ _ => s.size - (intOf i).toNat)
  case atStart => exact ⟨0, Nat.zero_le _, rfl, 0, Nat.zero_le _, rfl, rfl, by simp⟩
  case round =>
    obtain ⟨k, hk, rfl, N, hN, rfl, rfl, hF⟩ := hrel
    by_cases hlt : k < s.size
    · have hk0 : (0 : Int) ≤ (k : Int) := by omega
      have hk1 : (k : Int) < (s.size : Int) := by omega
      have hl : k < s.data.toList.length := by simpa using hlt
      have hc : bt s k = (((s.data.toList[k]'hl).toNat : Nat) : Int) := by
        rw [← hb k hlt]; simp [ByteArray.getElem_eq_getElem_data]
      rw [fineL_step _ _ _ hl] at hF
      generalize s.data.toList[k]'hl = c at *
      have hrng : c.toNat < 256 := c.toNat_lt
      have hok : okC c = true ↔ (97 ≤ c.toNat ∧ c.toNat ≤ 122) ∨ (48 ≤ c.toNat ∧ c.toNat ≤ 57) := by simp [okC]
      by_cases h47 : c.toNat = 47
      · have e47 : bt s k = 47 := by omega
        rw [if_pos h47] at hF
        clear hc hok
        by_cases hN0 : N = 0
        · subst hN0
          rw [if_pos rfl] at hF
          have HF := Lib.hid hF; clear hF
          go_wp2
          try rw [Exit.noGoto_ret]
          go_ret
          exact ⟨by rw [← HF.out]; rfl, rfl⟩
        · rw [if_neg hN0] at hF
          have n0 : ((N : Int) == 0) = false := by simp [hN0]
          have HF := Lib.hid hF; clear hF
          go_wp2
          go_roundw
          case rel => exact ⟨k + 1, by omega, by go_num, 0, by omega, by go_num, by trivial, HF.out⟩
          case measure => simp [intOf]; omega
      · have e47 : (bt s k == 47) = false := by simp; omega
        rw [if_neg h47] at hF
        rcases (by omega : (97 ≤ c.toNat ∧ c.toNat ≤ 122) ∨ (48 ≤ c.toNat ∧ c.toNat ≤ 57) ∨ c.toNat < 48 ∨ (57 < c.toNat ∧ c.toNat < 97) ∨ 122 < c.toNat) with ⟨c1, c2⟩ | ⟨c1, c2⟩ | c1 | ⟨c1, c2⟩ | c1
        · rw [if_pos (hok.2 (by omega))] at hF
          have f1 : 97 ≤ bt s k := by omega
          have f2 : bt s k ≤ 122 := by omega
          clear hc hok c1 c2
          by_cases h6 : 6 ≤ N
          · obtain rfl : N = 6 := by omega
            rw [if_pos (Nat.le_refl _)] at hF
            have HF := Lib.hid hF; clear hF
            go_wp2
            try rw [Exit.noGoto_ret]
            go_ret
            exact ⟨by rw [← HF.out]; rfl, rfl⟩
          · rw [if_neg h6] at hF
            have h6' : (N : Int) + 1 ≤ 6 := by omega
            have HF := Lib.hid hF; clear hF
            go_wp2
            go_roundw
            case rel => exact ⟨k + 1, by omega, by go_num, N + 1, by omega, by go_num, by trivial, HF.out⟩
            case measure => simp [intOf]; omega
        · rw [if_pos (hok.2 (by omega))] at hF
          have f1 : 48 ≤ bt s k := by omega
          have f2 : bt s k ≤ 57 := by omega
          have f3 : ¬ 97 ≤ bt s k := by omega
          clear hc hok c1 c2
          by_cases h6 : 6 ≤ N
          · obtain rfl : N = 6 := by omega
            rw [if_pos (Nat.le_refl _)] at hF
            have HF := Lib.hid hF; clear hF
            go_wp2
            try rw [Exit.noGoto_ret]
            go_ret
            exact ⟨by rw [← HF.out]; rfl, rfl⟩
          · rw [if_neg h6] at hF
            have h6' : (N : Int) + 1 ≤ 6 := by omega
            have HF := Lib.hid hF; clear hF
            go_wp2
            go_roundw
            case rel => exact ⟨k + 1, by omega, by go_num, N + 1, by omega, by go_num, by trivial, HF.out⟩
            case measure => simp [intOf]; omega
        · rw [if_neg (fun h => by have := hok.1 h; omega)] at hF
          have f1 : ¬ 48 ≤ bt s k := by omega
          have f3 : ¬ 97 ≤ bt s k := by omega
          clear hc hok c1
          have HF := Lib.hid hF; clear hF
          go_wp2
          try rw [Exit.noGoto_ret]
          go_ret
          exact ⟨by rw [← HF.out]; rfl, rfl⟩
        · rw [if_neg (fun h => by have := hok.1 h; omega)] at hF
          have f1 : 48 ≤ bt s k := by omega
          have f2 : ¬ bt s k ≤ 57 := by omega
          have f3 : ¬ 97 ≤ bt s k := by omega
          clear hc hok c1 c2
          have HF := Lib.hid hF; clear hF
          go_wp2
          try rw [Exit.noGoto_ret]
          go_ret
          exact ⟨by rw [← HF.out]; rfl, rfl⟩
        · rw [if_neg (fun h => by have := hok.1 h; omega)] at hF
          have f1 : 97 ≤ bt s k := by omega
          have f2 : ¬ bt s k ≤ 122 := by omega
          have f3 : 48 ≤ bt s k := by omega
          have f4 : ¬ bt s k ≤ 57 := by omega
          clear hc hok c1
          have HF := Lib.hid hF; clear hF
          go_wp2
          try rw [Exit.noGoto_ret]
          go_ret
          exact ⟨by rw [← HF.out]; rfl, rfl⟩
    · have hk' : k = s.size := by omega
      have hd : s.data.toList.drop k = [] := List.drop_eq_nil_of_le (by subst hk'; simp)
      rw [hd] at hF
      by_cases hN0 : 0 < N
      · have h1 : (0 : Int) < (N : Int) := by omega
        have h2 : (N : Int) ≤ 6 := by omega
        have HF := Lib.hid hF; clear hF
        go_wp2
        try rw [Exit.noGoto_ret]
        go_ret
        exact ⟨by rw [← HF.out, fineL, decide_eq_true ⟨hN0, hN⟩]; rfl, rfl⟩
      · obtain rfl : N = 0 := by omega
        have HF := Lib.hid hF; clear hF
        go_wp2
        try rw [Exit.noGoto_ret]
        go_ret
        exact ⟨by rw [← HF.out]; rfl, rfl⟩

theorem str_nil {s : ByteArray} (h : s.data.toList = []) : s = ⟨#[]⟩ := by
  obtain ⟨⟨l⟩⟩ := s
  simp at h; subst h; rfl
theorem str_ne {s : ByteArray} (h : s.data.toList ≠ []) : ¬ s.toList = [] := by rw [ByteArray.toList_eq]; exact h

theorem str_em {s : ByteArray} (h : s.data.toList ≠ []) : s.toList.isEmpty = false := by
  rw [ByteArray.toList_eq]; cases hl : s.data.toList with
  | nil => exact absurd hl h
  | cons a r => rfl
theorem str_inj {a b : ByteArray} (h : a.data.toList = b.data.toList) : a = b := by
  obtain ⟨⟨l⟩⟩ := a
  obtain ⟨⟨m⟩⟩ := b
  simp at h; subst h; rfl
theorem valid_any (s : ByteArray) (w : World) (hs : s.size ≤ maxLen) :
    Calls Try.prog 75 #[.string s] w fun e w' => e = .returned (.bool (path s.data.toList).isSome) ∧ w' = w := by
  go_enter Try.func75, Try.ntmps75
  by_cases h0 : s.data.toList = []
  · obtain rfl := str_nil h0
    go_wp2
    go_ret
    exact ⟨rfl, rfl⟩
  · have n0 := str_ne h0
    have HI := Lib.hid (path_isSome_iff h0)
    have HN := Lib.hid h0
    clear h0
    go_wp2_with fail
    refine (fine_any _ _ hs).mono ?_
    rintro e w' ⟨rfl, rfl⟩
    cases hf : fineL s.data.toList 0 with
    | false =>
      have HF := Lib.hid hf; clear hf
      go_wp2
      go_ret
      refine ⟨?_, rfl⟩
      have : (path s.data.toList).isSome = false := by rw [Bool.eq_false_iff]; intro h; have := (HI.out.1 h).1; rw [HF.out] at this; cases this
      exact ret_bool rfl (by rw [this]; simp [n0])
    | true =>
      have HF := Lib.hid hf; clear hf
      go_wp2_with fail
      refine (Try.strings_Count_one s 47 _).mono ?_
      rintro e w' ⟨rfl, rfl⟩
      have hc : Lib.countByte s.data.toList 47 = s.data.toList.count 47 := rfl
      rw [hc]
      generalize hn : s.data.toList.count 47 = n
      have HC := Lib.hid hn; clear hn hc
      by_cases h4 : n < 4
      · have h4' : (n : Int) < 4 := by omega
        go_wp2
        go_ret
        refine ⟨?_, rfl⟩
        have : (path s.data.toList).isSome = true := HI.out.2 ⟨HF.out, by rw [HC.out]; exact h4⟩
        exact ret_bool rfl (by rw [this]; try simp [n0, h4'])
      · have h4' : ¬ (n : Int) < 4 := by omega
        go_wp2
        go_ret
        refine ⟨?_, rfl⟩
        have : (path s.data.toList).isSome = false := by rw [Bool.eq_false_iff]; intro h; have := (HI.out.1 h).2; rw [HC.out] at this; exact h4 this
        exact ret_bool rfl (by rw [this]; try simp [n0, h4'])
end Go.Proofs.Ytifdceofglocdaa
