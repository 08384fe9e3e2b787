/- The program's stamps: Parse and Text, by contracts, where the library's variables hold what its text lays. -/
import Derived.Test.YtfbogdeodpkhcaaDoorStR
import Derived.Test.YtfbogdeodpkhcaaDoorShelf
import Derived.Lib.ItoaLen
import Derived.Lib.AtoiAll
import Derived.Lib.AtoiErrMem
import Derived.Lib.SplitLaws
import Derived.Lib.Join
import Derived.Lib.Strings
import Derived.Lib.IndexBytes
import Derived.Lib.Split
namespace Go.Proofs.YtfbogdeodpkhcaaDoor
open Go Go.RowKit Go.PlainAid

abbrev Bytes := List UInt8
/-- what the library's variables hold -/
structure Lw (w : World) : Prop where
  mx : ∃ m, w.cell? ⟨2, 0, none⟩ = some (.int .i64 m)
  sx : ∃ tp p, w.var? Tryd.prog "strconv.ErrSyntax" = some #[.iface tp p]
  rx : ∃ tp p, w.var? Tryd.prog "strconv.ErrRange" = some #[.iface tp p]
  tb : Lib.TabIs Tryd.prog w "internal/strconv.uint64pow10" .u64 Lib.pow10Tab
theorem var_no {w w' : World} {n : String} {cs : Array Value} (h : w.var? Tryd.prog n = some cs) (hk : Kp No w w') : w'.var? Tryd.prog n = some cs := by
  unfold World.var? at h ⊢
  cases hg : Tryd.prog.globalNamed n with
  | none => rw [hg] at h; cases h
  | some g =>
    rw [hg] at h
    simp only [Option.bind_some] at h ⊢
    cases hb : w.heap[g]? with
    | none => rw [hb] at h; cases h
    | some o => rw [hk.block g (Array.getElem?_eq_some_iff.1 hb).1 (fun m => m)]; exact h
theorem Lw.no {w w' : World} (h : Lw w) (hk : Kp No w w') : Lw w' := by
  obtain ⟨⟨m, h1⟩, ⟨tp, p, h2⟩, ⟨tq, q, h3⟩, h4⟩ := h
  exact ⟨⟨m, by rw [World.cell?_of_block (w := w) (hk.block _ (World.block_lt_of_cell? w _ h1) (fun m => m))]; exact h1⟩, ⟨tp, p, var_no h2 hk⟩, ⟨tq, q, var_no h3 hk⟩, var_no h4 hk⟩
theorem kp_grow (w : World) (k : Nat) (os : Array Obj) : Kp No w (Sort.grow (w.drewN k) os) :=
  ⟨rfl, rfl, rfl, by show w.heap.size ≤ (w.heap ++ os).size; simp, fun i hi _ => by
    show (w.heap ++ os)[i]? = w.heap[i]?
    rw [Array.getElem?_append_left hi]⟩
theorem kp_bytes (w : World) (e : TypeId) (s : ByteArray) : Kp No w (Lib.bytesWorld w e s) := Kp.of_below (Lib.bytesWorld_below w e s)

theorem atoi_any (s : ByteArray) (w : World) (hs : s.size ≤ 281474976710656) (hL : Lw w) :
    Calls Tryd.prog 37 #[.string s] w fun e w' => ∃ n er, e = .returned (.tuple #[.int .i64 n, er]) ∧ Kp No w w' ∧ ((Lib.atoiAll s.data.toList = .ok n ∧ er = .nilIface) ∨ ((∀ v, Lib.atoiAll s.data.toList ≠ .ok v) ∧ ∃ N, er = .iface 69 (.pointer (some ⟨N, 0, none⟩)))) := by
  cases h : Lib.atoiAll s.data.toList with
  | ok v =>
    refine (Tryd.strconv_Atoi_ok s (by omega) v h w).mono ?_
    rintro e w' ⟨rfl, hw⟩
    refine ⟨v, _, rfl, ?_, .inl ⟨rfl, rfl⟩⟩
    rcases hw with rfl | ⟨t, rfl⟩
    · exact Kp.refl _ _
    · exact kp_bytes _ _ _
  | «syntax» =>
    obtain ⟨tp, p, hv⟩ := hL.sx
    refine (Tryd.strconv_Atoi_syntax_var s hs h tp p w hv).mono ?_
    rintro e w' ⟨N, rfl, _, _, hb⟩
    exact ⟨0, _, rfl, Kp.of_below hb, .inr ⟨(fun v hv => by cases hv), N, rfl⟩⟩
  | range =>
    obtain ⟨tp, p, hv⟩ := hL.rx
    refine (Tryd.strconv_Atoi_range_var s hs h tp p w hv).mono ?_
    rintro e w' ⟨N, rfl, _, _, hb⟩
    exact ⟨_, _, rfl, Kp.of_below hb, .inr ⟨(fun v hv => by cases hv), N, rfl⟩⟩
theorem itoa_any (n : Int) (h0 : -9223372036854775808 ≤ n) (h1 : n ≤ 9223372036854775807) (w : World) (hL : Lw w) :
    Calls Tryd.prog 38 #[.int .i64 n] w fun e w' => e = .returned (.string ⟨(Lib.itoa n).toArray⟩) ∧ Kp No w w' := by
  refine (Tryd.strconv_Itoa n h0 h1 w hL.tb).mono ?_
  rintro e w' ⟨rfl, k, os, rfl⟩
  exact ⟨rfl, kp_grow _ _ _⟩

/-! plain: what Text and Parse answer -/
def textS (L : List Int) : Bytes := if L = [] then [45] else Lib.join (L.map Lib.itoa) [46]
def pieces (l : Bytes) : List Bytes := Lib.splitK [46] 0 (l.count 46) l
def pieceN (x : Bytes) : Option Int := match Lib.atoiAll x with | .ok n => if okN n = true ∧ Lib.itoa n = x then some n else none | _ => none
/-- the numbers of pieces, as long as they are some -/
def nums : List Bytes → Option (List Int)
  | [] => some []
  | x :: r => match pieceN x, nums r with | some n, some L => some (n :: L) | _, _ => none
def parseS (l : Bytes) : List Int × Int := if l = [45] then ([], 0) else match nums (pieces l) with | some L => if L.length ≤ 4 then (L, 0) else ([], 13) | none => ([], 13)

theorem splitK_ne (c : UInt8) (r : Bytes) (hc : c ≠ 46) (k : Nat) : Lib.splitK [46] 0 k (c :: r) = match Lib.splitK [46] 0 k r with | [] => [] | x :: t => (c :: x) :: t := by
  cases k with
  | zero => rfl
  | succ k =>
    have hge := Lib.indexByte_ge r 46
    have hi : Lib.index (c :: r) [46] = if Lib.index r [46] = -1 then -1 else Lib.index r [46] + 1 := by
      rw [Lib.index_one, Lib.index_one, Lib.indexByte]
      have : (c == 46) = false := by simpa using hc
      rw [this]; simp
    unfold Lib.splitK
    rw [hi]
    rw [Lib.index_one] at *
    by_cases h : Lib.indexByte r 46 = -1
    · rw [if_pos h]; simp [h]
    · rw [if_neg h]
      have h1 : (Lib.indexByte r 46 + 1 == -1) = false := by simp; omega
      have h2 : (Lib.indexByte r 46 == -1) = false := by simpa using h
      have h3 : (Lib.indexByte r 46 + 1).toNat = (Lib.indexByte r 46).toNat + 1 := by omega
      simp [h1, h2, h3]
theorem pieces_cons (c : UInt8) (r : Bytes) : pieces (c :: r) = if c = 46 then [] :: pieces r else match pieces r with | [] => [] | x :: t => (c :: x) :: t := by
  unfold pieces
  by_cases hc : c = 46
  · subst hc
    rw [if_pos rfl, List.count_cons_self]
    have hi : Lib.index (46 :: r) [46] = 0 := by rw [Lib.index_one, Lib.indexByte]; simp
    conv => lhs; unfold Lib.splitK
    rw [hi]; simp
  · rw [if_neg hc, List.count_cons_of_ne hc, splitK_ne c r hc]
    cases Lib.splitK [46] 0 (List.count 46 r) r <;> rfl
theorem splitK_length (l : Bytes) : (Lib.splitK [46] 0 (l.count 46) l).length = l.count 46 + 1 := by
  show (pieces l).length = _
  induction l with
  | nil => rfl
  | cons c r ih =>
    rw [pieces_cons]
    by_cases hc : c = 46
    · subst hc; rw [if_pos rfl]; simp [ih]
    · rw [if_neg hc, List.count_cons_of_ne hc]
      cases hs : pieces r with
      | nil => rw [hs] at ih; simp at ih
      | cons y u => rw [← ih, hs]; simp
theorem splitK_size (l : Bytes) : ∀ x, x ∈ pieces l → x.length ≤ l.length := by
  induction l with
  | nil => intro x hx; simp [pieces, Lib.splitK] at hx; subst hx; simp
  | cons c r ih =>
    intro x hx
    rw [pieces_cons] at hx
    by_cases hc : c = 46
    · rw [if_pos hc] at hx
      rcases List.mem_cons.1 hx with rfl | hx
      · simp
      · have := ih x hx; simp; omega
    · rw [if_neg hc] at hx
      cases hs : pieces r with
      | nil => rw [hs] at hx; simp at hx
      | cons y u =>
        rw [hs] at hx ih
        rcases List.mem_cons.1 hx with rfl | hx
        · have := ih y (by simp); simp; omega
        · have := ih x (by simp [hx]); simp; omega
theorem nums_len : ∀ {P : List Bytes} {L : List Int}, nums P = some L → L.length = P.length
  | [], L, h => by obtain rfl := Option.some.inj h; rfl
  | x :: r, L, h => by
    unfold nums at h
    split at h
    · rename_i n M h1 h2
      obtain rfl := Option.some.inj h
      simp [nums_len h2]
    · cases h
theorem nums_snoc : ∀ {P : List Bytes} {L : List Int} {x : Bytes} {n : Int}, nums P = some L → pieceN x = some n → nums (P ++ [x]) = some (L ++ [n])
  | [], L, x, n, h, hx => by obtain rfl := Option.some.inj h; simp [nums, hx]
  | y :: r, L, x, n, h, hx => by
    unfold nums at h
    split at h
    · rename_i m M h1 h2
      obtain rfl := Option.some.inj h
      rw [List.cons_append, nums, h1, nums_snoc h2 hx]; rfl
    · cases h
theorem nums_bad : ∀ {P : List Bytes} {x : Bytes}, x ∈ P → pieceN x = none → nums P = none
  | y :: r, x, h, hx => by
    unfold nums
    rcases List.mem_cons.1 h with rfl | h
    · rw [hx]
    · rw [nums_bad h hx]; split <;> simp_all
theorem parse_bad {l : Bytes} {x : Bytes} (h1 : l ≠ [45]) (h : x ∈ pieces l) (hx : pieceN x = none) : parseS l = ([], 13) := by
  unfold parseS; rw [if_neg h1, nums_bad h hx]
theorem parse_long {l : Bytes} (h1 : l ≠ [45]) (h : 4 < (pieces l).length) : parseS l = ([], 13) := by
  unfold parseS; rw [if_neg h1]
  split
  · rename_i L hL; rw [if_neg (by rw [nums_len hL]; omega)]
  · rfl
theorem parse_good {l : Bytes} {L : List Int} (h1 : l ≠ [45]) (h : nums (pieces l) = some L) (h4 : L.length ≤ 4) : parseS l = (L, 0) := by
  unfold parseS; rw [if_neg h1, h]; simp [h4]
end Go.Proofs.YtfbogdeodpkhcaaDoor
