/- Own rows of ints with their contents: made, written and grown (StampsOwn). No condition beyond what each theorem states. -/
import Derived.Test.YtfbogdeodpkhcaaDoorIg
import Derived.Test.YtfbogdeodpkhcaaDoorSt3
namespace Go.Proofs.YtfbogdeodpkhcaaDoor
open Go Go.RowKit

/-- an own row of ints -/
def RowI (w : World) (v : Value) (L : List Int) : Prop := w.ownsRow 0 3 1 v L.length (ints L)
theorem RowI.kp {w w' : World} {v : Value} {L : List Int} {M : Nat → Prop} (h : RowI w v L) (hk : Kp M w w') (hm : ∀ g, v.ownBlock = some g → ¬ M g) : RowI w' v L := own_kp h hk hm
theorem RowI.no {w w' : World} {v : Value} {L : List Int} (h : RowI w v L) (hk : Kp No w w') : RowI w' v L := h.kp hk fun _ _ m => m
theorem RowI.of {w : World} {B : Nat} {v : Value} {L : List Int} (h : w.ownsRow B 3 1 v L.length (ints L)) : RowI w v L :=
  ⟨h.1, h.2.imp id fun ⟨g, cap, cur, e, _, r⟩ => ⟨g, cap, cur, e, Nat.zero_le _, r⟩⟩
theorem RowI.form {w : World} {v : Value} {L : List Int} (h : RowI w v L) : ∃ A c, v = .slice A L.length c ∧ (0 < L.length → ∃ g, A = some ⟨g, 0, none⟩) := by
  obtain ⟨A, c, e, _⟩ := own_len h
  refine ⟨A, c, e, fun hl => ?_⟩
  obtain ⟨g, cap, e2, _⟩ := own_form h hl
  rw [e] at e2
  injection e2 with e2
  exact ⟨g, e2⟩
theorem RowI.lt {w : World} {v : Value} {L : List Int} (h : RowI w v L) {g : Nat} (hg : v.ownBlock = some g) : g < w.heap.size := (World.ownsRow.lt h g hg).2
theorem RowI.bk {w : World} {v : Value} {L : List Int} (h : RowI w v L) {g : Nat} (hg : v.ownBlock = some g) : ∃ cs, Bk w g 3 cs := by
  rcases h.2 with ⟨rfl, _⟩ | ⟨g', cap, cur, rfl, _, hh, _⟩
  · cases hg
  · injection hg with hg
    subst hg
    exact ⟨cur.toList, by unfold Bk; simpa using hh⟩
theorem RowI.cell {w : World} {g n c : Nat} {L : List Int} (h : RowI w (.slice (some ⟨g, 0, none⟩) n c) L) {j : Nat} {u : Int} (hu : L[j]? = some u) : w.cell? ⟨g, j, none⟩ = some (.int .i64 u) := by
  have hn : n = L.length := by obtain ⟨_, _, e, _⟩ := own_len h; injection e
  subst hn
  have hj : j < L.length := (List.getElem?_eq_some_iff.1 hu).1
  rw [World.ownsRow.cellAt h j (by omega)]
  simp [ints, List.getElem?_map, hu]
theorem RowI.frozen {w : World} {g n c : Nat} {L : List Int} (h : RowI w (.slice (some ⟨g, 0, none⟩) n c) L) (j : Nat) : w.frozen? ⟨g, j, none⟩ = false := by
  have hn : n = L.length := by obtain ⟨_, _, e, _⟩ := own_len h; injection e
  subst hn
  exact World.ownsRow.frozenAt h j
theorem RowI.set {w : World} {g n c : Nat} {L : List Int} (h : RowI w (.slice (some ⟨g, 0, none⟩) n c) L) (j : Nat) (u : Int) : RowI (w.setCell ⟨g, j, none⟩ (.int .i64 u)) (.slice (some ⟨g, 0, none⟩) n c) (L.set j u) := by
  have hn : n = L.length := by obtain ⟨_, _, e, _⟩ := own_len h; injection e
  subst hn
  have := (World.ownsRow.stored h j (.int .i64 u)).1
  rw [ints_set] at this
  unfold RowI
  rw [List.length_set]
  exact this
/-- the first cells of an own row are an own row -/
theorem RowI.prefix_ {w : World} {A : Option Addr} {n c m : Nat} {L : List Int} (h : RowI w (.slice A n c) L) (hm : m ≤ L.length) (hA : A = none → c = 0) : RowI w (.slice A m c) (L.take m) := by
  have hl : (L.take m).length = m := by rw [List.length_take]; omega
  unfold RowI at h ⊢
  rw [hl]
  refine ⟨by simp [hl], ?_⟩
  rcases h.2 with ⟨e, h0⟩ | ⟨g, cap, cur, e, h1, h2, h3, h4, h5, h6⟩
  · injection e with e1 e2 e3
    left
    have : m = 0 := by omega
    subst this e1 e3
    exact ⟨rfl, rfl⟩
  · injection e with e1 e2 e3
    subst e1 e2 e3
    right
    refine ⟨g, c, cur, rfl, h1, h2, by omega, h4, h5, ?_⟩
    rw [Nat.mul_one] at h6 ⊢
    rw [ints_take, ← h6, List.take_take]
    congr 1
    omega

/-- own rows with their contents, each in a block of its own, none under B -/
structure PoolI (w : World) (B : Nat) (E : List Value) (D : List (List Int)) : Prop where
  len : E.length = D.length
  own : ∀ (i : Nat) (x : Value) (L : List Int), E[i]? = some x → D[i]? = some L → RowI w x L
  low : ∀ (i : Nat) (x : Value) (g : Nat), E[i]? = some x → x.ownBlock = some g → B ≤ g
  apart : ∀ (i j : Nat) (x y : Value) (g : Nat), i ≠ j → E[i]? = some x → E[j]? = some y → x.ownBlock = some g → y.ownBlock ≠ some g
theorem PoolI.nil (w : World) (B : Nat) : PoolI w B [] [] := ⟨rfl, fun _ _ _ h => by simp at h, fun _ _ _ h => by simp at h, fun _ _ _ _ _ _ h => by simp at h⟩
theorem PoolI.get {w : World} {B : Nat} {E : List Value} {D : List (List Int)} (h : PoolI w B E D) {i : Nat} (hi : i < D.length) : ∃ x L, E[i]? = some x ∧ D[i]? = some L ∧ RowI w x L := by
  have he : i < E.length := by rw [h.len]; exact hi
  exact ⟨E[i], D[i], List.getElem?_eq_getElem he, List.getElem?_eq_getElem hi, h.own i _ _ (List.getElem?_eq_getElem he) (List.getElem?_eq_getElem hi)⟩
theorem PoolI.kp {w w' : World} {B : Nat} {E : List Value} {D : List (List Int)} {M : Nat → Prop} (h : PoolI w B E D) (hk : Kp M w w') (hM : ∀ (i : Nat) (x : Value) (g : Nat), E[i]? = some x → x.ownBlock = some g → ¬ M g) : PoolI w' B E D :=
  ⟨h.len, fun i x L hx hL => (h.own i x L hx hL).kp hk fun g hg => hM i x g hx hg, h.low, h.apart⟩
theorem PoolI.no {w w' : World} {B : Nat} {E : List Value} {D : List (List Int)} (h : PoolI w B E D) (hk : Kp No w w') : PoolI w' B E D := h.kp hk fun _ _ _ _ _ m => m
/-- a further row, made behind the world w0 -/
theorem PoolI.snoc {w0 w : World} {B : Nat} {E : List Value} {D : List (List Int)} (h : PoolI w0 B E D) (hk : Kp No w0 w) {x : Value} {L : List Int} (hx : w.ownsRow w0.heap.size 3 1 x L.length (ints L)) (hB : B ≤ w0.heap.size) : PoolI w B (E ++ [x]) (D ++ [L]) := by
  have hlt : ∀ (j : Nat) (y : Value) (g : Nat), E[j]? = some y → y.ownBlock = some g → g < w0.heap.size := fun j y g hy hg => by
    have hj : j < D.length := by rw [← h.len]; exact (List.getElem?_eq_some_iff.1 hy).1
    exact (h.own j y _ hy (List.getElem?_eq_getElem hj)).lt hg
  have hxl : ∀ g, x.ownBlock = some g → w0.heap.size ≤ g := fun g hg => (World.ownsRow.lt hx g hg).1
  have split : ∀ (j : Nat) (y : Value), (E ++ [x])[j]? = some y → (j < E.length ∧ E[j]? = some y) ∨ (j = E.length ∧ y = x) := fun j y hy => by
    rcases Nat.lt_trichotomy j E.length with h1 | h1 | h1
    · rw [List.getElem?_append_left h1] at hy; exact .inl ⟨h1, hy⟩
    · subst h1; simp at hy; exact .inr ⟨rfl, hy.symm⟩
    · rw [List.getElem?_eq_none (by simp; omega)] at hy; cases hy
  refine ⟨by simp [h.len], fun i y M hy hM => ?_, fun i y g hy hg => ?_, fun i j y z g hij hy hz hyg hzg => ?_⟩
  · rcases split i y hy with ⟨h1, h2⟩ | ⟨h1, rfl⟩
    · rw [List.getElem?_append_left (by rw [← h.len]; exact h1)] at hM
      exact (h.own i y M h2 hM).no hk
    · subst h1
      rw [h.len] at hM
      simp at hM
      subst hM
      exact RowI.of hx
  · rcases split i y hy with ⟨h1, h2⟩ | ⟨h1, rfl⟩
    · exact h.low i y g h2 hg
    · have := hxl g hg; omega
  · rcases split i y hy with ⟨h1, h2⟩ | ⟨h1, rfl⟩ <;> rcases split j z hz with ⟨h3, h4⟩ | ⟨h3, rfl⟩
    · exact h.apart i j y z g hij h2 h4 hyg hzg
    · have := hlt i y g h2 hyg; have := hxl g hzg; omega
    · have := hlt j z g h4 hzg; have := hxl g hyg; omega
    · omega
/-- one cell of a row is written -/
theorem PoolI.store {w : World} {B : Nat} {E : List Value} {D : List (List Int)} (h : PoolI w B E D) {i g n c j : Nat} {L : List Int} (hi : E[i]? = some (.slice (some ⟨g, 0, none⟩) n c)) (hL : D[i]? = some L) (u : Int) :
    PoolI (w.setCell ⟨g, j, none⟩ (.int .i64 u)) B E (D.set i (L.set j u)) := by
  have hd : i < D.length := (List.getElem?_eq_some_iff.1 hL).1
  refine ⟨by simp [h.len], fun k x M hx hM => ?_, h.low, h.apart⟩
  by_cases hik : i = k
  · subst hik
    rw [List.getElem?_set_self hd] at hM
    injection hM with hM
    subst hM
    rw [hi] at hx
    injection hx with hx
    subst hx
    exact (h.own i _ L hi hL).set j u
  · rw [List.getElem?_set_ne hik] at hM
    refine (h.own k x M hx hM).kp (M := One g) ((Kp.refl _ _).set (.inl (One.self _)) _ _) fun g' hg' h1 => ?_
    have e : g' = g := h1
    subst e
    exact h.apart i k _ x g' hik hi hx rfl hg'
/-- a row that is grown beside the pool: its block is row k's, or none of the pool's -/
structure GrowI (w : World) (B : Nat) (E : List Value) (D : List (List Int)) (k : Nat) (cur : Value) (M : List Int) : Prop where
  pool : PoolI w B E D
  row : RowI w cur M
  low : ∀ g, cur.ownBlock = some g → B ≤ g
  apart : ∀ (j : Nat) (y : Value) (g : Nat), j ≠ k → E[j]? = some y → cur.ownBlock = some g → y.ownBlock ≠ some g
  same : ∀ (x : Value) (L : List Int), E[k]? = some x → D[k]? = some L → (∃ A c, x = .slice A L.length c ∧ cur = .slice A M.length c ∧ L = M.take L.length ∧ L.length ≤ M.length) ∨ ∀ g, cur.ownBlock = some g → x.ownBlock ≠ some g
theorem PoolI.grow {w : World} {B : Nat} {E : List Value} {D : List (List Int)} (h : PoolI w B E D) {k : Nat} {x : Value} {L : List Int} (hx : E[k]? = some x) (hL : D[k]? = some L) : GrowI w B E D k x L := by
  refine ⟨h, h.own k x L hx hL, fun g hg => h.low k x g hx hg, fun j y g hj hy hg => h.apart k j x y g (fun e => hj e.symm) hx hy hg, fun y M hy hM => ?_⟩
  rw [hx] at hy
  rw [hL] at hM
  injection hy with hy
  injection hM with hM
  subst hy hM
  obtain ⟨A, c, e, _⟩ := RowI.form (h.own k x L hx hL)
  exact .inl ⟨A, c, e, e, by simp, Nat.le_refl _⟩
theorem GrowI.room {w w' : World} {B : Nat} {E : List Value} {D : List (List Int)} {k : Nat} {A : Option Addr} {n c m : Nat} {M N : List Int} (h : GrowI w B E D k (.slice A n c) M) (hk : Kp (fun j => (Value.slice A n c).ownBlock = some j) w w') (ho : RowI w' (.slice A m c) N) (hN : ∃ T, N = M ++ T) (hA : A = none → c = 0) : GrowI w' B E D k (.slice A m c) N := by
  have hb : ∀ g, (Value.slice A m c).ownBlock = some g → (Value.slice A n c).ownBlock = some g := fun g hg => by cases A <;> exact hg
  obtain ⟨T, rfl⟩ := hN
  have hmN : m = (M ++ T).length := by obtain ⟨_, _, e, _⟩ := own_len ho; injection e
  have hnM : n = M.length := by obtain ⟨_, _, e, _⟩ := own_len h.row; injection e
  refine ⟨⟨h.pool.len, fun i x L hx hL => ?_, h.pool.low, h.pool.apart⟩, ho, fun g hg => h.low g (hb g hg), fun j y g hj hy hg => h.apart j y g hj hy (hb g hg), fun x L hx hL => ?_⟩
  · by_cases hik : i = k
    · subst hik
      rcases h.same x L hx hL with ⟨A', c', e1, e2, e3, e4⟩ | h1
      · injection e2 with e5 e6 e7
        subst e1 e5 e7
        have := ho.prefix_ (m := L.length) (by rw [List.length_append]; omega) hA
        rw [List.take_append_of_le_length e4, ← e3] at this
        exact this
      · exact (h.pool.own i x L hx hL).kp hk fun g hg hc => h1 g hc hg
    · exact (h.pool.own i x L hx hL).kp hk fun g hg hc => h.apart i x g hik hx hc hg
  · rcases h.same x L hx hL with ⟨A', c', e1, e2, e3, e4⟩ | h1
    · injection e2 with e5 e6 e7
      subst e5 e7
      exact .inl ⟨A, c, e1, by rw [hmN], by rw [List.take_append_of_le_length e4, ← e3], by rw [List.length_append]; omega⟩
    · exact .inr fun g hg => h1 g (hb g hg)
theorem GrowI.moved {w w' : World} {B : Nat} {E : List Value} {D : List (List Int)} {k : Nat} {cur v : Value} {M N : List Int} (h : GrowI w B E D k cur M) (hk : Kp No w w') (ho : RowI w' v N) (hv : v.ownBlock = some w.heap.size) (hB : B ≤ w.heap.size) : GrowI w' B E D k v N := by
  have hlt : ∀ (j : Nat) (y : Value) (g : Nat), E[j]? = some y → y.ownBlock = some g → g < w.heap.size := fun j y g hy hg => by
    have hj : j < D.length := by rw [← h.pool.len]; exact (List.getElem?_eq_some_iff.1 hy).1
    exact (h.pool.own j y _ hy (List.getElem?_eq_getElem hj)).lt hg
  have key : ∀ (j : Nat) (y : Value) (g : Nat), E[j]? = some y → v.ownBlock = some g → y.ownBlock ≠ some g := fun j y g hy hg hyg => by
    rw [hv] at hg
    injection hg with hg
    have := hlt j y g hy hyg
    omega
  exact ⟨h.pool.no hk, ho, fun g hg => by rw [hv] at hg; injection hg with hg; omega, fun j y g _ hy hg => key j y g hy hg, fun x L hx _ => .inr fun g hg => key k x g hx hg⟩

/-! ### plain: which row's number stands in which cells -/
def Told (D : List (List Int)) (k i : Nat) : Prop := ∀ (a : Nat) (L : List Int) (b : Nat) (u : Int), D[a]? = some L → L[b]? = some u → (a < k ∨ (a = k ∧ b < i)) → u = -(a : Int) - 1
theorem Told.zero (D : List (List Int)) : Told D 0 0 := fun _ _ _ _ _ _ h => by omega
theorem Told.step {D : List (List Int)} {k i : Nat} {L : List Int} (h : Told D k i) (hL : D[k]? = some L) (hi : i < L.length) : Told (D.set k (L.set i (-(k : Int) - 1))) k (i + 1) := by
  have hk : k < D.length := (List.getElem?_eq_some_iff.1 hL).1
  intro a M b u ha hb hc
  by_cases hka : k = a
  · subst hka
    rw [List.getElem?_set_self hk] at ha
    injection ha with ha
    subst ha
    by_cases hib : i = b
    · subst hib
      rw [List.getElem?_set_self hi] at hb
      injection hb with hb
      exact hb.symm
    · rw [List.getElem?_set_ne hib] at hb
      exact h k L b u hL hb (by omega)
  · rw [List.getElem?_set_ne hka] at ha
    exact h a M b u ha hb (by omega)
theorem Told.row {D : List (List Int)} {k i : Nat} {L : List Int} (h : Told D k i) (hL : D[k]? = some L) (hi : L.length ≤ i) : Told D (k + 1) 0 := by
  intro a M b u ha hb hc
  by_cases hka : a = k
  · subst hka
    rw [hL] at ha
    injection ha with ha
    subst ha
    have hbl := (List.getElem?_eq_some_iff.1 hb).1
    exact h a L b u hL hb (by omega)
  · exact h a M b u ha hb (by omega)
/-- three lists, m times over -/
def tri (X Y S : List Int) : Nat → List (List Int)
  | 0 => []
  | m + 1 => tri X Y S m ++ [X] ++ [Y] ++ [S]
theorem tri_len (X Y S : List Int) : ∀ m, (tri X Y S m).length = 3 * m
  | 0 => rfl
  | m + 1 => by simp only [tri, List.length_append, tri_len X Y S m, List.length_cons, List.length_nil]; omega
theorem tri_at (X Y S : List Int) : ∀ (m i : Nat), i < 3 * m → (tri X Y S m)[i]? = [X, Y, S][i % 3]?
  | 0, i, h => by omega
  | m + 1, i, h => by
    have hl := tri_len X Y S m
    simp only [tri, List.append_assoc, List.singleton_append]
    rcases Nat.lt_or_ge i (3 * m) with h1 | h1
    · rw [List.getElem?_append_left (by omega)]; exact tri_at X Y S m i h1
    · rw [List.getElem?_append_right (by omega), hl]
      have e : i - 3 * m = i % 3 := by omega
      rw [e]; rfl
end Go.Proofs.YtfbogdeodpkhcaaDoor
