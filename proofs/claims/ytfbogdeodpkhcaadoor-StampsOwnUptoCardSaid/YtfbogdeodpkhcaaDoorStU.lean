/- The second forms' bound: lists and texts of bulk at most the given number are short. -/
import Derived.Test.YtfbogdeodpkhcaaDoorStB
import Derived.Test.YtfbogdeodpkhcaaDoorStJ
import Derived.Test.YtfbogdeodpkhcaaDoorRows
import Derived.Deep.DeepHandedRow
namespace Go.Proofs.YtfbogdeodpkhcaaDoor
open Go Go.RowKit Go.PlainAid Go.ChangeShapes Go.WideShapes Go.ChangeAt
open Go.ChangeMaps (open_string shut_string)

theorem bulk_one {H : Type} (d : DataW H) : 1 ≤ Rows.uptoBulk d := by
  cases d with
  | lit l => cases l <;> simp [Rows.uptoBulk]
  | nil => simp [Rows.uptoBulk]
  | ptr d => simp [Rows.uptoBulk]
  | slice elems spare => simp [Rows.uptoBulk]
  | agg parts => simp [Rows.uptoBulk]
  | iface t d => simp [Rows.uptoBulk]
  | map entries => simp [Rows.uptoBulk]
  | held h => simp [Rows.uptoBulk]
theorem bulk_len {H : Type} : ∀ l : List (DataW H), l.length ≤ Rows.uptoBulkAll l
  | [] => by simp [Rows.uptoBulkAll]
  | x :: r => by have := bulk_one x; have := bulk_len r; simp only [Rows.uptoBulkAll, List.length_cons]; omega
theorem bulk_slice {H : Type} (elems spare : List (DataW H)) : elems.length + 1 ≤ Rows.uptoBulk (.slice elems spare) := by
  have := bulk_len elems
  simp only [Rows.uptoBulk]; omega
theorem bulk_string {H : Type} (s : List UInt8) : Rows.uptoBulk (DataW.lit (H := H) (.string s)) = s.length + 1 := by simp [Rows.uptoBulk]
theorem bulk_part {H : Type} {d : DataW H} : ∀ {l : List (DataW H)}, d ∈ l → Rows.uptoBulk d ≤ Rows.uptoBulkAll l
  | [], h => by cases h
  | x :: r, h => by
    simp only [Rows.uptoBulkAll]
    rcases List.mem_cons.1 h with rfl | h
    · omega
    · have := bulk_part h; omega
theorem bulk_of {H : Type} {l : List (DataW H)} (h : Rows.uptoSmall H l = true) {d : DataW H} (hd : d ∈ l) : Rows.uptoBulk d ≤ 1048576 :=
  Nat.le_trans (bulk_part hd) (of_decide_eq_true h)

section
variable {H : Type} {enc : TypeId × Value → H} {P : Program}
/-- a list of ints that came in, its length at most its bulk -/
theorem open_intsU {W : World} {b0 : Nat} {t e : TypeId} {v : Value} {d : DataW H} {ps : List MemPlace} (ht : P.underlying t = some (.slice e)) (he : P.underlying e = some (.int .i64))
    (ce : P.cellsOf e = 1) (be : P.bytesOf e = 8) (hv : Value.okWide P W .any b0 t v) (h : DataW.Trod enc P W 0 (fun _ => true) true t v d ps)
    (hz : ∀ n ∈ d.weights P t, n ≤ reachBytes) (hb : Rows.uptoBulk d ≤ 1048576) :
    ∃ L : List Int, ArgInts W v L ∧ L.length ≤ 1048576 ∧ ∀ n ∈ L, -9223372036854775808 ≤ n ∧ n ≤ 9223372036854775807 := by
  obtain ⟨L, a, _, z⟩ := open_intsA ht he ce be hv h hz
  refine ⟨L, a, ?_, z⟩
  obtain ⟨A, c, rfl, _, _⟩ := a
  obtain ⟨fuel, hf⟩ := h
  rcases open_ints ht he ce hf with ⟨hcs, hx⟩ | ⟨a', len', cap', zs, hcs, _, hl, hm, hn, hx, hc, hs⟩
  · simp [Value.cells] at hcs
    rw [hcs.2.1]; simp
  · simp [Value.cells] at hcs
    injection hx with hd _
    have := bulk_slice (H := H) (lits .i64 (zs.take len')) (lits .i64 (zs.drop len'))
    rw [← hd] at this
    have hl2 : (lits (H := H) .i64 (zs.take len')).length = len' := by
      have hn' : zs.length = cap' := by simpa using hn
      simp [lits, hn', hl]
    rw [hl2] at this
    omega
end
end Go.Proofs.YtfbogdeodpkhcaaDoor
