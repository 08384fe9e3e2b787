/- sectors.Scan by contract: its records' end is a panic that its deferred closure recovers. No condition beyond what each theorem states. -/
import Derived.Test.YthncnkkpfcbkfaaDoorSq
import Derived.Tactics2
import Derived.Defers
import Derived.Recover
import Derived.Laws.Pointers
namespace Go.Proofs.YthncnkkpfcbkfaaDoor
open Go Go.RowKit

theorem Tryd.isBroken (w : World) : Sem.run Tryd.prog (Instr.typeAssert (.iface 65 (.agg #[])) 20 65 true) w = .ok (.tuple #[.agg #[], .bool true]) w := by rfl
set_option maxRecDepth 100000 in
set_option maxHeartbeats 1000000 in
/-- the closure, entered by a panic of the scanner's own -/
theorem catch_brk (sp rp sc : Nat) (x : Value) (used : Int) (older : List PanicEntry) (w : World) (h1 : w.cell? ⟨sp, 0, none⟩ = some (.pointer (some ⟨sc, 0, none⟩))) (h2 : w.cell? ⟨sc, 2, none⟩ = some (.int .i64 used)) (h3 : w.cell? ⟨rp, 0, none⟩ = some x) (h4 : w.frozen? ⟨rp, 0, none⟩ = false) :
    CallsD Tryd.prog 30 #[.pointer (some ⟨sp, 0, none⟩), .pointer (some ⟨rp, 0, none⟩)] (.panicking ({ v := brkV, recovered := false } :: older)) w fun e u' w' =>
      e = .returned (.tuple #[]) ∧ u' = .panicking ({ v := brkV, recovered := true } :: older) ∧ w' = (w.alloc (.cells #[] 65)).setCell ⟨rp, 0, none⟩ (.int .i64 used) := by
  have b1 : sp < w.heap.size := World.block_lt_of_cell? w _ h1
  have b2 : sc < w.heap.size := World.block_lt_of_cell? w _ h2
  have b3 : rp < w.heap.size := World.block_lt_of_cell? w _ h3
  refine callsD_of_wpS Tryd.func30 rfl fun c₀ cs hu => ?_
  apply wpS_seq
  apply wpS_region
  simp [wpOpsS, go_sem, recoverD, hu, Tryd.ntmps30, Exit.thenS, brkV, Tryd.isBroken]
  have z1 : (w.alloc (.cells #[] 65)).cell? ⟨sp, 0, none⟩ = some (.pointer (some ⟨sc, 0, none⟩)) := cell_no h1 ((Kp.refl _ _).alloc _)
  have z2 : (w.alloc (.cells #[] 65)).cell? ⟨sc, 2, none⟩ = some (.int .i64 used) := cell_no h2 ((Kp.refl _ _).alloc _)
  have z3 : (w.alloc (.cells #[] 65)).cell? ⟨rp, 0, none⟩ = some x := cell_no h3 ((Kp.refl _ _).alloc _)
  have z4 : (w.alloc (.cells #[] 65)).frozen? ⟨rp, 0, none⟩ = false := by rw [World.frozen?_alloc_old _ _ _ (by intro e; have : rp = w.heap.size := e; omega)]; exact h4
  generalize w.alloc (.cells #[] 65) = W at *
  refine wpS_of_wp ?_
  change Code.wp _ _ _ ⟨#[.pointer (some ⟨sp, 0, none⟩), .pointer (some ⟨rp, 0, none⟩), .pointer (some ⟨w.heap.size, 0, none⟩), .bool true, .tuple #[.agg #[], .bool true], .iface 65 (.agg #[]), .tuple #[.agg #[], .bool true], .agg #[], .bool true, undef, undef, undef, undef, undef], []⟩ _
  go_wp2
  simp [bodyPostS, results, Tryd.results30]

end Go.Proofs.YthncnkkpfcbkfaaDoor
