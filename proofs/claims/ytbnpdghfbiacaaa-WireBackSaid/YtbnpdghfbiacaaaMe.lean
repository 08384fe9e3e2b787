/- Two messages' rests compared (wire). No condition beyond what each theorem states. -/
import Derived.Test.YtbnpdghfbiacaaaMs
import Derived.Laws.StructEq
namespace Go.Proofs.Ytbnpdghfbiacaaa
open Go Go.RowKit Go.PlainAid

/-- all but the stamp -/
def rcells (m : Msg) : List Value := [.int .i64 m.kind, .int .i64 m.from_, .int .i64 m.dest, .int .i64 m.boot, .int .i64 m.seq, .int .i64 m.low, .int .i64 m.term, .int .i64 m.id, .int .i64 m.origin, .int .i64 m.number, .int .i64 m.verb, .string ⟨m.path.toArray⟩, .int .i64 m.mode, .bool m.fresh, .int .i64 m.code]
set_option maxRecDepth 100000 in
set_option maxHeartbeats 4000000 in
theorem rest_eq (a b : Msg) (w : World) : (binOp .eql 59 (.agg (rcells a).toArray) (.agg (rcells b).toArray)).run Try.prog w = .ok (.bool (decide (a = { b with stamp := a.stamp }))) w := by
  have hS : Try.prog.underlying 59 = some (.struct (Try.prog.fieldsOf 59)) := by kernel_rfl
  have hp : Try.prog.stoodInHeld 59 = false := by kernel_rfl
  simp only [rcells]
  rw [run_eql_struct, show (10000 : Nat) = 9999 + 1 from rfl, run_equalIn_agg w 9999 59 _ _ hS hp]
  simp only [Program.fieldsOf, Try.underlying59]
  go_simp
  obtain ⟨k1, k2, k3, k4, k5, k6, k7, k8, k9, k10, k11, k12, k13, k14, k15, k16⟩ := a
  obtain ⟨j1, j2, j3, j4, j5, j6, j7, j8, j9, j10, j11, j12, j13, j14, j15, j16⟩ := b
  simp only [Msg.mk.injEq]
  rcases Decidable.em (¬ k1 = j1) with e | e
  · rw [if_neg e]; simp [e]
  obtain rfl := Decidable.not_not.1 e; clear e; rw [if_pos rfl]
  rcases Decidable.em (¬ k2 = j2) with e | e
  · rw [if_neg e]; simp [e]
  obtain rfl := Decidable.not_not.1 e; clear e; rw [if_pos rfl]
  rcases Decidable.em (¬ k3 = j3) with e | e
  · rw [if_neg e]; simp [e]
  obtain rfl := Decidable.not_not.1 e; clear e; rw [if_pos rfl]
  rcases Decidable.em (¬ k4 = j4) with e | e
  · rw [if_neg e]; simp [e]
  obtain rfl := Decidable.not_not.1 e; clear e; rw [if_pos rfl]
  rcases Decidable.em (¬ k5 = j5) with e | e
  · rw [if_neg e]; simp [e]
  obtain rfl := Decidable.not_not.1 e; clear e; rw [if_pos rfl]
  rcases Decidable.em (¬ k6 = j6) with e | e
  · rw [if_neg e]; simp [e]
  obtain rfl := Decidable.not_not.1 e; clear e; rw [if_pos rfl]
  rcases Decidable.em (¬ k10 = j10) with e | e
  · rw [if_neg e]; simp [e]
  obtain rfl := Decidable.not_not.1 e; clear e; rw [if_pos rfl]
  rcases Decidable.em (¬ k11 = j11) with e | e
  · rw [if_neg e]; simp [e]
  obtain rfl := Decidable.not_not.1 e; clear e; rw [if_pos rfl]
  rcases Decidable.em (¬ k15 = j15) with e | e
  · rw [if_neg e]; simp [e]
  obtain rfl := Decidable.not_not.1 e; clear e; rw [if_pos rfl]
  rcases Decidable.em (¬ k16 = j16) with e | e
  · rw [if_neg e]; simp [e]
  obtain rfl := Decidable.not_not.1 e; clear e; rw [if_pos rfl]
  rcases Decidable.em (¬ k7 = j7) with e | e
  · rw [if_neg e]; simp [e]
  obtain rfl := Decidable.not_not.1 e; clear e; rw [if_pos rfl]
  rcases Decidable.em (¬ k8 = j8) with e | e
  · rw [if_neg e]; simp [e]
  obtain rfl := Decidable.not_not.1 e; clear e; rw [if_pos rfl]
  rcases Decidable.em (¬ k9 = j9) with e | e
  · rw [if_neg e]; simp [e]
  obtain rfl := Decidable.not_not.1 e; clear e; rw [if_pos rfl]
  rcases Decidable.em (¬ k12 = j12) with e | e
  · rw [if_neg e]; simp [e]
  obtain rfl := Decidable.not_not.1 e; clear e; rw [if_pos rfl]
  rcases Decidable.em (¬ k13 = j13) with e | e
  · rw [if_neg e]; simp [e]
  obtain rfl := Decidable.not_not.1 e; clear e; rw [if_pos rfl]
  simp
theorem rest_eq' (a b : Msg) (h : a.stamp = b.stamp) (w : World) : (binOp .eql 59 (.agg (rcells a).toArray) (.agg (rcells b).toArray)).run Try.prog w = .ok (.bool (decide (a = b))) w := by
  rw [rest_eq]
  congr 2
  have e : ({ b with stamp := a.stamp } : Msg) = b := by rw [h]
  rw [e]
end Go.Proofs.Ytbnpdghfbiacaaa
