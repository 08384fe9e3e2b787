/- Bytes as a text. No condition beyond what each theorem states. -/
import Derived.Test.YtbnpdghfbiacaaaWz
import Derived.Laws.BytesArg
namespace Go.Proofs.Ytbnpdghfbiacaaa
open Go Go.RowKit

theorem conv_argB {w : World} {g o c : Nat} {l : List UInt8} (h : ArgB w (.slice (some ⟨g, o, none⟩) l.length c) l) :
    (convert 30 9 (.slice (some ⟨g, o, none⟩) l.length c)).run Try.prog w = .ok (.string ⟨l.toArray⟩) w := by
  have hu : Try.prog.underlying 5 = some (.int .u8) := by kernel_rfl
  have hd : Try.prog.underlying 9 = some .string := by kernel_rfl
  have := run_convert_bytes_arg w 30 5 Try.underlying30 hu g o l.length c (l.map fun x => (x.toNat : Int)) (by simp) (fun i hi => by
    obtain ⟨g', o', c', e, _, hx⟩ := h.at_ (by omega)
    have e1 : g = g' ∧ o = o' := by simp only [Value.slice.injEq, Option.some.injEq, Addr.mk.injEq] at e; exact ⟨e.1.1, e.1.2.1⟩
    obtain ⟨rfl, rfl⟩ := e1
    rw [hx i _ (List.getElem?_eq_getElem hi)]
    simp [List.getD, List.getElem?_eq_getElem hi]) 9 hd
  rw [this]
  have e : strOfNums (l.map fun x => (x.toNat : Int)) = ⟨l.toArray⟩ := by simp [strOfNums, Function.comp_def]
  rw [e]
end Go.Proofs.Ytbnpdghfbiacaaa
