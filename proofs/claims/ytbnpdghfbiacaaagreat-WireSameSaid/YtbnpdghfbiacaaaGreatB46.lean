/- What Encode answers, by one word. No condition beyond what each theorem states. -/
import Derived.Test.YtbnpdghfbiacaaaGreatB12
import Derived.Test.YtbnpdghfbiacaaaGreatB13
namespace Go.Proofs.YtbnpdghfbiacaaaGreat
open Go Go.RowKit Go.PlainAid

def encB (m : Msg) : List UInt8 := (encS vpP m).getD []
def encE (m : Msg) : Int := if (encS vpP m).isSome then 0 else 22
set_option maxRecDepth 100000 in
theorem conv_nil (w : World) : (convert 30 9 (.slice none 0 0)).run Tryz.prog w = .ok (.string ⟨#[]⟩) w := by rfl
theorem enc_uni {W w' : World} {m : Msg} {e : Ending} (h : EncodeR W m e w') : ∃ A4 c4, e = .returned (.tuple #[.slice A4 (encB m).length c4, .int .i64 (encE m)]) ∧ OwnB w' W.heap.size (.slice A4 (encB m).length c4) (encB m) ∧ (∀ W9, Kp No w' W9 → (convert 30 9 (.slice A4 (encB m).length c4)).run Tryz.prog W9 = .ok (.string ⟨(encB m).toArray⟩) W9) ∧ Kp No W w' := by
  obtain ⟨⟨he, rfl⟩ | ⟨v, b, he, rfl, hob⟩, k⟩ := h
  · have e1 : encB m = [] := by unfold encB; rw [he]; rfl
    have e2 : encE m = 22 := by unfold encE; rw [he]; rfl
    rw [e1, e2]
    exact ⟨none, 0, rfl, OwnB.nil _ _, fun W9 _ => conv_nil W9, k⟩
  · have e1 : encB m = b := by unfold encB; rw [he]; rfl
    have e2 : encE m = 0 := by unfold encE; rw [he]; rfl
    have hb : b ≠ [] := fun h => by have := enc_len vpP_len he; rw [h] at this; simp at this
    rw [e1, e2]
    obtain ⟨A4, c4, rfl, _⟩ := own_len hob
    exact ⟨A4, c4, rfl, hob, fun W9 k9 => conv_any ((own_argB hob).no k9) hb, k⟩
theorem encB_len (m : Msg) : (encB m).length ≤ 200 := by
  unfold encB
  cases h : encS vpP m with
  | none => simp
  | some b => exact (enc_len vpP_len h).2
theorem decM_stamp (l : List UInt8) : (decM l).stamp.length ≤ 5 := by
  unfold decM
  cases h : decS vpP l with
  | none => simp
  | some m => rw [Option.getD_some, ← (enc_dec h).2.2]; exact take_stamp l
end Go.Proofs.YtbnpdghfbiacaaaGreat
