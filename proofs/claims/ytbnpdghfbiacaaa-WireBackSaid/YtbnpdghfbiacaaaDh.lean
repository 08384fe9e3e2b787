/- wire.Decode by contract: any bytes. No condition beyond what each theorem states. -/
import Derived.Test.YtbnpdghfbiacaaaDf
import Derived.Test.YtbnpdghfbiacaaaDg
namespace Go.Proofs.Ytbnpdghfbiacaaa
open Go Go.RowKit Go.PlainAid

theorem decode_short (A : Option Addr) (c : Nat) (l : List UInt8) (W : World) (hv : ArgB W (.slice A l.length c) l) (hl : l.length ≤ 200) :
    Calls Try.prog 11 #[.slice A l.length c] W (DecodeR W l) := by
  cases h : encS vpP (takeMsg l) with
  | none => exact decode_bad A c l W hv hl h
  | some b =>
    by_cases hb : b = l
    · subst hb; exact decode_ok A c b W hv hl h
    · exact decode_ne A c l W hv hl b h hb
theorem decode_any (A : Option Addr) (c : Nat) (l : List UInt8) (W : World) (hv : ArgB W (.slice A l.length c) l) (hl : l.length ≤ maxLen) :
    Calls Try.prog 11 #[.slice A l.length c] W (DecodeR W l) := by
  by_cases h : l.length ≤ 200
  · exact decode_short A c l W hv h
  · exact decode_long A c l W hl (by omega)
end Go.Proofs.Ytbnpdghfbiacaaa
