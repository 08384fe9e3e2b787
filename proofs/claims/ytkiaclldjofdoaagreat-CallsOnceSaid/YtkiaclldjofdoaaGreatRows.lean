/-
  No cell of these rows narrows 'for every input' (looked for: loops, veiled, ifaces, maps, wideKeys, modest, calm, conditions, laid).
  DERIVED. THE GIVEN ROWS OF THIS SEAT. 4 by the template 'for every input the law returns true; each argument reads behind the call as it read before'; 0 by the template 'total and deterministic' (their statements: YtkiaclldjofdoaaGreatTotals.lean).
  GIVEN WITH THE SEED: the statements are not yours to turn. If you find one false, say at which input.
  Laid BY PROGRAM, IN A SANDBOX (cutbox-rows.mjs): the forced cells as the released guide's own fill.sh prints them over the translation 13247fc14d82f958… (all of the seat's roots in one cut). By AI agents, Wed Nov 11 2026. No macro, syntax, notation, axiom, sorry.
-/
import Derived.Test.YtkiaclldjofdoaaGreatChecked
import GoSem.Claim
import GoSem.ClaimJoined
import GoSem.ClaimMapViews
import Derived.JoinedTies
import Derived.KernelRfl
namespace Go.Proofs.YtkiaclldjofdoaaGreat
/- THE CELL 'sum', in the pinned program and in every row, IS THE sha256 OF THE DUMP (.gsa) THAT YtkiaclldjofdoaaGreatProg.lean LOADS. Nothing in Lean hashes anything: it is a label: what it is worth is what the hold of that sum in a sandbox is worth. -/
noncomputable def Tryz.pinned : Pinned := { name := "ytkiaclldjofdoaagreat", sum := "13247fc14d82f958b2a43d70fc92c8a30cc6b345325e34b3e1eb624091adf87f", checked := Tryz.checked }
namespace Rows
def none {H : Type} : Left H := { results := [], args := [] }

/-- 'subletlaw14.CallsNames': WHATEVER THE INPUT: true; the input reads as it did. -/
def callsNamesSpec : ChangeSpec := { name := "callsNames", fn := fun _ => fun
  | [] => { results := [.lit (.bool true)], args := [] }
  | _ => none }
def callsNamesRow : OpenClaim := { program := "ytkiaclldjofdoaagreat", sum := "13247fc14d82f958b2a43d70fc92c8a30cc6b345325e34b3e1eb624091adf87f", func := "sublet/subletlaw14.CallsNames", spec := "callsNames", inPlace := ["internal/bytealg.CountString", "internal/bytealg.IndexByteString", "internal/bytealg.IndexString"], unfollowed := true, recurses := true, named := ["internal/bytealg.MaxLen"], apart := false }
def CallsNamesSaid : Prop := callsNamesRow.holds Tryz.pinned (OpenSpec.ofChange callsNamesSpec)

/-- ITS FALSE NEIGHBOUR: 'it returns false'. Refute it at one input. -/
def callsNamesWrong : ChangeSpec := { name := "callsNames", fn := fun _ => fun
  | [] => { results := [.lit (.bool false)], args := [] }
  | _ => none }
def CallsNamesWrongFalsely : Prop := callsNamesRow.holds Tryz.pinned (OpenSpec.ofChange callsNamesWrong)

/-- 'subletlaw14.CallsPlays': WHATEVER THE INPUT: true; the input reads as it did. -/
def callsPlaysSpec : ChangeSpec := { name := "callsPlays", fn := fun _ => fun
  | [d1, d2] => { results := [.lit (.bool true)], args := [d1, d2] }
  | _ => none }
def callsPlaysRow : OpenClaim := { program := "ytkiaclldjofdoaagreat", sum := "13247fc14d82f958b2a43d70fc92c8a30cc6b345325e34b3e1eb624091adf87f", func := "sublet/subletlaw14.CallsPlays", spec := "callsPlays", inPlace := ["internal/bytealg.CountString", "internal/bytealg.IndexByteString", "internal/bytealg.IndexString"], unfollowed := true, recurses := true, named := ["internal/bytealg.MaxLen"], apart := false }
def CallsPlaysSaid : Prop := callsPlaysRow.holds Tryz.pinned (OpenSpec.ofChange callsPlaysSpec)

/-- ITS FALSE NEIGHBOUR: 'it returns false'. Refute it at one input. -/
def callsPlaysWrong : ChangeSpec := { name := "callsPlays", fn := fun _ => fun
  | [d1, d2] => { results := [.lit (.bool false)], args := [d1, d2] }
  | _ => none }
def CallsPlaysWrongFalsely : Prop := callsPlaysRow.holds Tryz.pinned (OpenSpec.ofChange callsPlaysWrong)

/-- 'subletlaw14.CallsOnce': WHATEVER THE INPUT: true; the input reads as it did. -/
def callsOnceSpec : ChangeSpec := { name := "callsOnce", fn := fun _ => fun
  | [d1, d2] => { results := [.lit (.bool true)], args := [d1, d2] }
  | _ => none }
def callsOnceRow : OpenClaim := { program := "ytkiaclldjofdoaagreat", sum := "13247fc14d82f958b2a43d70fc92c8a30cc6b345325e34b3e1eb624091adf87f", func := "sublet/subletlaw14.CallsOnce", spec := "callsOnce", inPlace := ["internal/bytealg.CountString", "internal/bytealg.IndexByteString", "internal/bytealg.IndexString"], unfollowed := true, recurses := true, named := ["internal/bytealg.MaxLen"], apart := false }
def CallsOnceSaid : Prop := callsOnceRow.holds Tryz.pinned (OpenSpec.ofChange callsOnceSpec)

/-- ITS FALSE NEIGHBOUR: 'it returns false'. Refute it at one input. -/
def callsOnceWrong : ChangeSpec := { name := "callsOnce", fn := fun _ => fun
  | [d1, d2] => { results := [.lit (.bool false)], args := [d1, d2] }
  | _ => none }
def CallsOnceWrongFalsely : Prop := callsOnceRow.holds Tryz.pinned (OpenSpec.ofChange callsOnceWrong)

/-- 'subletlaw14.CallsOwn': WHATEVER THE INPUT: true; the input reads as it did. -/
def callsOwnSpec : ChangeSpec := { name := "callsOwn", fn := fun _ => fun
  | [d1, d2] => { results := [.lit (.bool true)], args := [d1, d2] }
  | _ => none }
def callsOwnRow : OpenClaim := { program := "ytkiaclldjofdoaagreat", sum := "13247fc14d82f958b2a43d70fc92c8a30cc6b345325e34b3e1eb624091adf87f", func := "sublet/subletlaw14.CallsOwn", spec := "callsOwn", inPlace := ["internal/bytealg.CountString", "internal/bytealg.IndexByteString", "internal/bytealg.IndexString"], unfollowed := true, recurses := true, named := ["internal/bytealg.MaxLen"], apart := false }
def CallsOwnSaid : Prop := callsOwnRow.holds Tryz.pinned (OpenSpec.ofChange callsOwnSpec)

/-- ITS FALSE NEIGHBOUR: 'it returns false'. Refute it at one input. -/
def callsOwnWrong : ChangeSpec := { name := "callsOwn", fn := fun _ => fun
  | [d1, d2] => { results := [.lit (.bool false)], args := [d1, d2] }
  | _ => none }
def CallsOwnWrongFalsely : Prop := callsOwnRow.holds Tryz.pinned (OpenSpec.ofChange callsOwnWrong)

/- THE SECOND FORM. 'bulk': how many values and letters a reading holds, each counted each time it is reached (what is shared counts as often as it is met; a slice's spare places count too). A statement '..UptoSaid' is the law's where the arguments, and the package variables that the reading takes, are together of bulk at most 1048576: NARROWER than '..Said'. Prove '..Said' where nothing that the law and all that it calls make is longer than what came in: it says more and counts as full. Else prove '..UptoSaid'. A law counts once. -/
mutual
def uptoBulk {H : Type} : DataW H → Nat
  | .lit (.string bytes) => bytes.length + 1
  | .lit _ => 1
  | .nil => 1
  | .ptr d => uptoBulk d + 1
  | .slice elems spare => uptoBulkAll elems + uptoBulkAll spare + 1
  | .agg parts => uptoBulkAll parts + 1
  | .iface _ d => uptoBulk d + 1
  | .map entries => uptoBulkEntries entries + 1
  | .held _ => 1
def uptoBulkAll {H : Type} : List (DataW H) → Nat
  | [] => 0
  | d :: r => uptoBulk d + uptoBulkAll r
def uptoBulkEntries {H : Type} : List (Lit × DataW H) → Nat
  | [] => 0
  | x :: r => uptoBulkEntry x + uptoBulkEntries r
def uptoBulkEntry {H : Type} : Lit × DataW H → Nat
  | (.string bytes, d) => bytes.length + uptoBulk d + 1
  | (_, d) => uptoBulk d + 1
 end
def uptoSmall : (H : Type) → List (DataW H) → Bool := fun _ ds => decide (uptoBulkAll ds ≤ 1048576)
def OpenSpec.upto (s : _root_.Go.ChangeSpec) : _root_.Go.OpenSpec := { _root_.Go.OpenSpec.ofChange s with cond := some uptoSmall }

/-- 'subletlaw14.CallsNames', WHERE WHAT IT READS IS OF BULK AT MOST 1048576: true; the input reads as it did. -/
def callsNamesUptoRow : OpenClaim := { program := "ytkiaclldjofdoaagreat", sum := "13247fc14d82f958b2a43d70fc92c8a30cc6b345325e34b3e1eb624091adf87f", func := "sublet/subletlaw14.CallsNames", spec := "callsNames", inPlace := ["internal/bytealg.CountString", "internal/bytealg.IndexByteString", "internal/bytealg.IndexString"], unfollowed := true, recurses := true, named := ["internal/bytealg.MaxLen"], apart := false, narrowed := true }
def CallsNamesUptoSaid : Prop := callsNamesUptoRow.holds Tryz.pinned (OpenSpec.upto callsNamesSpec)

/-- 'subletlaw14.CallsPlays', WHERE WHAT IT READS IS OF BULK AT MOST 1048576: true; the input reads as it did. -/
def callsPlaysUptoRow : OpenClaim := { program := "ytkiaclldjofdoaagreat", sum := "13247fc14d82f958b2a43d70fc92c8a30cc6b345325e34b3e1eb624091adf87f", func := "sublet/subletlaw14.CallsPlays", spec := "callsPlays", inPlace := ["internal/bytealg.CountString", "internal/bytealg.IndexByteString", "internal/bytealg.IndexString"], unfollowed := true, recurses := true, named := ["internal/bytealg.MaxLen"], apart := false, narrowed := true }
def CallsPlaysUptoSaid : Prop := callsPlaysUptoRow.holds Tryz.pinned (OpenSpec.upto callsPlaysSpec)

/-- 'subletlaw14.CallsOnce', WHERE WHAT IT READS IS OF BULK AT MOST 1048576: true; the input reads as it did. -/
def callsOnceUptoRow : OpenClaim := { program := "ytkiaclldjofdoaagreat", sum := "13247fc14d82f958b2a43d70fc92c8a30cc6b345325e34b3e1eb624091adf87f", func := "sublet/subletlaw14.CallsOnce", spec := "callsOnce", inPlace := ["internal/bytealg.CountString", "internal/bytealg.IndexByteString", "internal/bytealg.IndexString"], unfollowed := true, recurses := true, named := ["internal/bytealg.MaxLen"], apart := false, narrowed := true }
def CallsOnceUptoSaid : Prop := callsOnceUptoRow.holds Tryz.pinned (OpenSpec.upto callsOnceSpec)

/-- 'subletlaw14.CallsOwn', WHERE WHAT IT READS IS OF BULK AT MOST 1048576: true; the input reads as it did. -/
def callsOwnUptoRow : OpenClaim := { program := "ytkiaclldjofdoaagreat", sum := "13247fc14d82f958b2a43d70fc92c8a30cc6b345325e34b3e1eb624091adf87f", func := "sublet/subletlaw14.CallsOwn", spec := "callsOwn", inPlace := ["internal/bytealg.CountString", "internal/bytealg.IndexByteString", "internal/bytealg.IndexString"], unfollowed := true, recurses := true, named := ["internal/bytealg.MaxLen"], apart := false, narrowed := true }
def CallsOwnUptoSaid : Prop := callsOwnUptoRow.holds Tryz.pinned (OpenSpec.upto callsOwnSpec)

end Rows
end Go.Proofs.YtkiaclldjofdoaaGreat
