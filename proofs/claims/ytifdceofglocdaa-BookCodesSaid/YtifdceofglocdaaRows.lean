/-
  No cell of these rows narrows 'for every input' (looked for: loops, veiled, ifaces, maps, wideKeys, modest, calm, conditions, laid).
  DERIVED. THE GIVEN ROWS OF THIS SEAT. 8 by the template 'for every input the law returns true; each argument reads behind the call as it read before'; 0 by the template 'total and deterministic' (their statements: YtifdceofglocdaaTotals.lean).
  GIVEN WITH THE SEED: the statements are not yours to turn. If you find one false, say at which input.
  Laid BY PROGRAM, IN A SANDBOX (cutbox-rows.mjs): the forced cells as the released guide's own fill.sh prints them over the translation 2b3ed987f90d7095… (all of the seat's roots in one cut). By AI agents, Wed Nov 11 2026. No macro, syntax, notation, axiom, sorry.
-/
import Derived.Test.YtifdceofglocdaaChecked
import GoSem.Claim
import GoSem.ClaimJoined
import GoSem.ClaimMapViews
import Derived.JoinedTies
import Derived.KernelRfl
namespace Go.Proofs.Ytifdceofglocdaa
/- THE CELL 'sum', in the pinned program and in every row, IS THE sha256 OF THE DUMP (.gsa) THAT YtifdceofglocdaaProg.lean LOADS. Nothing in Lean hashes anything: it is a label: what it is worth is what the hold of that sum in a sandbox is worth. -/
noncomputable def Try.pinned : Pinned := { name := "ytifdceofglocdaa", sum := "2b3ed987f90d709536778313c39a28506fc73458d3e52417b54b29a6327b4963", checked := Try.checked }
namespace Rows
def none {H : Type} : Left H := { results := [], args := [] }

/-- 'subletlaw11.BookNames': WHATEVER THE INPUT: true; the input reads as it did. -/
def bookNamesSpec : ChangeSpec := { name := "bookNames", fn := fun _ => fun
  | [] => { results := [.lit (.bool true)], args := [] }
  | _ => none }
def bookNamesRow : OpenClaim := { program := "ytifdceofglocdaa", sum := "2b3ed987f90d709536778313c39a28506fc73458d3e52417b54b29a6327b4963", func := "sublet/subletlaw11.BookNames", spec := "bookNames", inPlace := ["internal/bytealg.CountString", "internal/bytealg.IndexByteString", "internal/bytealg.IndexString", "slices.overlaps[sublet/api.Grant]"], unfollowed := true, recurses := true, named := ["internal/bytealg.MaxLen"], apart := false }
def BookNamesSaid : Prop := bookNamesRow.holds Try.pinned (OpenSpec.ofChange bookNamesSpec)

/-- ITS FALSE NEIGHBOUR: 'it returns false'. Refute it at one input. -/
def bookNamesWrong : ChangeSpec := { name := "bookNames", fn := fun _ => fun
  | [] => { results := [.lit (.bool false)], args := [] }
  | _ => none }
def BookNamesWrongFalsely : Prop := bookNamesRow.holds Try.pinned (OpenSpec.ofChange bookNamesWrong)

/-- 'subletlaw11.BookApplies': WHATEVER THE INPUT: true; the input reads as it did. -/
def bookAppliesSpec : ChangeSpec := { name := "bookApplies", fn := fun _ => fun
  | [d1, d2] => { results := [.lit (.bool true)], args := [d1, d2] }
  | _ => none }
def bookAppliesRow : OpenClaim := { program := "ytifdceofglocdaa", sum := "2b3ed987f90d709536778313c39a28506fc73458d3e52417b54b29a6327b4963", func := "sublet/subletlaw11.BookApplies", spec := "bookApplies", inPlace := ["internal/bytealg.CountString", "internal/bytealg.IndexByteString", "internal/bytealg.IndexString", "slices.overlaps[sublet/api.Grant]"], unfollowed := true, recurses := true, named := ["internal/bytealg.MaxLen"], apart := false }
def BookAppliesSaid : Prop := bookAppliesRow.holds Try.pinned (OpenSpec.ofChange bookAppliesSpec)

/-- ITS FALSE NEIGHBOUR: 'it returns false'. Refute it at one input. -/
def bookAppliesWrong : ChangeSpec := { name := "bookApplies", fn := fun _ => fun
  | [d1, d2] => { results := [.lit (.bool false)], args := [d1, d2] }
  | _ => none }
def BookAppliesWrongFalsely : Prop := bookAppliesRow.holds Try.pinned (OpenSpec.ofChange bookAppliesWrong)

/-- 'subletlaw11.BookPlays': WHATEVER THE INPUT: true; the input reads as it did. -/
def bookPlaysSpec : ChangeSpec := { name := "bookPlays", fn := fun _ => fun
  | [d] => { results := [.lit (.bool true)], args := [d] }
  | _ => none }
def bookPlaysRow : OpenClaim := { program := "ytifdceofglocdaa", sum := "2b3ed987f90d709536778313c39a28506fc73458d3e52417b54b29a6327b4963", func := "sublet/subletlaw11.BookPlays", spec := "bookPlays", inPlace := ["internal/bytealg.CountString", "internal/bytealg.IndexByteString", "internal/bytealg.IndexString", "slices.overlaps[sublet/api.Grant]"], unfollowed := true, recurses := true, named := ["internal/bytealg.MaxLen"], apart := false }
def BookPlaysSaid : Prop := bookPlaysRow.holds Try.pinned (OpenSpec.ofChange bookPlaysSpec)

/-- ITS FALSE NEIGHBOUR: 'it returns false'. Refute it at one input. -/
def bookPlaysWrong : ChangeSpec := { name := "bookPlays", fn := fun _ => fun
  | [d] => { results := [.lit (.bool false)], args := [d] }
  | _ => none }
def BookPlaysWrongFalsely : Prop := bookPlaysRow.holds Try.pinned (OpenSpec.ofChange bookPlaysWrong)

/-- 'subletlaw11.BookCodes': WHATEVER THE INPUT: true; the input reads as it did. -/
def bookCodesSpec : ChangeSpec := { name := "bookCodes", fn := fun _ => fun
  | [d1, d2] => { results := [.lit (.bool true)], args := [d1, d2] }
  | _ => none }
def bookCodesRow : OpenClaim := { program := "ytifdceofglocdaa", sum := "2b3ed987f90d709536778313c39a28506fc73458d3e52417b54b29a6327b4963", func := "sublet/subletlaw11.BookCodes", spec := "bookCodes", inPlace := ["internal/bytealg.CountString", "internal/bytealg.IndexByteString", "internal/bytealg.IndexString", "slices.overlaps[sublet/api.Grant]"], unfollowed := true, recurses := true, named := ["internal/bytealg.MaxLen"], apart := false }
def BookCodesSaid : Prop := bookCodesRow.holds Try.pinned (OpenSpec.ofChange bookCodesSpec)

/-- ITS FALSE NEIGHBOUR: 'it returns false'. Refute it at one input. -/
def bookCodesWrong : ChangeSpec := { name := "bookCodes", fn := fun _ => fun
  | [d1, d2] => { results := [.lit (.bool false)], args := [d1, d2] }
  | _ => none }
def BookCodesWrongFalsely : Prop := bookCodesRow.holds Try.pinned (OpenSpec.ofChange bookCodesWrong)

/-- 'subletlaw11.BookBack': WHATEVER THE INPUT: true; the input reads as it did. -/
def bookBackSpec : ChangeSpec := { name := "bookBack", fn := fun _ => fun
  | [d1, d2] => { results := [.lit (.bool true)], args := [d1, d2] }
  | _ => none }
def bookBackRow : OpenClaim := { program := "ytifdceofglocdaa", sum := "2b3ed987f90d709536778313c39a28506fc73458d3e52417b54b29a6327b4963", func := "sublet/subletlaw11.BookBack", spec := "bookBack", inPlace := ["internal/bytealg.CountString", "internal/bytealg.IndexByteString", "internal/bytealg.IndexString", "slices.overlaps[sublet/api.Grant]"], unfollowed := true, recurses := true, named := ["internal/bytealg.MaxLen"], apart := false }
def BookBackSaid : Prop := bookBackRow.holds Try.pinned (OpenSpec.ofChange bookBackSpec)

/-- ITS FALSE NEIGHBOUR: 'it returns false'. Refute it at one input. -/
def bookBackWrong : ChangeSpec := { name := "bookBack", fn := fun _ => fun
  | [d1, d2] => { results := [.lit (.bool false)], args := [d1, d2] }
  | _ => none }
def BookBackWrongFalsely : Prop := bookBackRow.holds Try.pinned (OpenSpec.ofChange bookBackWrong)

/-- 'subletlaw11.BookDumps': WHATEVER THE INPUT: true; the input reads as it did. -/
def bookDumpsSpec : ChangeSpec := { name := "bookDumps", fn := fun _ => fun
  | [d] => { results := [.lit (.bool true)], args := [d] }
  | _ => none }
def bookDumpsRow : OpenClaim := { program := "ytifdceofglocdaa", sum := "2b3ed987f90d709536778313c39a28506fc73458d3e52417b54b29a6327b4963", func := "sublet/subletlaw11.BookDumps", spec := "bookDumps", inPlace := ["internal/bytealg.CountString", "internal/bytealg.IndexByteString", "internal/bytealg.IndexString", "slices.overlaps[sublet/api.Grant]"], unfollowed := true, recurses := true, named := ["internal/bytealg.MaxLen"], apart := false }
def BookDumpsSaid : Prop := bookDumpsRow.holds Try.pinned (OpenSpec.ofChange bookDumpsSpec)

/-- ITS FALSE NEIGHBOUR: 'it returns false'. Refute it at one input. -/
def bookDumpsWrong : ChangeSpec := { name := "bookDumps", fn := fun _ => fun
  | [d] => { results := [.lit (.bool false)], args := [d] }
  | _ => none }
def BookDumpsWrongFalsely : Prop := bookDumpsRow.holds Try.pinned (OpenSpec.ofChange bookDumpsWrong)

/-- 'subletlaw11.BookOnce': WHATEVER THE INPUT: true; the input reads as it did. -/
def bookOnceSpec : ChangeSpec := { name := "bookOnce", fn := fun _ => fun
  | [d1, d2] => { results := [.lit (.bool true)], args := [d1, d2] }
  | _ => none }
def bookOnceRow : OpenClaim := { program := "ytifdceofglocdaa", sum := "2b3ed987f90d709536778313c39a28506fc73458d3e52417b54b29a6327b4963", func := "sublet/subletlaw11.BookOnce", spec := "bookOnce", inPlace := ["internal/bytealg.CountString", "internal/bytealg.IndexByteString", "internal/bytealg.IndexString", "slices.overlaps[sublet/api.Grant]"], unfollowed := true, recurses := true, named := ["internal/bytealg.MaxLen"], apart := false }
def BookOnceSaid : Prop := bookOnceRow.holds Try.pinned (OpenSpec.ofChange bookOnceSpec)

/-- ITS FALSE NEIGHBOUR: 'it returns false'. Refute it at one input. -/
def bookOnceWrong : ChangeSpec := { name := "bookOnce", fn := fun _ => fun
  | [d1, d2] => { results := [.lit (.bool false)], args := [d1, d2] }
  | _ => none }
def BookOnceWrongFalsely : Prop := bookOnceRow.holds Try.pinned (OpenSpec.ofChange bookOnceWrong)

/-- 'subletlaw11.BookOwn': WHATEVER THE INPUT: true; the input reads as it did. -/
def bookOwnSpec : ChangeSpec := { name := "bookOwn", fn := fun _ => fun
  | [d1, d2] => { results := [.lit (.bool true)], args := [d1, d2] }
  | _ => none }
def bookOwnRow : OpenClaim := { program := "ytifdceofglocdaa", sum := "2b3ed987f90d709536778313c39a28506fc73458d3e52417b54b29a6327b4963", func := "sublet/subletlaw11.BookOwn", spec := "bookOwn", inPlace := ["internal/bytealg.CountString", "internal/bytealg.IndexByteString", "internal/bytealg.IndexString", "slices.overlaps[sublet/api.Grant]"], unfollowed := true, recurses := true, named := ["internal/bytealg.MaxLen"], apart := false }
def BookOwnSaid : Prop := bookOwnRow.holds Try.pinned (OpenSpec.ofChange bookOwnSpec)

/-- ITS FALSE NEIGHBOUR: 'it returns false'. Refute it at one input. -/
def bookOwnWrong : ChangeSpec := { name := "bookOwn", fn := fun _ => fun
  | [d1, d2] => { results := [.lit (.bool false)], args := [d1, d2] }
  | _ => none }
def BookOwnWrongFalsely : Prop := bookOwnRow.holds Try.pinned (OpenSpec.ofChange bookOwnWrong)

/- THE SECOND FORM. 'bulk': how many values and letters a reading holds, each counted each time it is reached (what is shared counts as often as it is met; a slice's spare places count too). A statement '..UptoSaid' is the law's where the arguments, and the package variables that the reading takes, are together of bulk at most 1048576: NARROWER than '..Said'. Prove '..Said' where nothing that the law and all that it calls make is longer than what came in: it says more and counts as full. Else prove '..UptoSaid'. A law counts once. -/
mutual
def uptoBulk {H : Type} : DataW H → Nat
  | .lit (.string bytes) => bytes.length + 1
  | .lit _ => 1
  | .nil => 1
  | .ptr d => uptoBulk d + 1
  | .slice elems spare => uptoBulkAll elems + uptoBulkAll spare + 1
  | .agg parts => uptoBulkAll parts + 1
  | .iface _ d => uptoBulk d + 1
  | .map entries => uptoBulkEntries entries + 1
  | .held _ => 1
def uptoBulkAll {H : Type} : List (DataW H) → Nat
  | [] => 0
  | d :: r => uptoBulk d + uptoBulkAll r
def uptoBulkEntries {H : Type} : List (Lit × DataW H) → Nat
  | [] => 0
  | x :: r => uptoBulkEntry x + uptoBulkEntries r
def uptoBulkEntry {H : Type} : Lit × DataW H → Nat
  | (.string bytes, d) => bytes.length + uptoBulk d + 1
  | (_, d) => uptoBulk d + 1
 end
def uptoSmall : (H : Type) → List (DataW H) → Bool := fun _ ds => decide (uptoBulkAll ds ≤ 1048576)
def OpenSpec.upto (s : _root_.Go.ChangeSpec) : _root_.Go.OpenSpec := { _root_.Go.OpenSpec.ofChange s with cond := some uptoSmall }

/-- 'subletlaw11.BookNames', WHERE WHAT IT READS IS OF BULK AT MOST 1048576: true; the input reads as it did. -/
def bookNamesUptoRow : OpenClaim := { program := "ytifdceofglocdaa", sum := "2b3ed987f90d709536778313c39a28506fc73458d3e52417b54b29a6327b4963", func := "sublet/subletlaw11.BookNames", spec := "bookNames", inPlace := ["internal/bytealg.CountString", "internal/bytealg.IndexByteString", "internal/bytealg.IndexString", "slices.overlaps[sublet/api.Grant]"], unfollowed := true, recurses := true, named := ["internal/bytealg.MaxLen"], apart := false, narrowed := true }
def BookNamesUptoSaid : Prop := bookNamesUptoRow.holds Try.pinned (OpenSpec.upto bookNamesSpec)

/-- 'subletlaw11.BookApplies', WHERE WHAT IT READS IS OF BULK AT MOST 1048576: true; the input reads as it did. -/
def bookAppliesUptoRow : OpenClaim := { program := "ytifdceofglocdaa", sum := "2b3ed987f90d709536778313c39a28506fc73458d3e52417b54b29a6327b4963", func := "sublet/subletlaw11.BookApplies", spec := "bookApplies", inPlace := ["internal/bytealg.CountString", "internal/bytealg.IndexByteString", "internal/bytealg.IndexString", "slices.overlaps[sublet/api.Grant]"], unfollowed := true, recurses := true, named := ["internal/bytealg.MaxLen"], apart := false, narrowed := true }
def BookAppliesUptoSaid : Prop := bookAppliesUptoRow.holds Try.pinned (OpenSpec.upto bookAppliesSpec)

/-- 'subletlaw11.BookPlays', WHERE WHAT IT READS IS OF BULK AT MOST 1048576: true; the input reads as it did. -/
def bookPlaysUptoRow : OpenClaim := { program := "ytifdceofglocdaa", sum := "2b3ed987f90d709536778313c39a28506fc73458d3e52417b54b29a6327b4963", func := "sublet/subletlaw11.BookPlays", spec := "bookPlays", inPlace := ["internal/bytealg.CountString", "internal/bytealg.IndexByteString", "internal/bytealg.IndexString", "slices.overlaps[sublet/api.Grant]"], unfollowed := true, recurses := true, named := ["internal/bytealg.MaxLen"], apart := false, narrowed := true }
def BookPlaysUptoSaid : Prop := bookPlaysUptoRow.holds Try.pinned (OpenSpec.upto bookPlaysSpec)

/-- 'subletlaw11.BookCodes', WHERE WHAT IT READS IS OF BULK AT MOST 1048576: true; the input reads as it did. -/
def bookCodesUptoRow : OpenClaim := { program := "ytifdceofglocdaa", sum := "2b3ed987f90d709536778313c39a28506fc73458d3e52417b54b29a6327b4963", func := "sublet/subletlaw11.BookCodes", spec := "bookCodes", inPlace := ["internal/bytealg.CountString", "internal/bytealg.IndexByteString", "internal/bytealg.IndexString", "slices.overlaps[sublet/api.Grant]"], unfollowed := true, recurses := true, named := ["internal/bytealg.MaxLen"], apart := false, narrowed := true }
def BookCodesUptoSaid : Prop := bookCodesUptoRow.holds Try.pinned (OpenSpec.upto bookCodesSpec)

/-- 'subletlaw11.BookBack', WHERE WHAT IT READS IS OF BULK AT MOST 1048576: true; the input reads as it did. -/
def bookBackUptoRow : OpenClaim := { program := "ytifdceofglocdaa", sum := "2b3ed987f90d709536778313c39a28506fc73458d3e52417b54b29a6327b4963", func := "sublet/subletlaw11.BookBack", spec := "bookBack", inPlace := ["internal/bytealg.CountString", "internal/bytealg.IndexByteString", "internal/bytealg.IndexString", "slices.overlaps[sublet/api.Grant]"], unfollowed := true, recurses := true, named := ["internal/bytealg.MaxLen"], apart := false, narrowed := true }
def BookBackUptoSaid : Prop := bookBackUptoRow.holds Try.pinned (OpenSpec.upto bookBackSpec)

/-- 'subletlaw11.BookDumps', WHERE WHAT IT READS IS OF BULK AT MOST 1048576: true; the input reads as it did. -/
def bookDumpsUptoRow : OpenClaim := { program := "ytifdceofglocdaa", sum := "2b3ed987f90d709536778313c39a28506fc73458d3e52417b54b29a6327b4963", func := "sublet/subletlaw11.BookDumps", spec := "bookDumps", inPlace := ["internal/bytealg.CountString", "internal/bytealg.IndexByteString", "internal/bytealg.IndexString", "slices.overlaps[sublet/api.Grant]"], unfollowed := true, recurses := true, named := ["internal/bytealg.MaxLen"], apart := false, narrowed := true }
def BookDumpsUptoSaid : Prop := bookDumpsUptoRow.holds Try.pinned (OpenSpec.upto bookDumpsSpec)

/-- 'subletlaw11.BookOnce', WHERE WHAT IT READS IS OF BULK AT MOST 1048576: true; the input reads as it did. -/
def bookOnceUptoRow : OpenClaim := { program := "ytifdceofglocdaa", sum := "2b3ed987f90d709536778313c39a28506fc73458d3e52417b54b29a6327b4963", func := "sublet/subletlaw11.BookOnce", spec := "bookOnce", inPlace := ["internal/bytealg.CountString", "internal/bytealg.IndexByteString", "internal/bytealg.IndexString", "slices.overlaps[sublet/api.Grant]"], unfollowed := true, recurses := true, named := ["internal/bytealg.MaxLen"], apart := false, narrowed := true }
def BookOnceUptoSaid : Prop := bookOnceUptoRow.holds Try.pinned (OpenSpec.upto bookOnceSpec)

/-- 'subletlaw11.BookOwn', WHERE WHAT IT READS IS OF BULK AT MOST 1048576: true; the input reads as it did. -/
def bookOwnUptoRow : OpenClaim := { program := "ytifdceofglocdaa", sum := "2b3ed987f90d709536778313c39a28506fc73458d3e52417b54b29a6327b4963", func := "sublet/subletlaw11.BookOwn", spec := "bookOwn", inPlace := ["internal/bytealg.CountString", "internal/bytealg.IndexByteString", "internal/bytealg.IndexString", "slices.overlaps[sublet/api.Grant]"], unfollowed := true, recurses := true, named := ["internal/bytealg.MaxLen"], apart := false, narrowed := true }
def BookOwnUptoSaid : Prop := bookOwnUptoRow.holds Try.pinned (OpenSpec.upto bookOwnSpec)

end Rows
end Go.Proofs.Ytifdceofglocdaa
