/-
  NARROWER THAN 'FOR EVERY INPUT', by the rows' own cells (each row's printed sentence says how): GateNames: laid · GateFair: laid · GateOwn: laid · GateRises: laid · GatePlays: laid · GateRaw: laid · GateKeeps: laid.
  DERIVED. THE GIVEN ROWS OF THIS SEAT. 7 by the template 'for every input the law returns true; each argument reads behind the call as it read before'; 0 by the template 'total and deterministic' (their statements: YtlgbmkdeamgpkaaGreatDoorTotals.lean).
  GIVEN WITH THE SEED: the statements are not yours to turn. If you find one false, say at which input.
  Laid BY PROGRAM, IN A SANDBOX (cutbox-rows.mjs): the forced cells as the released guide's own fill.sh prints them over the translation c1991c09798ce331… (all of the seat's roots in one cut). By AI agents, Wed Nov 11 2026. No macro, syntax, notation, axiom, sorry.
-/
import Derived.Test.YtlgbmkdeamgpkaaGreatDoorChecked
import GoSem.PinnedTables
import GoSem.Claim
import GoSem.ClaimJoined
import GoSem.ClaimMapViews
import Derived.JoinedTies
import Derived.KernelRfl
namespace Go.Proofs.YtlgbmkdeamgpkaaGreatDoor
/- THE CELL 'sum', in the pinned program and in every row, IS THE sha256 OF THE DUMP (.gsa) THAT YtlgbmkdeamgpkaaGreatDoorProg.lean LOADS. Nothing in Lean hashes anything: it is a label: what it is worth is what the hold of that sum in a sandbox is worth. -/
noncomputable def Tryz.pinned : Pinned := { name := "ytlgbmkdeamgpkaagreatdoor", sum := "c1991c09798ce331f5b45a26c6335cb53ad9de2979b82845a0f6efe65afd0676", checked := Tryz.checked }
namespace Rows
def none {H : Type} : Left H := { results := [], args := [] }

/- WHAT THE LISTED PACKAGE-LEVEL VARIABLES READ AS WHEN THE CALL BEGINS. Each datum BY PROGRAM (the guide's laid-datum.mjs) off the statement by which the dump's own 'gosem.cut.vars' lays the variable. In a bare row this is a premise. The card (YtlgbmkdeamgpkaaGreatDoorCards.lean) ties it to the program's text. -/
def laid_unicode_utf8_acceptRanges {H : Type} : DataW H := .agg [.agg [.lit (.int .u8 128), .lit (.int .u8 191)], .agg [.lit (.int .u8 160), .lit (.int .u8 191)], .agg [.lit (.int .u8 128), .lit (.int .u8 159)], .agg [.lit (.int .u8 144), .lit (.int .u8 191)], .agg [.lit (.int .u8 128), .lit (.int .u8 143)], .agg [.lit (.int .u8 0), .lit (.int .u8 0)], .agg [.lit (.int .u8 0), .lit (.int .u8 0)], .agg [.lit (.int .u8 0), .lit (.int .u8 0)], .agg [.lit (.int .u8 0), .lit (.int .u8 0)], .agg [.lit (.int .u8 0), .lit (.int .u8 0)], .agg [.lit (.int .u8 0), .lit (.int .u8 0)], .agg [.lit (.int .u8 0), .lit (.int .u8 0)], .agg [.lit (.int .u8 0), .lit (.int .u8 0)], .agg [.lit (.int .u8 0), .lit (.int .u8 0)], .agg [.lit (.int .u8 0), .lit (.int .u8 0)], .agg [.lit (.int .u8 0), .lit (.int .u8 0)]]
/-- One of Go's own tables, pinned by name: the form's constant. -/
def laid_unicode_utf8_first : DataW Unit := Go.Pinned.utf8First

/-- 'subletlaw19.GateNames': WHATEVER THE INPUT: true; the input reads as it did. -/
def gateNamesSpec : ChangeSpec := { name := "gateNames", fn := fun _ => fun
  | [] => { results := [.lit (.bool true)], args := [] }
  | _ => none }
def gateNamesRow : OpenClaim := { program := "ytlgbmkdeamgpkaagreatdoor", sum := "c1991c09798ce331f5b45a26c6335cb53ad9de2979b82845a0f6efe65afd0676", func := "sublet/subletlaw19.GateNames", spec := "gateNames", inPlace := ["internal/bytealg.CountString", "internal/bytealg.IndexByteString", "internal/bytealg.IndexString"], unfollowed := true, recurses := true, named := ["unicode/utf8.first", "unicode/utf8.acceptRanges", "internal/bytealg.MaxLen"], apart := false, laid := [("unicode/utf8.acceptRanges", laid_unicode_utf8_acceptRanges), ("unicode/utf8.first", laid_unicode_utf8_first)] }
def GateNamesSaid : Prop := gateNamesRow.holds Tryz.pinned (OpenSpec.ofChange gateNamesSpec)

/-- ITS FALSE NEIGHBOUR: 'it returns false'. Refute it at one input. -/
def gateNamesWrong : ChangeSpec := { name := "gateNames", fn := fun _ => fun
  | [] => { results := [.lit (.bool false)], args := [] }
  | _ => none }
def GateNamesWrongFalsely : Prop := gateNamesRow.holds Tryz.pinned (OpenSpec.ofChange gateNamesWrong)

/-- 'subletlaw19.GateFair': WHATEVER THE INPUT: true; the input reads as it did. -/
def gateFairSpec : ChangeSpec := { name := "gateFair", fn := fun _ => fun
  | [d1, d2, d3] => { results := [.lit (.bool true)], args := [d1, d2, d3] }
  | _ => none }
def gateFairRow : OpenClaim := { program := "ytlgbmkdeamgpkaagreatdoor", sum := "c1991c09798ce331f5b45a26c6335cb53ad9de2979b82845a0f6efe65afd0676", func := "sublet/subletlaw19.GateFair", spec := "gateFair", inPlace := ["internal/bytealg.CountString", "internal/bytealg.IndexByteString", "internal/bytealg.IndexString"], unfollowed := true, recurses := true, named := ["unicode/utf8.first", "unicode/utf8.acceptRanges", "internal/bytealg.MaxLen"], apart := false, laid := [("unicode/utf8.acceptRanges", laid_unicode_utf8_acceptRanges), ("unicode/utf8.first", laid_unicode_utf8_first)] }
def GateFairSaid : Prop := gateFairRow.holds Tryz.pinned (OpenSpec.ofChange gateFairSpec)

/-- ITS FALSE NEIGHBOUR: 'it returns false'. Refute it at one input. -/
def gateFairWrong : ChangeSpec := { name := "gateFair", fn := fun _ => fun
  | [d1, d2, d3] => { results := [.lit (.bool false)], args := [d1, d2, d3] }
  | _ => none }
def GateFairWrongFalsely : Prop := gateFairRow.holds Tryz.pinned (OpenSpec.ofChange gateFairWrong)

/-- 'subletlaw19.GateOwn': WHATEVER THE INPUT: true; the input reads as it did. -/
def gateOwnSpec : ChangeSpec := { name := "gateOwn", fn := fun _ => fun
  | [d] => { results := [.lit (.bool true)], args := [d] }
  | _ => none }
def gateOwnRow : OpenClaim := { program := "ytlgbmkdeamgpkaagreatdoor", sum := "c1991c09798ce331f5b45a26c6335cb53ad9de2979b82845a0f6efe65afd0676", func := "sublet/subletlaw19.GateOwn", spec := "gateOwn", inPlace := ["internal/bytealg.CountString", "internal/bytealg.IndexByteString", "internal/bytealg.IndexString"], unfollowed := true, recurses := true, named := ["unicode/utf8.first", "unicode/utf8.acceptRanges", "internal/bytealg.MaxLen"], apart := false, laid := [("unicode/utf8.acceptRanges", laid_unicode_utf8_acceptRanges), ("unicode/utf8.first", laid_unicode_utf8_first)] }
def GateOwnSaid : Prop := gateOwnRow.holds Tryz.pinned (OpenSpec.ofChange gateOwnSpec)

/-- ITS FALSE NEIGHBOUR: 'it returns false'. Refute it at one input. -/
def gateOwnWrong : ChangeSpec := { name := "gateOwn", fn := fun _ => fun
  | [d] => { results := [.lit (.bool false)], args := [d] }
  | _ => none }
def GateOwnWrongFalsely : Prop := gateOwnRow.holds Tryz.pinned (OpenSpec.ofChange gateOwnWrong)

/-- 'subletlaw19.GateRises': WHATEVER THE INPUT: true; the input reads as it did. -/
def gateRisesSpec : ChangeSpec := { name := "gateRises", fn := fun _ => fun
  | [d] => { results := [.lit (.bool true)], args := [d] }
  | _ => none }
def gateRisesRow : OpenClaim := { program := "ytlgbmkdeamgpkaagreatdoor", sum := "c1991c09798ce331f5b45a26c6335cb53ad9de2979b82845a0f6efe65afd0676", func := "sublet/subletlaw19.GateRises", spec := "gateRises", inPlace := ["internal/bytealg.CountString", "internal/bytealg.IndexByteString", "internal/bytealg.IndexString"], unfollowed := true, recurses := true, named := ["unicode/utf8.first", "unicode/utf8.acceptRanges", "internal/bytealg.MaxLen"], apart := false, laid := [("unicode/utf8.acceptRanges", laid_unicode_utf8_acceptRanges), ("unicode/utf8.first", laid_unicode_utf8_first)] }
def GateRisesSaid : Prop := gateRisesRow.holds Tryz.pinned (OpenSpec.ofChange gateRisesSpec)

/-- ITS FALSE NEIGHBOUR: 'it returns false'. Refute it at one input. -/
def gateRisesWrong : ChangeSpec := { name := "gateRises", fn := fun _ => fun
  | [d] => { results := [.lit (.bool false)], args := [d] }
  | _ => none }
def GateRisesWrongFalsely : Prop := gateRisesRow.holds Tryz.pinned (OpenSpec.ofChange gateRisesWrong)

/-- 'subletlaw19.GatePlays': WHATEVER THE INPUT: true; the input reads as it did. -/
def gatePlaysSpec : ChangeSpec := { name := "gatePlays", fn := fun _ => fun
  | [d1, d2] => { results := [.lit (.bool true)], args := [d1, d2] }
  | _ => none }
def gatePlaysRow : OpenClaim := { program := "ytlgbmkdeamgpkaagreatdoor", sum := "c1991c09798ce331f5b45a26c6335cb53ad9de2979b82845a0f6efe65afd0676", func := "sublet/subletlaw19.GatePlays", spec := "gatePlays", inPlace := ["internal/bytealg.CountString", "internal/bytealg.IndexByteString", "internal/bytealg.IndexString"], unfollowed := true, recurses := true, named := ["unicode/utf8.first", "unicode/utf8.acceptRanges", "internal/bytealg.MaxLen"], apart := false, laid := [("unicode/utf8.acceptRanges", laid_unicode_utf8_acceptRanges), ("unicode/utf8.first", laid_unicode_utf8_first)] }
def GatePlaysSaid : Prop := gatePlaysRow.holds Tryz.pinned (OpenSpec.ofChange gatePlaysSpec)

/-- ITS FALSE NEIGHBOUR: 'it returns false'. Refute it at one input. -/
def gatePlaysWrong : ChangeSpec := { name := "gatePlays", fn := fun _ => fun
  | [d1, d2] => { results := [.lit (.bool false)], args := [d1, d2] }
  | _ => none }
def GatePlaysWrongFalsely : Prop := gatePlaysRow.holds Tryz.pinned (OpenSpec.ofChange gatePlaysWrong)

/-- 'subletlaw19.GateRaw': WHATEVER THE INPUT: true; the input reads as it did. -/
def gateRawSpec : ChangeSpec := { name := "gateRaw", fn := fun _ => fun
  | [d1, d2] => { results := [.lit (.bool true)], args := [d1, d2] }
  | _ => none }
def gateRawRow : OpenClaim := { program := "ytlgbmkdeamgpkaagreatdoor", sum := "c1991c09798ce331f5b45a26c6335cb53ad9de2979b82845a0f6efe65afd0676", func := "sublet/subletlaw19.GateRaw", spec := "gateRaw", inPlace := ["internal/bytealg.CountString", "internal/bytealg.IndexByteString", "internal/bytealg.IndexString"], unfollowed := true, recurses := true, named := ["unicode/utf8.first", "unicode/utf8.acceptRanges", "internal/bytealg.MaxLen"], apart := false, laid := [("unicode/utf8.acceptRanges", laid_unicode_utf8_acceptRanges), ("unicode/utf8.first", laid_unicode_utf8_first)] }
def GateRawSaid : Prop := gateRawRow.holds Tryz.pinned (OpenSpec.ofChange gateRawSpec)

/-- ITS FALSE NEIGHBOUR: 'it returns false'. Refute it at one input. -/
def gateRawWrong : ChangeSpec := { name := "gateRaw", fn := fun _ => fun
  | [d1, d2] => { results := [.lit (.bool false)], args := [d1, d2] }
  | _ => none }
def GateRawWrongFalsely : Prop := gateRawRow.holds Tryz.pinned (OpenSpec.ofChange gateRawWrong)

/-- 'subletlaw19.GateKeeps': WHATEVER THE INPUT: true; the input reads as it did. -/
def gateKeepsSpec : ChangeSpec := { name := "gateKeeps", fn := fun _ => fun
  | [d] => { results := [.lit (.bool true)], args := [d] }
  | _ => none }
def gateKeepsRow : OpenClaim := { program := "ytlgbmkdeamgpkaagreatdoor", sum := "c1991c09798ce331f5b45a26c6335cb53ad9de2979b82845a0f6efe65afd0676", func := "sublet/subletlaw19.GateKeeps", spec := "gateKeeps", inPlace := ["internal/bytealg.CountString", "internal/bytealg.IndexByteString", "internal/bytealg.IndexString"], unfollowed := true, recurses := true, named := ["unicode/utf8.first", "unicode/utf8.acceptRanges", "internal/bytealg.MaxLen"], apart := false, laid := [("unicode/utf8.acceptRanges", laid_unicode_utf8_acceptRanges), ("unicode/utf8.first", laid_unicode_utf8_first)] }
def GateKeepsSaid : Prop := gateKeepsRow.holds Tryz.pinned (OpenSpec.ofChange gateKeepsSpec)

/-- ITS FALSE NEIGHBOUR: 'it returns false'. Refute it at one input. -/
def gateKeepsWrong : ChangeSpec := { name := "gateKeeps", fn := fun _ => fun
  | [d] => { results := [.lit (.bool false)], args := [d] }
  | _ => none }
def GateKeepsWrongFalsely : Prop := gateKeepsRow.holds Tryz.pinned (OpenSpec.ofChange gateKeepsWrong)

/- THE SECOND FORM. 'bulk': how many values and letters a reading holds, each counted each time it is reached (what is shared counts as often as it is met; a slice's spare places count too). A statement '..UptoSaid' is the law's where the arguments, and the package variables that the reading takes, are together of bulk at most 1048576: NARROWER than '..Said'. Prove '..Said' where nothing that the law and all that it calls make is longer than what came in: it says more and counts as full. Else prove '..UptoSaid'. A law counts once. -/
mutual
def uptoBulk {H : Type} : DataW H → Nat
  | .lit (.string bytes) => bytes.length + 1
  | .lit _ => 1
  | .nil => 1
  | .ptr d => uptoBulk d + 1
  | .slice elems spare => uptoBulkAll elems + uptoBulkAll spare + 1
  | .agg parts => uptoBulkAll parts + 1
  | .iface _ d => uptoBulk d + 1
  | .map entries => uptoBulkEntries entries + 1
  | .held _ => 1
def uptoBulkAll {H : Type} : List (DataW H) → Nat
  | [] => 0
  | d :: r => uptoBulk d + uptoBulkAll r
def uptoBulkEntries {H : Type} : List (Lit × DataW H) → Nat
  | [] => 0
  | x :: r => uptoBulkEntry x + uptoBulkEntries r
def uptoBulkEntry {H : Type} : Lit × DataW H → Nat
  | (.string bytes, d) => bytes.length + uptoBulk d + 1
  | (_, d) => uptoBulk d + 1
 end
def uptoSmall : (H : Type) → List (DataW H) → Bool := fun _ ds => decide (uptoBulkAll ds ≤ 1048576)
def OpenSpec.upto (s : _root_.Go.ChangeSpec) : _root_.Go.OpenSpec := { _root_.Go.OpenSpec.ofChange s with cond := some uptoSmall }

/-- 'subletlaw19.GateNames', WHERE WHAT IT READS IS OF BULK AT MOST 1048576: true; the input reads as it did. -/
def gateNamesUptoRow : OpenClaim := { program := "ytlgbmkdeamgpkaagreatdoor", sum := "c1991c09798ce331f5b45a26c6335cb53ad9de2979b82845a0f6efe65afd0676", func := "sublet/subletlaw19.GateNames", spec := "gateNames", inPlace := ["internal/bytealg.CountString", "internal/bytealg.IndexByteString", "internal/bytealg.IndexString"], unfollowed := true, recurses := true, named := ["unicode/utf8.first", "unicode/utf8.acceptRanges", "internal/bytealg.MaxLen"], apart := false, laid := [("unicode/utf8.acceptRanges", laid_unicode_utf8_acceptRanges), ("unicode/utf8.first", laid_unicode_utf8_first)], narrowed := true }
def GateNamesUptoSaid : Prop := gateNamesUptoRow.holds Tryz.pinned (OpenSpec.upto gateNamesSpec)

/-- 'subletlaw19.GateFair', WHERE WHAT IT READS IS OF BULK AT MOST 1048576: true; the input reads as it did. -/
def gateFairUptoRow : OpenClaim := { program := "ytlgbmkdeamgpkaagreatdoor", sum := "c1991c09798ce331f5b45a26c6335cb53ad9de2979b82845a0f6efe65afd0676", func := "sublet/subletlaw19.GateFair", spec := "gateFair", inPlace := ["internal/bytealg.CountString", "internal/bytealg.IndexByteString", "internal/bytealg.IndexString"], unfollowed := true, recurses := true, named := ["unicode/utf8.first", "unicode/utf8.acceptRanges", "internal/bytealg.MaxLen"], apart := false, laid := [("unicode/utf8.acceptRanges", laid_unicode_utf8_acceptRanges), ("unicode/utf8.first", laid_unicode_utf8_first)], narrowed := true }
def GateFairUptoSaid : Prop := gateFairUptoRow.holds Tryz.pinned (OpenSpec.upto gateFairSpec)

/-- 'subletlaw19.GateOwn', WHERE WHAT IT READS IS OF BULK AT MOST 1048576: true; the input reads as it did. -/
def gateOwnUptoRow : OpenClaim := { program := "ytlgbmkdeamgpkaagreatdoor", sum := "c1991c09798ce331f5b45a26c6335cb53ad9de2979b82845a0f6efe65afd0676", func := "sublet/subletlaw19.GateOwn", spec := "gateOwn", inPlace := ["internal/bytealg.CountString", "internal/bytealg.IndexByteString", "internal/bytealg.IndexString"], unfollowed := true, recurses := true, named := ["unicode/utf8.first", "unicode/utf8.acceptRanges", "internal/bytealg.MaxLen"], apart := false, laid := [("unicode/utf8.acceptRanges", laid_unicode_utf8_acceptRanges), ("unicode/utf8.first", laid_unicode_utf8_first)], narrowed := true }
def GateOwnUptoSaid : Prop := gateOwnUptoRow.holds Tryz.pinned (OpenSpec.upto gateOwnSpec)

/-- 'subletlaw19.GateRises', WHERE WHAT IT READS IS OF BULK AT MOST 1048576: true; the input reads as it did. -/
def gateRisesUptoRow : OpenClaim := { program := "ytlgbmkdeamgpkaagreatdoor", sum := "c1991c09798ce331f5b45a26c6335cb53ad9de2979b82845a0f6efe65afd0676", func := "sublet/subletlaw19.GateRises", spec := "gateRises", inPlace := ["internal/bytealg.CountString", "internal/bytealg.IndexByteString", "internal/bytealg.IndexString"], unfollowed := true, recurses := true, named := ["unicode/utf8.first", "unicode/utf8.acceptRanges", "internal/bytealg.MaxLen"], apart := false, laid := [("unicode/utf8.acceptRanges", laid_unicode_utf8_acceptRanges), ("unicode/utf8.first", laid_unicode_utf8_first)], narrowed := true }
def GateRisesUptoSaid : Prop := gateRisesUptoRow.holds Tryz.pinned (OpenSpec.upto gateRisesSpec)

/-- 'subletlaw19.GatePlays', WHERE WHAT IT READS IS OF BULK AT MOST 1048576: true; the input reads as it did. -/
def gatePlaysUptoRow : OpenClaim := { program := "ytlgbmkdeamgpkaagreatdoor", sum := "c1991c09798ce331f5b45a26c6335cb53ad9de2979b82845a0f6efe65afd0676", func := "sublet/subletlaw19.GatePlays", spec := "gatePlays", inPlace := ["internal/bytealg.CountString", "internal/bytealg.IndexByteString", "internal/bytealg.IndexString"], unfollowed := true, recurses := true, named := ["unicode/utf8.first", "unicode/utf8.acceptRanges", "internal/bytealg.MaxLen"], apart := false, laid := [("unicode/utf8.acceptRanges", laid_unicode_utf8_acceptRanges), ("unicode/utf8.first", laid_unicode_utf8_first)], narrowed := true }
def GatePlaysUptoSaid : Prop := gatePlaysUptoRow.holds Tryz.pinned (OpenSpec.upto gatePlaysSpec)

/-- 'subletlaw19.GateRaw', WHERE WHAT IT READS IS OF BULK AT MOST 1048576: true; the input reads as it did. -/
def gateRawUptoRow : OpenClaim := { program := "ytlgbmkdeamgpkaagreatdoor", sum := "c1991c09798ce331f5b45a26c6335cb53ad9de2979b82845a0f6efe65afd0676", func := "sublet/subletlaw19.GateRaw", spec := "gateRaw", inPlace := ["internal/bytealg.CountString", "internal/bytealg.IndexByteString", "internal/bytealg.IndexString"], unfollowed := true, recurses := true, named := ["unicode/utf8.first", "unicode/utf8.acceptRanges", "internal/bytealg.MaxLen"], apart := false, laid := [("unicode/utf8.acceptRanges", laid_unicode_utf8_acceptRanges), ("unicode/utf8.first", laid_unicode_utf8_first)], narrowed := true }
def GateRawUptoSaid : Prop := gateRawUptoRow.holds Tryz.pinned (OpenSpec.upto gateRawSpec)

/-- 'subletlaw19.GateKeeps', WHERE WHAT IT READS IS OF BULK AT MOST 1048576: true; the input reads as it did. -/
def gateKeepsUptoRow : OpenClaim := { program := "ytlgbmkdeamgpkaagreatdoor", sum := "c1991c09798ce331f5b45a26c6335cb53ad9de2979b82845a0f6efe65afd0676", func := "sublet/subletlaw19.GateKeeps", spec := "gateKeeps", inPlace := ["internal/bytealg.CountString", "internal/bytealg.IndexByteString", "internal/bytealg.IndexString"], unfollowed := true, recurses := true, named := ["unicode/utf8.first", "unicode/utf8.acceptRanges", "internal/bytealg.MaxLen"], apart := false, laid := [("unicode/utf8.acceptRanges", laid_unicode_utf8_acceptRanges), ("unicode/utf8.first", laid_unicode_utf8_first)], narrowed := true }
def GateKeepsUptoSaid : Prop := gateKeepsUptoRow.holds Tryz.pinned (OpenSpec.upto gateKeepsSpec)

end Rows
end Go.Proofs.YtlgbmkdeamgpkaaGreatDoor
