/-
  NARROWER THAN 'FOR EVERY INPUT', by the rows' own cells (each row's printed sentence says how): ModeTexts: laid · PathCleans: laid · PathRights: laid · HoleLays: laid · AlterLasts: laid · BlockRights: laid · PathLeads: laid · BlockWhole: laid · PathLinks: laid · HoleFinds: laid · NumberReads: laid · ModeReads: laid.
  DERIVED. THE GIVEN ROWS OF THIS SEAT. 12 by the template 'for every input the law returns true; each argument reads behind the call as it read before'; 0 by the template 'total and deterministic' (their statements: YtmpcnjjibfcfmaaDoorTotals.lean).
  GIVEN WITH THE SEED: the statements are not yours to turn. If you find one false, say at which input.
  Laid BY PROGRAM, IN A SANDBOX (cutbox-rows.mjs): the forced cells as the released guide's own fill.sh prints them over the translation 2e608e443a005f31… (all of the seat's roots in one cut). By AI agents, Wed Nov 11 2026. No macro, syntax, notation, axiom, sorry.
-/
import Derived.Test.YtmpcnjjibfcfmaaDoorChecked
import GoSem.PinnedTables
import GoSem.Claim
import GoSem.ClaimJoined
import GoSem.ClaimMapViews
import Derived.JoinedTies
import Derived.KernelRfl
namespace Go.Proofs.YtmpcnjjibfcfmaaDoor
/- THE CELL 'sum', in the pinned program and in every row, IS THE sha256 OF THE DUMP (.gsa) THAT YtmpcnjjibfcfmaaDoorProg.lean LOADS. Nothing in Lean hashes anything: it is a label: what it is worth is what the hold of that sum in a sandbox is worth. -/
noncomputable def Tryd.pinned : Pinned := { name := "ytmpcnjjibfcfmaadoor", sum := "2e608e443a005f3195faba3f650218382028d323aff41986588a5e7ed1a11efa", checked := Tryd.checked }
namespace Rows
def none {H : Type} : Left H := { results := [], args := [] }

/- WHAT THE LISTED PACKAGE-LEVEL VARIABLES READ AS WHEN THE CALL BEGINS. Each datum BY PROGRAM (the guide's laid-datum.mjs) off the statement by which the dump's own 'gosem.cut.vars' lays the variable. In a bare row this is a premise. The card (YtmpcnjjibfcfmaaDoorCards.lean) ties it to the program's text. -/
def laid_unicode_utf8_acceptRanges {H : Type} : DataW H := .agg [.agg [.lit (.int .u8 128), .lit (.int .u8 191)], .agg [.lit (.int .u8 160), .lit (.int .u8 191)], .agg [.lit (.int .u8 128), .lit (.int .u8 159)], .agg [.lit (.int .u8 144), .lit (.int .u8 191)], .agg [.lit (.int .u8 128), .lit (.int .u8 143)], .agg [.lit (.int .u8 0), .lit (.int .u8 0)], .agg [.lit (.int .u8 0), .lit (.int .u8 0)], .agg [.lit (.int .u8 0), .lit (.int .u8 0)], .agg [.lit (.int .u8 0), .lit (.int .u8 0)], .agg [.lit (.int .u8 0), .lit (.int .u8 0)], .agg [.lit (.int .u8 0), .lit (.int .u8 0)], .agg [.lit (.int .u8 0), .lit (.int .u8 0)], .agg [.lit (.int .u8 0), .lit (.int .u8 0)], .agg [.lit (.int .u8 0), .lit (.int .u8 0)], .agg [.lit (.int .u8 0), .lit (.int .u8 0)], .agg [.lit (.int .u8 0), .lit (.int .u8 0)]]
/-- One of Go's own tables, pinned by name: the form's constant. -/
def laid_unicode_CaseRanges : DataW Unit := Go.Pinned.caseRanges
/-- One of Go's own tables, pinned by name: the form's constant. -/
def laid_unicode_utf8_first : DataW Unit := Go.Pinned.utf8First
def laid_errors_errorType {H : Type} : DataW H := .iface "internal/reflectlite.rtype" (.agg [.ptr (.lit (.string [101, 114, 114, 111, 114]))])

/-- 'revetmentlaw.ModeTexts': WHATEVER THE INPUT: true; the input reads as it did. -/
def modeTextsSpec : ChangeSpec := { name := "modeTexts", fn := fun _ => fun
  | [d] => { results := [.lit (.bool true)], args := [d] }
  | _ => none }
def modeTextsRow : OpenClaim := { program := "ytmpcnjjibfcfmaadoor", sum := "2e608e443a005f3195faba3f650218382028d323aff41986588a5e7ed1a11efa", func := "revetment/revetmentlaw.ModeTexts", spec := "modeTexts", inPlace := ["internal/abi.NoEscape", "internal/bytealg.MakeNoZero"], unfollowed := true, recurses := true, named := ["unicode/utf8.first", "unicode/utf8.acceptRanges", "unicode.CaseRanges"], apart := false, laid := [("unicode/utf8.acceptRanges", laid_unicode_utf8_acceptRanges), ("unicode.CaseRanges", laid_unicode_CaseRanges), ("unicode/utf8.first", laid_unicode_utf8_first)] }
def ModeTextsSaid : Prop := modeTextsRow.holds Tryd.pinned (OpenSpec.ofChange modeTextsSpec)

/-- ITS FALSE NEIGHBOUR: 'it returns false'. Refute it at one input. -/
def modeTextsWrong : ChangeSpec := { name := "modeTexts", fn := fun _ => fun
  | [d] => { results := [.lit (.bool false)], args := [d] }
  | _ => none }
def ModeTextsWrongFalsely : Prop := modeTextsRow.holds Tryd.pinned (OpenSpec.ofChange modeTextsWrong)

/-- 'revetmentlaw.PathCleans': WHATEVER THE INPUT: true; the input reads as it did. -/
def pathCleansSpec : ChangeSpec := { name := "pathCleans", fn := fun _ => fun
  | [d] => { results := [.lit (.bool true)], args := [d] }
  | _ => none }
def pathCleansRow : OpenClaim := { program := "ytmpcnjjibfcfmaadoor", sum := "2e608e443a005f3195faba3f650218382028d323aff41986588a5e7ed1a11efa", func := "revetment/revetmentlaw.PathCleans", spec := "pathCleans", inPlace := ["internal/bytealg.CountString", "internal/bytealg.IndexByteString", "internal/bytealg.IndexString", "internal/abi.NoEscape", "internal/bytealg.MakeNoZero"], unfollowed := true, recurses := true, named := ["unicode/utf8.first", "unicode/utf8.acceptRanges", "internal/bytealg.MaxLen"], apart := false, laid := [("unicode/utf8.acceptRanges", laid_unicode_utf8_acceptRanges), ("unicode/utf8.first", laid_unicode_utf8_first)] }
def PathCleansSaid : Prop := pathCleansRow.holds Tryd.pinned (OpenSpec.ofChange pathCleansSpec)

/-- ITS FALSE NEIGHBOUR: 'it returns false'. Refute it at one input. -/
def pathCleansWrong : ChangeSpec := { name := "pathCleans", fn := fun _ => fun
  | [d] => { results := [.lit (.bool false)], args := [d] }
  | _ => none }
def PathCleansWrongFalsely : Prop := pathCleansRow.holds Tryd.pinned (OpenSpec.ofChange pathCleansWrong)

/-- 'revetmentlaw.PathRights': WHATEVER THE INPUT: true; the input reads as it did. -/
def pathRightsSpec : ChangeSpec := { name := "pathRights", fn := fun _ => fun
  | [d] => { results := [.lit (.bool true)], args := [d] }
  | _ => none }
def pathRightsRow : OpenClaim := { program := "ytmpcnjjibfcfmaadoor", sum := "2e608e443a005f3195faba3f650218382028d323aff41986588a5e7ed1a11efa", func := "revetment/revetmentlaw.PathRights", spec := "pathRights", inPlace := ["internal/bytealg.CountString", "internal/bytealg.IndexByteString", "internal/bytealg.IndexString", "internal/abi.NoEscape", "internal/bytealg.MakeNoZero"], unfollowed := true, recurses := true, named := ["unicode/utf8.first", "unicode/utf8.acceptRanges", "internal/bytealg.MaxLen"], apart := false, laid := [("unicode/utf8.acceptRanges", laid_unicode_utf8_acceptRanges), ("unicode/utf8.first", laid_unicode_utf8_first)] }
def PathRightsSaid : Prop := pathRightsRow.holds Tryd.pinned (OpenSpec.ofChange pathRightsSpec)

/-- ITS FALSE NEIGHBOUR: 'it returns false'. Refute it at one input. -/
def pathRightsWrong : ChangeSpec := { name := "pathRights", fn := fun _ => fun
  | [d] => { results := [.lit (.bool false)], args := [d] }
  | _ => none }
def PathRightsWrongFalsely : Prop := pathRightsRow.holds Tryd.pinned (OpenSpec.ofChange pathRightsWrong)

/-- 'revetmentlaw.HoleLays': WHATEVER THE INPUT: true; the input reads as it did. -/
def holeLaysSpec : ChangeSpec := { name := "holeLays", fn := fun _ => fun
  | [d1, d2, d3] => { results := [.lit (.bool true)], args := [d1, d2, d3] }
  | _ => none }
def holeLaysRow : OpenClaim := { program := "ytmpcnjjibfcfmaadoor", sum := "2e608e443a005f3195faba3f650218382028d323aff41986588a5e7ed1a11efa", func := "revetment/revetmentlaw.HoleLays", spec := "holeLays", inPlace := ["internal/abi.NoEscape", "internal/bytealg.MakeNoZero", "internal/reflectlite.ValueOf", "(internal/reflectlite.Value).Type", "(internal/reflectlite.Value).IsNil", "internal/reflectlite.TypeOf", "(internal/reflectlite.Value).Elem", "(internal/reflectlite.Value).Set"], unfollowed := true, recurses := true, named := ["errors.errorType"], apart := false, laid := [("errors.errorType", laid_errors_errorType)] }
def HoleLaysSaid : Prop := holeLaysRow.holds Tryd.pinned (OpenSpec.ofChange holeLaysSpec)

/-- ITS FALSE NEIGHBOUR: 'it returns false'. Refute it at one input. -/
def holeLaysWrong : ChangeSpec := { name := "holeLays", fn := fun _ => fun
  | [d1, d2, d3] => { results := [.lit (.bool false)], args := [d1, d2, d3] }
  | _ => none }
def HoleLaysWrongFalsely : Prop := holeLaysRow.holds Tryd.pinned (OpenSpec.ofChange holeLaysWrong)

/-- 'revetmentlaw.AlterLasts': WHATEVER THE INPUT: true; the input reads as it did. -/
def alterLastsSpec : ChangeSpec := { name := "alterLasts", fn := fun _ => fun
  | [d] => { results := [.lit (.bool true)], args := [d] }
  | _ => none }
def alterLastsRow : OpenClaim := { program := "ytmpcnjjibfcfmaadoor", sum := "2e608e443a005f3195faba3f650218382028d323aff41986588a5e7ed1a11efa", func := "revetment/revetmentlaw.AlterLasts", spec := "alterLasts", inPlace := ["internal/bytealg.CountString", "internal/bytealg.IndexByteString", "internal/bytealg.IndexString", "internal/abi.NoEscape", "internal/bytealg.MakeNoZero"], unfollowed := true, recurses := true, named := ["unicode/utf8.first", "unicode/utf8.acceptRanges", "internal/bytealg.MaxLen"], apart := false, laid := [("unicode/utf8.acceptRanges", laid_unicode_utf8_acceptRanges), ("unicode/utf8.first", laid_unicode_utf8_first)] }
def AlterLastsSaid : Prop := alterLastsRow.holds Tryd.pinned (OpenSpec.ofChange alterLastsSpec)

/-- ITS FALSE NEIGHBOUR: 'it returns false'. Refute it at one input. -/
def alterLastsWrong : ChangeSpec := { name := "alterLasts", fn := fun _ => fun
  | [d] => { results := [.lit (.bool false)], args := [d] }
  | _ => none }
def AlterLastsWrongFalsely : Prop := alterLastsRow.holds Tryd.pinned (OpenSpec.ofChange alterLastsWrong)

/-- 'revetmentlaw.BlockRights': WHATEVER THE INPUT: true; the input reads as it did. -/
def blockRightsSpec : ChangeSpec := { name := "blockRights", fn := fun _ => fun
  | [d] => { results := [.lit (.bool true)], args := [d] }
  | _ => none }
def blockRightsRow : OpenClaim := { program := "ytmpcnjjibfcfmaadoor", sum := "2e608e443a005f3195faba3f650218382028d323aff41986588a5e7ed1a11efa", func := "revetment/revetmentlaw.BlockRights", spec := "blockRights", inPlace := ["internal/bytealg.IndexByteString", "internal/bytealg.IndexString"], named := ["unicode/utf8.first", "unicode/utf8.acceptRanges", "internal/bytealg.MaxLen"], apart := false, laid := [("unicode/utf8.acceptRanges", laid_unicode_utf8_acceptRanges), ("unicode/utf8.first", laid_unicode_utf8_first)] }
def BlockRightsSaid : Prop := blockRightsRow.holds Tryd.pinned (OpenSpec.ofChange blockRightsSpec)

/-- ITS FALSE NEIGHBOUR: 'it returns false'. Refute it at one input. -/
def blockRightsWrong : ChangeSpec := { name := "blockRights", fn := fun _ => fun
  | [d] => { results := [.lit (.bool false)], args := [d] }
  | _ => none }
def BlockRightsWrongFalsely : Prop := blockRightsRow.holds Tryd.pinned (OpenSpec.ofChange blockRightsWrong)

/-- 'revetmentlaw.PathLeads': WHATEVER THE INPUT: true; the input reads as it did. -/
def pathLeadsSpec : ChangeSpec := { name := "pathLeads", fn := fun _ => fun
  | [d1, d2] => { results := [.lit (.bool true)], args := [d1, d2] }
  | _ => none }
def pathLeadsRow : OpenClaim := { program := "ytmpcnjjibfcfmaadoor", sum := "2e608e443a005f3195faba3f650218382028d323aff41986588a5e7ed1a11efa", func := "revetment/revetmentlaw.PathLeads", spec := "pathLeads", inPlace := ["internal/bytealg.CountString", "internal/bytealg.IndexByteString", "internal/bytealg.IndexString", "internal/abi.NoEscape", "internal/bytealg.MakeNoZero"], unfollowed := true, recurses := true, named := ["unicode/utf8.first", "unicode/utf8.acceptRanges", "internal/bytealg.MaxLen"], apart := false, laid := [("unicode/utf8.acceptRanges", laid_unicode_utf8_acceptRanges), ("unicode/utf8.first", laid_unicode_utf8_first)] }
def PathLeadsSaid : Prop := pathLeadsRow.holds Tryd.pinned (OpenSpec.ofChange pathLeadsSpec)

/-- ITS FALSE NEIGHBOUR: 'it returns false'. Refute it at one input. -/
def pathLeadsWrong : ChangeSpec := { name := "pathLeads", fn := fun _ => fun
  | [d1, d2] => { results := [.lit (.bool false)], args := [d1, d2] }
  | _ => none }
def PathLeadsWrongFalsely : Prop := pathLeadsRow.holds Tryd.pinned (OpenSpec.ofChange pathLeadsWrong)

/-- 'revetmentlaw.BlockWhole': WHATEVER THE INPUT: true; the input reads as it did. -/
def blockWholeSpec : ChangeSpec := { name := "blockWhole", fn := fun _ => fun
  | [d] => { results := [.lit (.bool true)], args := [d] }
  | _ => none }
def blockWholeRow : OpenClaim := { program := "ytmpcnjjibfcfmaadoor", sum := "2e608e443a005f3195faba3f650218382028d323aff41986588a5e7ed1a11efa", func := "revetment/revetmentlaw.BlockWhole", spec := "blockWhole", inPlace := ["internal/abi.NoEscape", "internal/bytealg.MakeNoZero", "internal/bytealg.IndexByteString", "internal/bytealg.IndexString"], named := ["unicode/utf8.first", "unicode/utf8.acceptRanges", "internal/bytealg.MaxLen"], apart := false, laid := [("unicode/utf8.acceptRanges", laid_unicode_utf8_acceptRanges), ("unicode/utf8.first", laid_unicode_utf8_first)] }
def BlockWholeSaid : Prop := blockWholeRow.holds Tryd.pinned (OpenSpec.ofChange blockWholeSpec)

/-- ITS FALSE NEIGHBOUR: 'it returns false'. Refute it at one input. -/
def blockWholeWrong : ChangeSpec := { name := "blockWhole", fn := fun _ => fun
  | [d] => { results := [.lit (.bool false)], args := [d] }
  | _ => none }
def BlockWholeWrongFalsely : Prop := blockWholeRow.holds Tryd.pinned (OpenSpec.ofChange blockWholeWrong)

/-- 'revetmentlaw.PathLinks': WHATEVER THE INPUT: true; the input reads as it did. -/
def pathLinksSpec : ChangeSpec := { name := "pathLinks", fn := fun _ => fun
  | [d1, d2] => { results := [.lit (.bool true)], args := [d1, d2] }
  | _ => none }
def pathLinksRow : OpenClaim := { program := "ytmpcnjjibfcfmaadoor", sum := "2e608e443a005f3195faba3f650218382028d323aff41986588a5e7ed1a11efa", func := "revetment/revetmentlaw.PathLinks", spec := "pathLinks", inPlace := ["internal/bytealg.IndexByteString", "internal/bytealg.CountString", "internal/bytealg.IndexString", "internal/abi.NoEscape", "internal/bytealg.MakeNoZero"], unfollowed := true, recurses := true, named := ["unicode/utf8.first", "unicode/utf8.acceptRanges", "internal/bytealg.MaxLen"], apart := false, laid := [("unicode/utf8.acceptRanges", laid_unicode_utf8_acceptRanges), ("unicode/utf8.first", laid_unicode_utf8_first)] }
def PathLinksSaid : Prop := pathLinksRow.holds Tryd.pinned (OpenSpec.ofChange pathLinksSpec)

/-- ITS FALSE NEIGHBOUR: 'it returns false'. Refute it at one input. -/
def pathLinksWrong : ChangeSpec := { name := "pathLinks", fn := fun _ => fun
  | [d1, d2] => { results := [.lit (.bool false)], args := [d1, d2] }
  | _ => none }
def PathLinksWrongFalsely : Prop := pathLinksRow.holds Tryd.pinned (OpenSpec.ofChange pathLinksWrong)

/-- 'revetmentlaw.HoleFinds': WHATEVER THE INPUT: true; the input reads as it did. -/
def holeFindsSpec : ChangeSpec := { name := "holeFinds", fn := fun _ => fun
  | [d1, d2] => { results := [.lit (.bool true)], args := [d1, d2] }
  | _ => none }
def holeFindsRow : OpenClaim := { program := "ytmpcnjjibfcfmaadoor", sum := "2e608e443a005f3195faba3f650218382028d323aff41986588a5e7ed1a11efa", func := "revetment/revetmentlaw.HoleFinds", spec := "holeFinds", inPlace := ["internal/bytealg.IndexByteString", "internal/bytealg.IndexString", "internal/reflectlite.ValueOf", "(internal/reflectlite.Value).Type", "(internal/reflectlite.Value).IsNil", "internal/reflectlite.TypeOf", "(internal/reflectlite.Value).Elem", "(internal/reflectlite.Value).Set"], unfollowed := true, recurses := true, named := ["unicode/utf8.first", "unicode/utf8.acceptRanges", "errors.errorType", "internal/bytealg.MaxLen"], apart := false, laid := [("unicode/utf8.acceptRanges", laid_unicode_utf8_acceptRanges), ("errors.errorType", laid_errors_errorType), ("unicode/utf8.first", laid_unicode_utf8_first)] }
def HoleFindsSaid : Prop := holeFindsRow.holds Tryd.pinned (OpenSpec.ofChange holeFindsSpec)

/-- ITS FALSE NEIGHBOUR: 'it returns false'. Refute it at one input. -/
def holeFindsWrong : ChangeSpec := { name := "holeFinds", fn := fun _ => fun
  | [d1, d2] => { results := [.lit (.bool false)], args := [d1, d2] }
  | _ => none }
def HoleFindsWrongFalsely : Prop := holeFindsRow.holds Tryd.pinned (OpenSpec.ofChange holeFindsWrong)

/-- 'revetmentlaw.NumberReads': WHATEVER THE INPUT: true; the input reads as it did. -/
def numberReadsSpec : ChangeSpec := { name := "numberReads", fn := fun _ => fun
  | [d] => { results := [.lit (.bool true)], args := [d] }
  | _ => none }
def numberReadsRow : OpenClaim := { program := "ytmpcnjjibfcfmaadoor", sum := "2e608e443a005f3195faba3f650218382028d323aff41986588a5e7ed1a11efa", func := "revetment/revetmentlaw.NumberReads", spec := "numberReads", inPlace := ["internal/bytealg.IndexByteString", "internal/bytealg.IndexString", "internal/reflectlite.ValueOf", "(internal/reflectlite.Value).Type", "(internal/reflectlite.Value).IsNil", "internal/reflectlite.TypeOf", "(internal/reflectlite.Value).Elem", "(internal/reflectlite.Value).Set"], unfollowed := true, recurses := true, named := ["unicode/utf8.first", "unicode/utf8.acceptRanges", "errors.errorType", "internal/bytealg.MaxLen"], apart := false, laid := [("unicode/utf8.acceptRanges", laid_unicode_utf8_acceptRanges), ("errors.errorType", laid_errors_errorType), ("unicode/utf8.first", laid_unicode_utf8_first)] }
def NumberReadsSaid : Prop := numberReadsRow.holds Tryd.pinned (OpenSpec.ofChange numberReadsSpec)

/-- ITS FALSE NEIGHBOUR: 'it returns false'. Refute it at one input. -/
def numberReadsWrong : ChangeSpec := { name := "numberReads", fn := fun _ => fun
  | [d] => { results := [.lit (.bool false)], args := [d] }
  | _ => none }
def NumberReadsWrongFalsely : Prop := numberReadsRow.holds Tryd.pinned (OpenSpec.ofChange numberReadsWrong)

/-- 'revetmentlaw.ModeReads': WHATEVER THE INPUT: true; the input reads as it did. -/
def modeReadsSpec : ChangeSpec := { name := "modeReads", fn := fun _ => fun
  | [d] => { results := [.lit (.bool true)], args := [d] }
  | _ => none }
def modeReadsRow : OpenClaim := { program := "ytmpcnjjibfcfmaadoor", sum := "2e608e443a005f3195faba3f650218382028d323aff41986588a5e7ed1a11efa", func := "revetment/revetmentlaw.ModeReads", spec := "modeReads", inPlace := ["internal/abi.NoEscape", "internal/bytealg.MakeNoZero", "internal/reflectlite.ValueOf", "(internal/reflectlite.Value).Type", "(internal/reflectlite.Value).IsNil", "internal/reflectlite.TypeOf", "(internal/reflectlite.Value).Elem", "(internal/reflectlite.Value).Set"], unfollowed := true, recurses := true, named := ["unicode/utf8.first", "unicode/utf8.acceptRanges", "unicode.CaseRanges", "errors.errorType"], apart := false, laid := [("unicode/utf8.acceptRanges", laid_unicode_utf8_acceptRanges), ("errors.errorType", laid_errors_errorType), ("unicode.CaseRanges", laid_unicode_CaseRanges), ("unicode/utf8.first", laid_unicode_utf8_first)] }
def ModeReadsSaid : Prop := modeReadsRow.holds Tryd.pinned (OpenSpec.ofChange modeReadsSpec)

/-- ITS FALSE NEIGHBOUR: 'it returns false'. Refute it at one input. -/
def modeReadsWrong : ChangeSpec := { name := "modeReads", fn := fun _ => fun
  | [d] => { results := [.lit (.bool false)], args := [d] }
  | _ => none }
def ModeReadsWrongFalsely : Prop := modeReadsRow.holds Tryd.pinned (OpenSpec.ofChange modeReadsWrong)

/- THE SECOND FORM. 'bulk': how many values and letters a reading holds, each counted each time it is reached (what is shared counts as often as it is met; a slice's spare places count too). A statement '..UptoSaid' is the law's where the arguments, and the package variables that the reading takes, are together of bulk at most 1048576: NARROWER than '..Said'. Prove '..Said' where nothing that the law and all that it calls make is longer than what came in: it says more and counts as full. Else prove '..UptoSaid'. A law counts once. -/
mutual
def uptoBulk {H : Type} : DataW H → Nat
  | .lit (.string bytes) => bytes.length + 1
  | .lit _ => 1
  | .nil => 1
  | .ptr d => uptoBulk d + 1
  | .slice elems spare => uptoBulkAll elems + uptoBulkAll spare + 1
  | .agg parts => uptoBulkAll parts + 1
  | .iface _ d => uptoBulk d + 1
  | .map entries => uptoBulkEntries entries + 1
  | .held _ => 1
def uptoBulkAll {H : Type} : List (DataW H) → Nat
  | [] => 0
  | d :: r => uptoBulk d + uptoBulkAll r
def uptoBulkEntries {H : Type} : List (Lit × DataW H) → Nat
  | [] => 0
  | x :: r => uptoBulkEntry x + uptoBulkEntries r
def uptoBulkEntry {H : Type} : Lit × DataW H → Nat
  | (.string bytes, d) => bytes.length + uptoBulk d + 1
  | (_, d) => uptoBulk d + 1
 end
def uptoSmall : (H : Type) → List (DataW H) → Bool := fun _ ds => decide (uptoBulkAll ds ≤ 1048576)
def OpenSpec.upto (s : _root_.Go.ChangeSpec) : _root_.Go.OpenSpec := { _root_.Go.OpenSpec.ofChange s with cond := some uptoSmall }

/-- 'revetmentlaw.ModeTexts', WHERE WHAT IT READS IS OF BULK AT MOST 1048576: true; the input reads as it did. -/
def modeTextsUptoRow : OpenClaim := { program := "ytmpcnjjibfcfmaadoor", sum := "2e608e443a005f3195faba3f650218382028d323aff41986588a5e7ed1a11efa", func := "revetment/revetmentlaw.ModeTexts", spec := "modeTexts", inPlace := ["internal/abi.NoEscape", "internal/bytealg.MakeNoZero"], unfollowed := true, recurses := true, named := ["unicode/utf8.first", "unicode/utf8.acceptRanges", "unicode.CaseRanges"], apart := false, laid := [("unicode/utf8.acceptRanges", laid_unicode_utf8_acceptRanges), ("unicode.CaseRanges", laid_unicode_CaseRanges), ("unicode/utf8.first", laid_unicode_utf8_first)], narrowed := true }
def ModeTextsUptoSaid : Prop := modeTextsUptoRow.holds Tryd.pinned (OpenSpec.upto modeTextsSpec)

/-- 'revetmentlaw.PathCleans', WHERE WHAT IT READS IS OF BULK AT MOST 1048576: true; the input reads as it did. -/
def pathCleansUptoRow : OpenClaim := { program := "ytmpcnjjibfcfmaadoor", sum := "2e608e443a005f3195faba3f650218382028d323aff41986588a5e7ed1a11efa", func := "revetment/revetmentlaw.PathCleans", spec := "pathCleans", inPlace := ["internal/bytealg.CountString", "internal/bytealg.IndexByteString", "internal/bytealg.IndexString", "internal/abi.NoEscape", "internal/bytealg.MakeNoZero"], unfollowed := true, recurses := true, named := ["unicode/utf8.first", "unicode/utf8.acceptRanges", "internal/bytealg.MaxLen"], apart := false, laid := [("unicode/utf8.acceptRanges", laid_unicode_utf8_acceptRanges), ("unicode/utf8.first", laid_unicode_utf8_first)], narrowed := true }
def PathCleansUptoSaid : Prop := pathCleansUptoRow.holds Tryd.pinned (OpenSpec.upto pathCleansSpec)

/-- 'revetmentlaw.PathRights', WHERE WHAT IT READS IS OF BULK AT MOST 1048576: true; the input reads as it did. -/
def pathRightsUptoRow : OpenClaim := { program := "ytmpcnjjibfcfmaadoor", sum := "2e608e443a005f3195faba3f650218382028d323aff41986588a5e7ed1a11efa", func := "revetment/revetmentlaw.PathRights", spec := "pathRights", inPlace := ["internal/bytealg.CountString", "internal/bytealg.IndexByteString", "internal/bytealg.IndexString", "internal/abi.NoEscape", "internal/bytealg.MakeNoZero"], unfollowed := true, recurses := true, named := ["unicode/utf8.first", "unicode/utf8.acceptRanges", "internal/bytealg.MaxLen"], apart := false, laid := [("unicode/utf8.acceptRanges", laid_unicode_utf8_acceptRanges), ("unicode/utf8.first", laid_unicode_utf8_first)], narrowed := true }
def PathRightsUptoSaid : Prop := pathRightsUptoRow.holds Tryd.pinned (OpenSpec.upto pathRightsSpec)

/-- 'revetmentlaw.HoleLays', WHERE WHAT IT READS IS OF BULK AT MOST 1048576: true; the input reads as it did. -/
def holeLaysUptoRow : OpenClaim := { program := "ytmpcnjjibfcfmaadoor", sum := "2e608e443a005f3195faba3f650218382028d323aff41986588a5e7ed1a11efa", func := "revetment/revetmentlaw.HoleLays", spec := "holeLays", inPlace := ["internal/abi.NoEscape", "internal/bytealg.MakeNoZero", "internal/reflectlite.ValueOf", "(internal/reflectlite.Value).Type", "(internal/reflectlite.Value).IsNil", "internal/reflectlite.TypeOf", "(internal/reflectlite.Value).Elem", "(internal/reflectlite.Value).Set"], unfollowed := true, recurses := true, named := ["errors.errorType"], apart := false, laid := [("errors.errorType", laid_errors_errorType)], narrowed := true }
def HoleLaysUptoSaid : Prop := holeLaysUptoRow.holds Tryd.pinned (OpenSpec.upto holeLaysSpec)

/-- 'revetmentlaw.AlterLasts', WHERE WHAT IT READS IS OF BULK AT MOST 1048576: true; the input reads as it did. -/
def alterLastsUptoRow : OpenClaim := { program := "ytmpcnjjibfcfmaadoor", sum := "2e608e443a005f3195faba3f650218382028d323aff41986588a5e7ed1a11efa", func := "revetment/revetmentlaw.AlterLasts", spec := "alterLasts", inPlace := ["internal/bytealg.CountString", "internal/bytealg.IndexByteString", "internal/bytealg.IndexString", "internal/abi.NoEscape", "internal/bytealg.MakeNoZero"], unfollowed := true, recurses := true, named := ["unicode/utf8.first", "unicode/utf8.acceptRanges", "internal/bytealg.MaxLen"], apart := false, laid := [("unicode/utf8.acceptRanges", laid_unicode_utf8_acceptRanges), ("unicode/utf8.first", laid_unicode_utf8_first)], narrowed := true }
def AlterLastsUptoSaid : Prop := alterLastsUptoRow.holds Tryd.pinned (OpenSpec.upto alterLastsSpec)

/-- 'revetmentlaw.BlockRights', WHERE WHAT IT READS IS OF BULK AT MOST 1048576: true; the input reads as it did. -/
def blockRightsUptoRow : OpenClaim := { program := "ytmpcnjjibfcfmaadoor", sum := "2e608e443a005f3195faba3f650218382028d323aff41986588a5e7ed1a11efa", func := "revetment/revetmentlaw.BlockRights", spec := "blockRights", inPlace := ["internal/bytealg.IndexByteString", "internal/bytealg.IndexString"], named := ["unicode/utf8.first", "unicode/utf8.acceptRanges", "internal/bytealg.MaxLen"], apart := false, laid := [("unicode/utf8.acceptRanges", laid_unicode_utf8_acceptRanges), ("unicode/utf8.first", laid_unicode_utf8_first)], narrowed := true }
def BlockRightsUptoSaid : Prop := blockRightsUptoRow.holds Tryd.pinned (OpenSpec.upto blockRightsSpec)

/-- 'revetmentlaw.PathLeads', WHERE WHAT IT READS IS OF BULK AT MOST 1048576: true; the input reads as it did. -/
def pathLeadsUptoRow : OpenClaim := { program := "ytmpcnjjibfcfmaadoor", sum := "2e608e443a005f3195faba3f650218382028d323aff41986588a5e7ed1a11efa", func := "revetment/revetmentlaw.PathLeads", spec := "pathLeads", inPlace := ["internal/bytealg.CountString", "internal/bytealg.IndexByteString", "internal/bytealg.IndexString", "internal/abi.NoEscape", "internal/bytealg.MakeNoZero"], unfollowed := true, recurses := true, named := ["unicode/utf8.first", "unicode/utf8.acceptRanges", "internal/bytealg.MaxLen"], apart := false, laid := [("unicode/utf8.acceptRanges", laid_unicode_utf8_acceptRanges), ("unicode/utf8.first", laid_unicode_utf8_first)], narrowed := true }
def PathLeadsUptoSaid : Prop := pathLeadsUptoRow.holds Tryd.pinned (OpenSpec.upto pathLeadsSpec)

/-- 'revetmentlaw.BlockWhole', WHERE WHAT IT READS IS OF BULK AT MOST 1048576: true; the input reads as it did. -/
def blockWholeUptoRow : OpenClaim := { program := "ytmpcnjjibfcfmaadoor", sum := "2e608e443a005f3195faba3f650218382028d323aff41986588a5e7ed1a11efa", func := "revetment/revetmentlaw.BlockWhole", spec := "blockWhole", inPlace := ["internal/abi.NoEscape", "internal/bytealg.MakeNoZero", "internal/bytealg.IndexByteString", "internal/bytealg.IndexString"], named := ["unicode/utf8.first", "unicode/utf8.acceptRanges", "internal/bytealg.MaxLen"], apart := false, laid := [("unicode/utf8.acceptRanges", laid_unicode_utf8_acceptRanges), ("unicode/utf8.first", laid_unicode_utf8_first)], narrowed := true }
def BlockWholeUptoSaid : Prop := blockWholeUptoRow.holds Tryd.pinned (OpenSpec.upto blockWholeSpec)

/-- 'revetmentlaw.PathLinks', WHERE WHAT IT READS IS OF BULK AT MOST 1048576: true; the input reads as it did. -/
def pathLinksUptoRow : OpenClaim := { program := "ytmpcnjjibfcfmaadoor", sum := "2e608e443a005f3195faba3f650218382028d323aff41986588a5e7ed1a11efa", func := "revetment/revetmentlaw.PathLinks", spec := "pathLinks", inPlace := ["internal/bytealg.IndexByteString", "internal/bytealg.CountString", "internal/bytealg.IndexString", "internal/abi.NoEscape", "internal/bytealg.MakeNoZero"], unfollowed := true, recurses := true, named := ["unicode/utf8.first", "unicode/utf8.acceptRanges", "internal/bytealg.MaxLen"], apart := false, laid := [("unicode/utf8.acceptRanges", laid_unicode_utf8_acceptRanges), ("unicode/utf8.first", laid_unicode_utf8_first)], narrowed := true }
def PathLinksUptoSaid : Prop := pathLinksUptoRow.holds Tryd.pinned (OpenSpec.upto pathLinksSpec)

/-- 'revetmentlaw.HoleFinds', WHERE WHAT IT READS IS OF BULK AT MOST 1048576: true; the input reads as it did. -/
def holeFindsUptoRow : OpenClaim := { program := "ytmpcnjjibfcfmaadoor", sum := "2e608e443a005f3195faba3f650218382028d323aff41986588a5e7ed1a11efa", func := "revetment/revetmentlaw.HoleFinds", spec := "holeFinds", inPlace := ["internal/bytealg.IndexByteString", "internal/bytealg.IndexString", "internal/reflectlite.ValueOf", "(internal/reflectlite.Value).Type", "(internal/reflectlite.Value).IsNil", "internal/reflectlite.TypeOf", "(internal/reflectlite.Value).Elem", "(internal/reflectlite.Value).Set"], unfollowed := true, recurses := true, named := ["unicode/utf8.first", "unicode/utf8.acceptRanges", "errors.errorType", "internal/bytealg.MaxLen"], apart := false, laid := [("unicode/utf8.acceptRanges", laid_unicode_utf8_acceptRanges), ("errors.errorType", laid_errors_errorType), ("unicode/utf8.first", laid_unicode_utf8_first)], narrowed := true }
def HoleFindsUptoSaid : Prop := holeFindsUptoRow.holds Tryd.pinned (OpenSpec.upto holeFindsSpec)

/-- 'revetmentlaw.NumberReads', WHERE WHAT IT READS IS OF BULK AT MOST 1048576: true; the input reads as it did. -/
def numberReadsUptoRow : OpenClaim := { program := "ytmpcnjjibfcfmaadoor", sum := "2e608e443a005f3195faba3f650218382028d323aff41986588a5e7ed1a11efa", func := "revetment/revetmentlaw.NumberReads", spec := "numberReads", inPlace := ["internal/bytealg.IndexByteString", "internal/bytealg.IndexString", "internal/reflectlite.ValueOf", "(internal/reflectlite.Value).Type", "(internal/reflectlite.Value).IsNil", "internal/reflectlite.TypeOf", "(internal/reflectlite.Value).Elem", "(internal/reflectlite.Value).Set"], unfollowed := true, recurses := true, named := ["unicode/utf8.first", "unicode/utf8.acceptRanges", "errors.errorType", "internal/bytealg.MaxLen"], apart := false, laid := [("unicode/utf8.acceptRanges", laid_unicode_utf8_acceptRanges), ("errors.errorType", laid_errors_errorType), ("unicode/utf8.first", laid_unicode_utf8_first)], narrowed := true }
def NumberReadsUptoSaid : Prop := numberReadsUptoRow.holds Tryd.pinned (OpenSpec.upto numberReadsSpec)

/-- 'revetmentlaw.ModeReads', WHERE WHAT IT READS IS OF BULK AT MOST 1048576: true; the input reads as it did. -/
def modeReadsUptoRow : OpenClaim := { program := "ytmpcnjjibfcfmaadoor", sum := "2e608e443a005f3195faba3f650218382028d323aff41986588a5e7ed1a11efa", func := "revetment/revetmentlaw.ModeReads", spec := "modeReads", inPlace := ["internal/abi.NoEscape", "internal/bytealg.MakeNoZero", "internal/reflectlite.ValueOf", "(internal/reflectlite.Value).Type", "(internal/reflectlite.Value).IsNil", "internal/reflectlite.TypeOf", "(internal/reflectlite.Value).Elem", "(internal/reflectlite.Value).Set"], unfollowed := true, recurses := true, named := ["unicode/utf8.first", "unicode/utf8.acceptRanges", "unicode.CaseRanges", "errors.errorType"], apart := false, laid := [("unicode/utf8.acceptRanges", laid_unicode_utf8_acceptRanges), ("errors.errorType", laid_errors_errorType), ("unicode.CaseRanges", laid_unicode_CaseRanges), ("unicode/utf8.first", laid_unicode_utf8_first)], narrowed := true }
def ModeReadsUptoSaid : Prop := modeReadsUptoRow.holds Tryd.pinned (OpenSpec.upto modeReadsSpec)

end Rows
end Go.Proofs.YtmpcnjjibfcfmaaDoor
