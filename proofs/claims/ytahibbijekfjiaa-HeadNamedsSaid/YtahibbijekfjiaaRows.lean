/-
  No cell of these rows narrows 'for every input' (looked for: loops, veiled, ifaces, maps, wideKeys, modest, calm, conditions, laid).
  DERIVED. THE GIVEN ROWS OF THIS SEAT. 12 by the template 'for every input the law returns true; each argument reads behind the call as it read before'; 0 by the template 'total and deterministic' (their statements: YtahibbijekfjiaaTotals.lean).
  GIVEN WITH THE SEED: the statements are not yours to turn. If you find one false, say at which input.
  Laid BY PROGRAM, IN A SANDBOX (cutbox-rows.mjs): the forced cells as the released guide's own fill.sh prints them over the translation e29cbfbd2b623a95… (all of the seat's roots in one cut). By AI agents, Wed Nov 11 2026. No macro, syntax, notation, axiom, sorry.
-/
import Derived.Test.YtahibbijekfjiaaChecked
import GoSem.Claim
import GoSem.ClaimJoined
import GoSem.ClaimMapViews
import Derived.JoinedTies
import Derived.KernelRfl
namespace Go.Proofs.Ytahibbijekfjiaa
/- THE CELL 'sum', in the pinned program and in every row, IS THE sha256 OF THE DUMP (.gsa) THAT YtahibbijekfjiaaProg.lean LOADS. Nothing in Lean hashes anything: it is a label: what it is worth is what the hold of that sum in a sandbox is worth. -/
noncomputable def Try.pinned : Pinned := { name := "ytahibbijekfjiaa", sum := "e29cbfbd2b623a95995112a503769237dd1c036c34e7bba181206532b957d408", checked := Try.checked }
namespace Rows
def none {H : Type} : Left H := { results := [], args := [] }

/-- 'revetmentlaw.StampBefore': WHATEVER THE INPUT: true; the input reads as it did. -/
def stampBeforeSpec : ChangeSpec := { name := "stampBefore", fn := fun _ => fun
  | [d1, d2] => { results := [.lit (.bool true)], args := [d1, d2] }
  | _ => none }
def stampBeforeRow : OpenClaim := { program := "ytahibbijekfjiaa", sum := "e29cbfbd2b623a95995112a503769237dd1c036c34e7bba181206532b957d408", func := "revetment/revetmentlaw.StampBefore", spec := "stampBefore", apart := false }
def StampBeforeSaid : Prop := stampBeforeRow.holds Try.pinned (OpenSpec.ofChange stampBeforeSpec)

/-- ITS FALSE NEIGHBOUR: 'it returns false'. Refute it at one input. -/
def stampBeforeWrong : ChangeSpec := { name := "stampBefore", fn := fun _ => fun
  | [d1, d2] => { results := [.lit (.bool false)], args := [d1, d2] }
  | _ => none }
def StampBeforeWrongFalsely : Prop := stampBeforeRow.holds Try.pinned (OpenSpec.ofChange stampBeforeWrong)

/-- 'revetmentlaw.StampRights': WHATEVER THE INPUT: true; the input reads as it did. -/
def stampRightsSpec : ChangeSpec := { name := "stampRights", fn := fun _ => fun
  | [d] => { results := [.lit (.bool true)], args := [d] }
  | _ => none }
def stampRightsRow : OpenClaim := { program := "ytahibbijekfjiaa", sum := "e29cbfbd2b623a95995112a503769237dd1c036c34e7bba181206532b957d408", func := "revetment/revetmentlaw.StampRights", spec := "stampRights", apart := false }
def StampRightsSaid : Prop := stampRightsRow.holds Try.pinned (OpenSpec.ofChange stampRightsSpec)

/-- ITS FALSE NEIGHBOUR: 'it returns false'. Refute it at one input. -/
def stampRightsWrong : ChangeSpec := { name := "stampRights", fn := fun _ => fun
  | [d] => { results := [.lit (.bool false)], args := [d] }
  | _ => none }
def StampRightsWrongFalsely : Prop := stampRightsRow.holds Try.pinned (OpenSpec.ofChange stampRightsWrong)

/-- 'revetmentlaw.BlockPads': WHATEVER THE INPUT: true; the input reads as it did. -/
def blockPadsSpec : ChangeSpec := { name := "blockPads", fn := fun _ => fun
  | [d] => { results := [.lit (.bool true)], args := [d] }
  | _ => none }
def blockPadsRow : OpenClaim := { program := "ytahibbijekfjiaa", sum := "e29cbfbd2b623a95995112a503769237dd1c036c34e7bba181206532b957d408", func := "revetment/revetmentlaw.BlockPads", spec := "blockPads", apart := false }
def BlockPadsSaid : Prop := blockPadsRow.holds Try.pinned (OpenSpec.ofChange blockPadsSpec)

/-- ITS FALSE NEIGHBOUR: 'it returns false'. Refute it at one input. -/
def blockPadsWrong : ChangeSpec := { name := "blockPads", fn := fun _ => fun
  | [d] => { results := [.lit (.bool false)], args := [d] }
  | _ => none }
def BlockPadsWrongFalsely : Prop := blockPadsRow.holds Try.pinned (OpenSpec.ofChange blockPadsWrong)

/-- 'revetmentlaw.HeadFulls': WHATEVER THE INPUT: true; the input reads as it did. -/
def headFullsSpec : ChangeSpec := { name := "headFulls", fn := fun _ => fun
  | [d] => { results := [.lit (.bool true)], args := [d] }
  | _ => none }
def headFullsRow : OpenClaim := { program := "ytahibbijekfjiaa", sum := "e29cbfbd2b623a95995112a503769237dd1c036c34e7bba181206532b957d408", func := "revetment/revetmentlaw.HeadFulls", spec := "headFulls", apart := false }
def HeadFullsSaid : Prop := headFullsRow.holds Try.pinned (OpenSpec.ofChange headFullsSpec)

/-- ITS FALSE NEIGHBOUR: 'it returns false'. Refute it at one input. -/
def headFullsWrong : ChangeSpec := { name := "headFulls", fn := fun _ => fun
  | [d] => { results := [.lit (.bool false)], args := [d] }
  | _ => none }
def HeadFullsWrongFalsely : Prop := headFullsRow.holds Try.pinned (OpenSpec.ofChange headFullsWrong)

/-- 'revetmentlaw.PathIns': WHATEVER THE INPUT: true; the input reads as it did. -/
def pathInsSpec : ChangeSpec := { name := "pathIns", fn := fun _ => fun
  | [d1, d2] => { results := [.lit (.bool true)], args := [d1, d2] }
  | _ => none }
def pathInsRow : OpenClaim := { program := "ytahibbijekfjiaa", sum := "e29cbfbd2b623a95995112a503769237dd1c036c34e7bba181206532b957d408", func := "revetment/revetmentlaw.PathIns", spec := "pathIns", apart := false }
def PathInsSaid : Prop := pathInsRow.holds Try.pinned (OpenSpec.ofChange pathInsSpec)

/-- ITS FALSE NEIGHBOUR: 'it returns false'. Refute it at one input. -/
def pathInsWrong : ChangeSpec := { name := "pathIns", fn := fun _ => fun
  | [d1, d2] => { results := [.lit (.bool false)], args := [d1, d2] }
  | _ => none }
def PathInsWrongFalsely : Prop := pathInsRow.holds Try.pinned (OpenSpec.ofChange pathInsWrong)

/-- 'revetmentlaw.NumberMost': WHATEVER THE INPUT: true; the input reads as it did. -/
def numberMostSpec : ChangeSpec := { name := "numberMost", fn := fun _ => fun
  | [d] => { results := [.lit (.bool true)], args := [d] }
  | _ => none }
def numberMostRow : OpenClaim := { program := "ytahibbijekfjiaa", sum := "e29cbfbd2b623a95995112a503769237dd1c036c34e7bba181206532b957d408", func := "revetment/revetmentlaw.NumberMost", spec := "numberMost", apart := false }
def NumberMostSaid : Prop := numberMostRow.holds Try.pinned (OpenSpec.ofChange numberMostSpec)

/-- ITS FALSE NEIGHBOUR: 'it returns false'. Refute it at one input. -/
def numberMostWrong : ChangeSpec := { name := "numberMost", fn := fun _ => fun
  | [d] => { results := [.lit (.bool false)], args := [d] }
  | _ => none }
def NumberMostWrongFalsely : Prop := numberMostRow.holds Try.pinned (OpenSpec.ofChange numberMostWrong)

/-- 'revetmentlaw.PathHalves': WHATEVER THE INPUT: true; the input reads as it did. -/
def pathHalvesSpec : ChangeSpec := { name := "pathHalves", fn := fun _ => fun
  | [d] => { results := [.lit (.bool true)], args := [d] }
  | _ => none }
def pathHalvesRow : OpenClaim := { program := "ytahibbijekfjiaa", sum := "e29cbfbd2b623a95995112a503769237dd1c036c34e7bba181206532b957d408", func := "revetment/revetmentlaw.PathHalves", spec := "pathHalves", apart := false }
def PathHalvesSaid : Prop := pathHalvesRow.holds Try.pinned (OpenSpec.ofChange pathHalvesSpec)

/-- ITS FALSE NEIGHBOUR: 'it returns false'. Refute it at one input. -/
def pathHalvesWrong : ChangeSpec := { name := "pathHalves", fn := fun _ => fun
  | [d] => { results := [.lit (.bool false)], args := [d] }
  | _ => none }
def PathHalvesWrongFalsely : Prop := pathHalvesRow.holds Try.pinned (OpenSpec.ofChange pathHalvesWrong)

/-- 'revetmentlaw.ShowSums': WHATEVER THE INPUT: true; the input reads as it did. -/
def showSumsSpec : ChangeSpec := { name := "showSums", fn := fun _ => fun
  | [d] => { results := [.lit (.bool true)], args := [d] }
  | _ => none }
def showSumsRow : OpenClaim := { program := "ytahibbijekfjiaa", sum := "e29cbfbd2b623a95995112a503769237dd1c036c34e7bba181206532b957d408", func := "revetment/revetmentlaw.ShowSums", spec := "showSums", apart := false }
def ShowSumsSaid : Prop := showSumsRow.holds Try.pinned (OpenSpec.ofChange showSumsSpec)

/-- ITS FALSE NEIGHBOUR: 'it returns false'. Refute it at one input. -/
def showSumsWrong : ChangeSpec := { name := "showSums", fn := fun _ => fun
  | [d] => { results := [.lit (.bool false)], args := [d] }
  | _ => none }
def ShowSumsWrongFalsely : Prop := showSumsRow.holds Try.pinned (OpenSpec.ofChange showSumsWrong)

/-- 'revetmentlaw.PathUps': WHATEVER THE INPUT: true; the input reads as it did. -/
def pathUpsSpec : ChangeSpec := { name := "pathUps", fn := fun _ => fun
  | [d] => { results := [.lit (.bool true)], args := [d] }
  | _ => none }
def pathUpsRow : OpenClaim := { program := "ytahibbijekfjiaa", sum := "e29cbfbd2b623a95995112a503769237dd1c036c34e7bba181206532b957d408", func := "revetment/revetmentlaw.PathUps", spec := "pathUps", apart := false }
def PathUpsSaid : Prop := pathUpsRow.holds Try.pinned (OpenSpec.ofChange pathUpsSpec)

/-- ITS FALSE NEIGHBOUR: 'it returns false'. Refute it at one input. -/
def pathUpsWrong : ChangeSpec := { name := "pathUps", fn := fun _ => fun
  | [d] => { results := [.lit (.bool false)], args := [d] }
  | _ => none }
def PathUpsWrongFalsely : Prop := pathUpsRow.holds Try.pinned (OpenSpec.ofChange pathUpsWrong)

/-- 'revetmentlaw.PaxGets': WHATEVER THE INPUT: true; the input reads as it did. -/
def paxGetsSpec : ChangeSpec := { name := "paxGets", fn := fun _ => fun
  | [d1, d2] => { results := [.lit (.bool true)], args := [d1, d2] }
  | _ => none }
def paxGetsRow : OpenClaim := { program := "ytahibbijekfjiaa", sum := "e29cbfbd2b623a95995112a503769237dd1c036c34e7bba181206532b957d408", func := "revetment/revetmentlaw.PaxGets", spec := "paxGets", unfollowed := true, recurses := true, apart := false }
def PaxGetsSaid : Prop := paxGetsRow.holds Try.pinned (OpenSpec.ofChange paxGetsSpec)

/-- ITS FALSE NEIGHBOUR: 'it returns false'. Refute it at one input. -/
def paxGetsWrong : ChangeSpec := { name := "paxGets", fn := fun _ => fun
  | [d1, d2] => { results := [.lit (.bool false)], args := [d1, d2] }
  | _ => none }
def PaxGetsWrongFalsely : Prop := paxGetsRow.holds Try.pinned (OpenSpec.ofChange paxGetsWrong)

/-- 'revetmentlaw.HeadNameds': WHATEVER THE INPUT: true; the input reads as it did. -/
def headNamedsSpec : ChangeSpec := { name := "headNameds", fn := fun _ => fun
  | [d1, d2, d3] => { results := [.lit (.bool true)], args := [d1, d2, d3] }
  | _ => none }
def headNamedsRow : OpenClaim := { program := "ytahibbijekfjiaa", sum := "e29cbfbd2b623a95995112a503769237dd1c036c34e7bba181206532b957d408", func := "revetment/revetmentlaw.HeadNameds", spec := "headNameds", apart := false }
def HeadNamedsSaid : Prop := headNamedsRow.holds Try.pinned (OpenSpec.ofChange headNamedsSpec)

/-- ITS FALSE NEIGHBOUR: 'it returns false'. Refute it at one input. -/
def headNamedsWrong : ChangeSpec := { name := "headNameds", fn := fun _ => fun
  | [d1, d2, d3] => { results := [.lit (.bool false)], args := [d1, d2, d3] }
  | _ => none }
def HeadNamedsWrongFalsely : Prop := headNamedsRow.holds Try.pinned (OpenSpec.ofChange headNamedsWrong)

/-- 'revetmentlaw.HoleRights': WHATEVER THE INPUT: true; the input reads as it did. -/
def holeRightsSpec : ChangeSpec := { name := "holeRights", fn := fun _ => fun
  | [d1, d2] => { results := [.lit (.bool true)], args := [d1, d2] }
  | _ => none }
def holeRightsRow : OpenClaim := { program := "ytahibbijekfjiaa", sum := "e29cbfbd2b623a95995112a503769237dd1c036c34e7bba181206532b957d408", func := "revetment/revetmentlaw.HoleRights", spec := "holeRights", apart := false }
def HoleRightsSaid : Prop := holeRightsRow.holds Try.pinned (OpenSpec.ofChange holeRightsSpec)

/-- ITS FALSE NEIGHBOUR: 'it returns false'. Refute it at one input. -/
def holeRightsWrong : ChangeSpec := { name := "holeRights", fn := fun _ => fun
  | [d1, d2] => { results := [.lit (.bool false)], args := [d1, d2] }
  | _ => none }
def HoleRightsWrongFalsely : Prop := holeRightsRow.holds Try.pinned (OpenSpec.ofChange holeRightsWrong)

/- THE SECOND FORM. 'bulk': how many values and letters a reading holds, each counted each time it is reached (what is shared counts as often as it is met; a slice's spare places count too). A statement '..UptoSaid' is the law's where the arguments, and the package variables that the reading takes, are together of bulk at most 1048576: NARROWER than '..Said'. Prove '..Said' where nothing that the law and all that it calls make is longer than what came in: it says more and counts as full. Else prove '..UptoSaid'. A law counts once. -/
mutual
def uptoBulk {H : Type} : DataW H → Nat
  | .lit (.string bytes) => bytes.length + 1
  | .lit _ => 1
  | .nil => 1
  | .ptr d => uptoBulk d + 1
  | .slice elems spare => uptoBulkAll elems + uptoBulkAll spare + 1
  | .agg parts => uptoBulkAll parts + 1
  | .iface _ d => uptoBulk d + 1
  | .map entries => uptoBulkEntries entries + 1
  | .held _ => 1
def uptoBulkAll {H : Type} : List (DataW H) → Nat
  | [] => 0
  | d :: r => uptoBulk d + uptoBulkAll r
def uptoBulkEntries {H : Type} : List (Lit × DataW H) → Nat
  | [] => 0
  | x :: r => uptoBulkEntry x + uptoBulkEntries r
def uptoBulkEntry {H : Type} : Lit × DataW H → Nat
  | (.string bytes, d) => bytes.length + uptoBulk d + 1
  | (_, d) => uptoBulk d + 1
 end
def uptoSmall : (H : Type) → List (DataW H) → Bool := fun _ ds => decide (uptoBulkAll ds ≤ 1048576)
def OpenSpec.upto (s : _root_.Go.ChangeSpec) : _root_.Go.OpenSpec := { _root_.Go.OpenSpec.ofChange s with cond := some uptoSmall }

/-- 'revetmentlaw.StampBefore', WHERE WHAT IT READS IS OF BULK AT MOST 1048576: true; the input reads as it did. -/
def stampBeforeUptoRow : OpenClaim := { program := "ytahibbijekfjiaa", sum := "e29cbfbd2b623a95995112a503769237dd1c036c34e7bba181206532b957d408", func := "revetment/revetmentlaw.StampBefore", spec := "stampBefore", apart := false, narrowed := true }
def StampBeforeUptoSaid : Prop := stampBeforeUptoRow.holds Try.pinned (OpenSpec.upto stampBeforeSpec)

/-- 'revetmentlaw.StampRights', WHERE WHAT IT READS IS OF BULK AT MOST 1048576: true; the input reads as it did. -/
def stampRightsUptoRow : OpenClaim := { program := "ytahibbijekfjiaa", sum := "e29cbfbd2b623a95995112a503769237dd1c036c34e7bba181206532b957d408", func := "revetment/revetmentlaw.StampRights", spec := "stampRights", apart := false, narrowed := true }
def StampRightsUptoSaid : Prop := stampRightsUptoRow.holds Try.pinned (OpenSpec.upto stampRightsSpec)

/-- 'revetmentlaw.BlockPads', WHERE WHAT IT READS IS OF BULK AT MOST 1048576: true; the input reads as it did. -/
def blockPadsUptoRow : OpenClaim := { program := "ytahibbijekfjiaa", sum := "e29cbfbd2b623a95995112a503769237dd1c036c34e7bba181206532b957d408", func := "revetment/revetmentlaw.BlockPads", spec := "blockPads", apart := false, narrowed := true }
def BlockPadsUptoSaid : Prop := blockPadsUptoRow.holds Try.pinned (OpenSpec.upto blockPadsSpec)

/-- 'revetmentlaw.HeadFulls', WHERE WHAT IT READS IS OF BULK AT MOST 1048576: true; the input reads as it did. -/
def headFullsUptoRow : OpenClaim := { program := "ytahibbijekfjiaa", sum := "e29cbfbd2b623a95995112a503769237dd1c036c34e7bba181206532b957d408", func := "revetment/revetmentlaw.HeadFulls", spec := "headFulls", apart := false, narrowed := true }
def HeadFullsUptoSaid : Prop := headFullsUptoRow.holds Try.pinned (OpenSpec.upto headFullsSpec)

/-- 'revetmentlaw.PathIns', WHERE WHAT IT READS IS OF BULK AT MOST 1048576: true; the input reads as it did. -/
def pathInsUptoRow : OpenClaim := { program := "ytahibbijekfjiaa", sum := "e29cbfbd2b623a95995112a503769237dd1c036c34e7bba181206532b957d408", func := "revetment/revetmentlaw.PathIns", spec := "pathIns", apart := false, narrowed := true }
def PathInsUptoSaid : Prop := pathInsUptoRow.holds Try.pinned (OpenSpec.upto pathInsSpec)

/-- 'revetmentlaw.NumberMost', WHERE WHAT IT READS IS OF BULK AT MOST 1048576: true; the input reads as it did. -/
def numberMostUptoRow : OpenClaim := { program := "ytahibbijekfjiaa", sum := "e29cbfbd2b623a95995112a503769237dd1c036c34e7bba181206532b957d408", func := "revetment/revetmentlaw.NumberMost", spec := "numberMost", apart := false, narrowed := true }
def NumberMostUptoSaid : Prop := numberMostUptoRow.holds Try.pinned (OpenSpec.upto numberMostSpec)

/-- 'revetmentlaw.PathHalves', WHERE WHAT IT READS IS OF BULK AT MOST 1048576: true; the input reads as it did. -/
def pathHalvesUptoRow : OpenClaim := { program := "ytahibbijekfjiaa", sum := "e29cbfbd2b623a95995112a503769237dd1c036c34e7bba181206532b957d408", func := "revetment/revetmentlaw.PathHalves", spec := "pathHalves", apart := false, narrowed := true }
def PathHalvesUptoSaid : Prop := pathHalvesUptoRow.holds Try.pinned (OpenSpec.upto pathHalvesSpec)

/-- 'revetmentlaw.ShowSums', WHERE WHAT IT READS IS OF BULK AT MOST 1048576: true; the input reads as it did. -/
def showSumsUptoRow : OpenClaim := { program := "ytahibbijekfjiaa", sum := "e29cbfbd2b623a95995112a503769237dd1c036c34e7bba181206532b957d408", func := "revetment/revetmentlaw.ShowSums", spec := "showSums", apart := false, narrowed := true }
def ShowSumsUptoSaid : Prop := showSumsUptoRow.holds Try.pinned (OpenSpec.upto showSumsSpec)

/-- 'revetmentlaw.PathUps', WHERE WHAT IT READS IS OF BULK AT MOST 1048576: true; the input reads as it did. -/
def pathUpsUptoRow : OpenClaim := { program := "ytahibbijekfjiaa", sum := "e29cbfbd2b623a95995112a503769237dd1c036c34e7bba181206532b957d408", func := "revetment/revetmentlaw.PathUps", spec := "pathUps", apart := false, narrowed := true }
def PathUpsUptoSaid : Prop := pathUpsUptoRow.holds Try.pinned (OpenSpec.upto pathUpsSpec)

/-- 'revetmentlaw.PaxGets', WHERE WHAT IT READS IS OF BULK AT MOST 1048576: true; the input reads as it did. -/
def paxGetsUptoRow : OpenClaim := { program := "ytahibbijekfjiaa", sum := "e29cbfbd2b623a95995112a503769237dd1c036c34e7bba181206532b957d408", func := "revetment/revetmentlaw.PaxGets", spec := "paxGets", unfollowed := true, recurses := true, apart := false, narrowed := true }
def PaxGetsUptoSaid : Prop := paxGetsUptoRow.holds Try.pinned (OpenSpec.upto paxGetsSpec)

/-- 'revetmentlaw.HeadNameds', WHERE WHAT IT READS IS OF BULK AT MOST 1048576: true; the input reads as it did. -/
def headNamedsUptoRow : OpenClaim := { program := "ytahibbijekfjiaa", sum := "e29cbfbd2b623a95995112a503769237dd1c036c34e7bba181206532b957d408", func := "revetment/revetmentlaw.HeadNameds", spec := "headNameds", apart := false, narrowed := true }
def HeadNamedsUptoSaid : Prop := headNamedsUptoRow.holds Try.pinned (OpenSpec.upto headNamedsSpec)

/-- 'revetmentlaw.HoleRights', WHERE WHAT IT READS IS OF BULK AT MOST 1048576: true; the input reads as it did. -/
def holeRightsUptoRow : OpenClaim := { program := "ytahibbijekfjiaa", sum := "e29cbfbd2b623a95995112a503769237dd1c036c34e7bba181206532b957d408", func := "revetment/revetmentlaw.HoleRights", spec := "holeRights", apart := false, narrowed := true }
def HoleRightsUptoSaid : Prop := holeRightsUptoRow.holds Try.pinned (OpenSpec.upto holeRightsSpec)

end Rows
end Go.Proofs.Ytahibbijekfjiaa
