/-
  No cell of these rows narrows 'for every input' (looked for: loops, veiled, ifaces, maps, wideKeys, modest, calm, conditions, laid).
  DERIVED. THE GIVEN ROWS OF THIS SEAT. 12 by the template 'for every input the law returns true; each argument reads behind the call as it read before'; 0 by the template 'total and deterministic' (their statements: YtmkncbddjnaklaaTotals.lean).
  GIVEN WITH THE SEED: the statements are not yours to turn. If you find one false, say at which input.
  Laid BY PROGRAM, IN A SANDBOX (cutbox-rows.mjs): the forced cells as the released guide's own fill.sh prints them over the translation 7752a31c9ddd4e6d… (all of the seat's roots in one cut). By AI agents, Wed Nov 11 2026. No macro, syntax, notation, axiom, sorry.
-/
import Derived.Test.YtmkncbddjnaklaaChecked
import GoSem.Claim
import GoSem.ClaimJoined
import GoSem.ClaimMapViews
import Derived.JoinedTies
import Derived.KernelRfl
namespace Go.Proofs.Ytmkncbddjnaklaa
/- THE CELL 'sum', in the pinned program and in every row, IS THE sha256 OF THE DUMP (.gsa) THAT YtmkncbddjnaklaaProg.lean LOADS. Nothing in Lean hashes anything: it is a label: what it is worth is what the hold of that sum in a sandbox is worth. -/
noncomputable def Try.pinned : Pinned := { name := "ytmkncbddjnaklaa", sum := "7752a31c9ddd4e6d630894b92fe4191750e93e89961b070c6adbfef753832f25", checked := Try.checked }
namespace Rows
def none {H : Type} : Left H := { results := [], args := [] }

/-- 'headracelaw08.OpsRun': WHATEVER THE INPUT: true; the input reads as it did. -/
def opsRunSpec : ChangeSpec := { name := "opsRun", fn := fun _ => fun
  | [d1, d2] => { results := [.lit (.bool true)], args := [d1, d2] }
  | _ => none }
def opsRunRow : OpenClaim := { program := "ytmkncbddjnaklaa", sum := "7752a31c9ddd4e6d630894b92fe4191750e93e89961b070c6adbfef753832f25", func := "headrace/headracelaw08.OpsRun", spec := "opsRun", unfollowed := true, recurses := true, apart := false }
def OpsRunSaid : Prop := opsRunRow.holds Try.pinned (OpenSpec.ofChange opsRunSpec)

/-- ITS FALSE NEIGHBOUR: 'it returns false'. Refute it at one input. -/
def opsRunWrong : ChangeSpec := { name := "opsRun", fn := fun _ => fun
  | [d1, d2] => { results := [.lit (.bool false)], args := [d1, d2] }
  | _ => none }
def OpsRunWrongFalsely : Prop := opsRunRow.holds Try.pinned (OpenSpec.ofChange opsRunWrong)

/-- 'headracelaw08.OpsDo': WHATEVER THE INPUT: true; the input reads as it did. -/
def opsDoSpec : ChangeSpec := { name := "opsDo", fn := fun _ => fun
  | [d1, d2] => { results := [.lit (.bool true)], args := [d1, d2] }
  | _ => none }
def opsDoRow : OpenClaim := { program := "ytmkncbddjnaklaa", sum := "7752a31c9ddd4e6d630894b92fe4191750e93e89961b070c6adbfef753832f25", func := "headrace/headracelaw08.OpsDo", spec := "opsDo", unfollowed := true, recurses := true, apart := false }
def OpsDoSaid : Prop := opsDoRow.holds Try.pinned (OpenSpec.ofChange opsDoSpec)

/-- ITS FALSE NEIGHBOUR: 'it returns false'. Refute it at one input. -/
def opsDoWrong : ChangeSpec := { name := "opsDo", fn := fun _ => fun
  | [d1, d2] => { results := [.lit (.bool false)], args := [d1, d2] }
  | _ => none }
def OpsDoWrongFalsely : Prop := opsDoRow.holds Try.pinned (OpenSpec.ofChange opsDoWrong)

/-- 'headracelaw08.OpsRow': WHATEVER THE INPUT: true; the input reads as it did. -/
def opsRowSpec : ChangeSpec := { name := "opsRow", fn := fun _ => fun
  | [d1, d2] => { results := [.lit (.bool true)], args := [d1, d2] }
  | _ => none }
def opsRowRow : OpenClaim := { program := "ytmkncbddjnaklaa", sum := "7752a31c9ddd4e6d630894b92fe4191750e93e89961b070c6adbfef753832f25", func := "headrace/headracelaw08.OpsRow", spec := "opsRow", unfollowed := true, recurses := true, apart := false }
def OpsRowSaid : Prop := opsRowRow.holds Try.pinned (OpenSpec.ofChange opsRowSpec)

/-- ITS FALSE NEIGHBOUR: 'it returns false'. Refute it at one input. -/
def opsRowWrong : ChangeSpec := { name := "opsRow", fn := fun _ => fun
  | [d1, d2] => { results := [.lit (.bool false)], args := [d1, d2] }
  | _ => none }
def OpsRowWrongFalsely : Prop := opsRowRow.holds Try.pinned (OpenSpec.ofChange opsRowWrong)

/-- 'headracelaw12.TableRuns': WHATEVER THE INPUT: true; the input reads as it did. -/
def tableRunsSpec : ChangeSpec := { name := "tableRuns", fn := fun _ => fun
  | [d1, d2, d3] => { results := [.lit (.bool true)], args := [d1, d2, d3] }
  | _ => none }
def tableRunsRow : OpenClaim := { program := "ytmkncbddjnaklaa", sum := "7752a31c9ddd4e6d630894b92fe4191750e93e89961b070c6adbfef753832f25", func := "headrace/headracelaw12.TableRuns", spec := "tableRuns", inPlace := ["slices.overlaps[headrace/api.KeyCell]"], unfollowed := true, recurses := true, apart := false }
def TableRunsSaid : Prop := tableRunsRow.holds Try.pinned (OpenSpec.ofChange tableRunsSpec)

/-- ITS FALSE NEIGHBOUR: 'it returns false'. Refute it at one input. -/
def tableRunsWrong : ChangeSpec := { name := "tableRuns", fn := fun _ => fun
  | [d1, d2, d3] => { results := [.lit (.bool false)], args := [d1, d2, d3] }
  | _ => none }
def TableRunsWrongFalsely : Prop := tableRunsRow.holds Try.pinned (OpenSpec.ofChange tableRunsWrong)

/-- 'headracelaw12.TablePuts': WHATEVER THE INPUT: true; the input reads as it did. -/
def tablePutsSpec : ChangeSpec := { name := "tablePuts", fn := fun _ => fun
  | [d1, d2] => { results := [.lit (.bool true)], args := [d1, d2] }
  | _ => none }
def tablePutsRow : OpenClaim := { program := "ytmkncbddjnaklaa", sum := "7752a31c9ddd4e6d630894b92fe4191750e93e89961b070c6adbfef753832f25", func := "headrace/headracelaw12.TablePuts", spec := "tablePuts", inPlace := ["slices.overlaps[headrace/api.KeyCell]"], unfollowed := true, recurses := true, apart := false }
def TablePutsSaid : Prop := tablePutsRow.holds Try.pinned (OpenSpec.ofChange tablePutsSpec)

/-- ITS FALSE NEIGHBOUR: 'it returns false'. Refute it at one input. -/
def tablePutsWrong : ChangeSpec := { name := "tablePuts", fn := fun _ => fun
  | [d1, d2] => { results := [.lit (.bool false)], args := [d1, d2] }
  | _ => none }
def TablePutsWrongFalsely : Prop := tablePutsRow.holds Try.pinned (OpenSpec.ofChange tablePutsWrong)

/-- 'headracelaw12.TableParts': WHATEVER THE INPUT: true; the input reads as it did. -/
def tablePartsSpec : ChangeSpec := { name := "tableParts", fn := fun _ => fun
  | [d1, d2, d3] => { results := [.lit (.bool true)], args := [d1, d2, d3] }
  | _ => none }
def tablePartsRow : OpenClaim := { program := "ytmkncbddjnaklaa", sum := "7752a31c9ddd4e6d630894b92fe4191750e93e89961b070c6adbfef753832f25", func := "headrace/headracelaw12.TableParts", spec := "tableParts", inPlace := ["slices.overlaps[headrace/api.KeyCell]"], unfollowed := true, recurses := true, apart := false }
def TablePartsSaid : Prop := tablePartsRow.holds Try.pinned (OpenSpec.ofChange tablePartsSpec)

/-- ITS FALSE NEIGHBOUR: 'it returns false'. Refute it at one input. -/
def tablePartsWrong : ChangeSpec := { name := "tableParts", fn := fun _ => fun
  | [d1, d2, d3] => { results := [.lit (.bool false)], args := [d1, d2, d3] }
  | _ => none }
def TablePartsWrongFalsely : Prop := tablePartsRow.holds Try.pinned (OpenSpec.ofChange tablePartsWrong)

/-- 'headracelaw12.TableKeys': WHATEVER THE INPUT: true; the input reads as it did. -/
def tableKeysSpec : ChangeSpec := { name := "tableKeys", fn := fun _ => fun
  | [d1, d2, d3] => { results := [.lit (.bool true)], args := [d1, d2, d3] }
  | _ => none }
def tableKeysRow : OpenClaim := { program := "ytmkncbddjnaklaa", sum := "7752a31c9ddd4e6d630894b92fe4191750e93e89961b070c6adbfef753832f25", func := "headrace/headracelaw12.TableKeys", spec := "tableKeys", inPlace := ["slices.overlaps[headrace/api.KeyCell]"], unfollowed := true, recurses := true, apart := false }
def TableKeysSaid : Prop := tableKeysRow.holds Try.pinned (OpenSpec.ofChange tableKeysSpec)

/-- ITS FALSE NEIGHBOUR: 'it returns false'. Refute it at one input. -/
def tableKeysWrong : ChangeSpec := { name := "tableKeys", fn := fun _ => fun
  | [d1, d2, d3] => { results := [.lit (.bool false)], args := [d1, d2, d3] }
  | _ => none }
def TableKeysWrongFalsely : Prop := tableKeysRow.holds Try.pinned (OpenSpec.ofChange tableKeysWrong)

/-- 'headracelaw12.TableWhole': WHATEVER THE INPUT: true; the input reads as it did. -/
def tableWholeSpec : ChangeSpec := { name := "tableWhole", fn := fun _ => fun
  | [d1, d2] => { results := [.lit (.bool true)], args := [d1, d2] }
  | _ => none }
def tableWholeRow : OpenClaim := { program := "ytmkncbddjnaklaa", sum := "7752a31c9ddd4e6d630894b92fe4191750e93e89961b070c6adbfef753832f25", func := "headrace/headracelaw12.TableWhole", spec := "tableWhole", inPlace := ["slices.overlaps[headrace/api.KeyCell]"], unfollowed := true, recurses := true, apart := false }
def TableWholeSaid : Prop := tableWholeRow.holds Try.pinned (OpenSpec.ofChange tableWholeSpec)

/-- ITS FALSE NEIGHBOUR: 'it returns false'. Refute it at one input. -/
def tableWholeWrong : ChangeSpec := { name := "tableWhole", fn := fun _ => fun
  | [d1, d2] => { results := [.lit (.bool false)], args := [d1, d2] }
  | _ => none }
def TableWholeWrongFalsely : Prop := tableWholeRow.holds Try.pinned (OpenSpec.ofChange tableWholeWrong)

/-- 'headracelaw12.TableTells': WHATEVER THE INPUT: true; the input reads as it did. -/
def tableTellsSpec : ChangeSpec := { name := "tableTells", fn := fun _ => fun
  | [d1, d2, d3] => { results := [.lit (.bool true)], args := [d1, d2, d3] }
  | _ => none }
def tableTellsRow : OpenClaim := { program := "ytmkncbddjnaklaa", sum := "7752a31c9ddd4e6d630894b92fe4191750e93e89961b070c6adbfef753832f25", func := "headrace/headracelaw12.TableTells", spec := "tableTells", inPlace := ["slices.overlaps[headrace/api.KeyCell]"], unfollowed := true, recurses := true, apart := false }
def TableTellsSaid : Prop := tableTellsRow.holds Try.pinned (OpenSpec.ofChange tableTellsSpec)

/-- ITS FALSE NEIGHBOUR: 'it returns false'. Refute it at one input. -/
def tableTellsWrong : ChangeSpec := { name := "tableTells", fn := fun _ => fun
  | [d1, d2, d3] => { results := [.lit (.bool false)], args := [d1, d2, d3] }
  | _ => none }
def TableTellsWrongFalsely : Prop := tableTellsRow.holds Try.pinned (OpenSpec.ofChange tableTellsWrong)

/-- 'headracelaw12.TableShares': WHATEVER THE INPUT: true; the input reads as it did. -/
def tableSharesSpec : ChangeSpec := { name := "tableShares", fn := fun _ => fun
  | [d1, d2, d3] => { results := [.lit (.bool true)], args := [d1, d2, d3] }
  | _ => none }
def tableSharesRow : OpenClaim := { program := "ytmkncbddjnaklaa", sum := "7752a31c9ddd4e6d630894b92fe4191750e93e89961b070c6adbfef753832f25", func := "headrace/headracelaw12.TableShares", spec := "tableShares", inPlace := ["slices.overlaps[headrace/api.KeyCell]"], unfollowed := true, recurses := true, apart := false }
def TableSharesSaid : Prop := tableSharesRow.holds Try.pinned (OpenSpec.ofChange tableSharesSpec)

/-- ITS FALSE NEIGHBOUR: 'it returns false'. Refute it at one input. -/
def tableSharesWrong : ChangeSpec := { name := "tableShares", fn := fun _ => fun
  | [d1, d2, d3] => { results := [.lit (.bool false)], args := [d1, d2, d3] }
  | _ => none }
def TableSharesWrongFalsely : Prop := tableSharesRow.holds Try.pinned (OpenSpec.ofChange tableSharesWrong)

/-- 'headracelaw12.TableBytes': WHATEVER THE INPUT: true; the input reads as it did. -/
def tableBytesSpec : ChangeSpec := { name := "tableBytes", fn := fun _ => fun
  | [d1, d2] => { results := [.lit (.bool true)], args := [d1, d2] }
  | _ => none }
def tableBytesRow : OpenClaim := { program := "ytmkncbddjnaklaa", sum := "7752a31c9ddd4e6d630894b92fe4191750e93e89961b070c6adbfef753832f25", func := "headrace/headracelaw12.TableBytes", spec := "tableBytes", inPlace := ["slices.overlaps[headrace/api.KeyCell]"], unfollowed := true, recurses := true, apart := false }
def TableBytesSaid : Prop := tableBytesRow.holds Try.pinned (OpenSpec.ofChange tableBytesSpec)

/-- ITS FALSE NEIGHBOUR: 'it returns false'. Refute it at one input. -/
def tableBytesWrong : ChangeSpec := { name := "tableBytes", fn := fun _ => fun
  | [d1, d2] => { results := [.lit (.bool false)], args := [d1, d2] }
  | _ => none }
def TableBytesWrongFalsely : Prop := tableBytesRow.holds Try.pinned (OpenSpec.ofChange tableBytesWrong)

/-- 'headracelaw12.TableBack': WHATEVER THE INPUT: true; the input reads as it did. -/
def tableBackSpec : ChangeSpec := { name := "tableBack", fn := fun _ => fun
  | [d1, d2] => { results := [.lit (.bool true)], args := [d1, d2] }
  | _ => none }
def tableBackRow : OpenClaim := { program := "ytmkncbddjnaklaa", sum := "7752a31c9ddd4e6d630894b92fe4191750e93e89961b070c6adbfef753832f25", func := "headrace/headracelaw12.TableBack", spec := "tableBack", inPlace := ["slices.overlaps[headrace/api.KeyCell]"], unfollowed := true, recurses := true, apart := false }
def TableBackSaid : Prop := tableBackRow.holds Try.pinned (OpenSpec.ofChange tableBackSpec)

/-- ITS FALSE NEIGHBOUR: 'it returns false'. Refute it at one input. -/
def tableBackWrong : ChangeSpec := { name := "tableBack", fn := fun _ => fun
  | [d1, d2] => { results := [.lit (.bool false)], args := [d1, d2] }
  | _ => none }
def TableBackWrongFalsely : Prop := tableBackRow.holds Try.pinned (OpenSpec.ofChange tableBackWrong)

/- THE SECOND FORM. 'bulk': how many values and letters a reading holds, each counted each time it is reached (what is shared counts as often as it is met; a slice's spare places count too). A statement '..UptoSaid' is the law's where the arguments, and the package variables that the reading takes, are together of bulk at most 1048576: NARROWER than '..Said'. Prove '..Said' where nothing that the law and all that it calls make is longer than what came in: it says more and counts as full. Else prove '..UptoSaid'. A law counts once. -/
mutual
def uptoBulk {H : Type} : DataW H → Nat
  | .lit (.string bytes) => bytes.length + 1
  | .lit _ => 1
  | .nil => 1
  | .ptr d => uptoBulk d + 1
  | .slice elems spare => uptoBulkAll elems + uptoBulkAll spare + 1
  | .agg parts => uptoBulkAll parts + 1
  | .iface _ d => uptoBulk d + 1
  | .map entries => uptoBulkEntries entries + 1
  | .held _ => 1
def uptoBulkAll {H : Type} : List (DataW H) → Nat
  | [] => 0
  | d :: r => uptoBulk d + uptoBulkAll r
def uptoBulkEntries {H : Type} : List (Lit × DataW H) → Nat
  | [] => 0
  | x :: r => uptoBulkEntry x + uptoBulkEntries r
def uptoBulkEntry {H : Type} : Lit × DataW H → Nat
  | (.string bytes, d) => bytes.length + uptoBulk d + 1
  | (_, d) => uptoBulk d + 1
 end
def uptoSmall : (H : Type) → List (DataW H) → Bool := fun _ ds => decide (uptoBulkAll ds ≤ 1048576)
def OpenSpec.upto (s : _root_.Go.ChangeSpec) : _root_.Go.OpenSpec := { _root_.Go.OpenSpec.ofChange s with cond := some uptoSmall }

/-- 'headracelaw08.OpsRun', WHERE WHAT IT READS IS OF BULK AT MOST 1048576: true; the input reads as it did. -/
def opsRunUptoRow : OpenClaim := { program := "ytmkncbddjnaklaa", sum := "7752a31c9ddd4e6d630894b92fe4191750e93e89961b070c6adbfef753832f25", func := "headrace/headracelaw08.OpsRun", spec := "opsRun", unfollowed := true, recurses := true, apart := false, narrowed := true }
def OpsRunUptoSaid : Prop := opsRunUptoRow.holds Try.pinned (OpenSpec.upto opsRunSpec)

/-- 'headracelaw08.OpsDo', WHERE WHAT IT READS IS OF BULK AT MOST 1048576: true; the input reads as it did. -/
def opsDoUptoRow : OpenClaim := { program := "ytmkncbddjnaklaa", sum := "7752a31c9ddd4e6d630894b92fe4191750e93e89961b070c6adbfef753832f25", func := "headrace/headracelaw08.OpsDo", spec := "opsDo", unfollowed := true, recurses := true, apart := false, narrowed := true }
def OpsDoUptoSaid : Prop := opsDoUptoRow.holds Try.pinned (OpenSpec.upto opsDoSpec)

/-- 'headracelaw08.OpsRow', WHERE WHAT IT READS IS OF BULK AT MOST 1048576: true; the input reads as it did. -/
def opsRowUptoRow : OpenClaim := { program := "ytmkncbddjnaklaa", sum := "7752a31c9ddd4e6d630894b92fe4191750e93e89961b070c6adbfef753832f25", func := "headrace/headracelaw08.OpsRow", spec := "opsRow", unfollowed := true, recurses := true, apart := false, narrowed := true }
def OpsRowUptoSaid : Prop := opsRowUptoRow.holds Try.pinned (OpenSpec.upto opsRowSpec)

/-- 'headracelaw12.TableRuns', WHERE WHAT IT READS IS OF BULK AT MOST 1048576: true; the input reads as it did. -/
def tableRunsUptoRow : OpenClaim := { program := "ytmkncbddjnaklaa", sum := "7752a31c9ddd4e6d630894b92fe4191750e93e89961b070c6adbfef753832f25", func := "headrace/headracelaw12.TableRuns", spec := "tableRuns", inPlace := ["slices.overlaps[headrace/api.KeyCell]"], unfollowed := true, recurses := true, apart := false, narrowed := true }
def TableRunsUptoSaid : Prop := tableRunsUptoRow.holds Try.pinned (OpenSpec.upto tableRunsSpec)

/-- 'headracelaw12.TablePuts', WHERE WHAT IT READS IS OF BULK AT MOST 1048576: true; the input reads as it did. -/
def tablePutsUptoRow : OpenClaim := { program := "ytmkncbddjnaklaa", sum := "7752a31c9ddd4e6d630894b92fe4191750e93e89961b070c6adbfef753832f25", func := "headrace/headracelaw12.TablePuts", spec := "tablePuts", inPlace := ["slices.overlaps[headrace/api.KeyCell]"], unfollowed := true, recurses := true, apart := false, narrowed := true }
def TablePutsUptoSaid : Prop := tablePutsUptoRow.holds Try.pinned (OpenSpec.upto tablePutsSpec)

/-- 'headracelaw12.TableParts', WHERE WHAT IT READS IS OF BULK AT MOST 1048576: true; the input reads as it did. -/
def tablePartsUptoRow : OpenClaim := { program := "ytmkncbddjnaklaa", sum := "7752a31c9ddd4e6d630894b92fe4191750e93e89961b070c6adbfef753832f25", func := "headrace/headracelaw12.TableParts", spec := "tableParts", inPlace := ["slices.overlaps[headrace/api.KeyCell]"], unfollowed := true, recurses := true, apart := false, narrowed := true }
def TablePartsUptoSaid : Prop := tablePartsUptoRow.holds Try.pinned (OpenSpec.upto tablePartsSpec)

/-- 'headracelaw12.TableKeys', WHERE WHAT IT READS IS OF BULK AT MOST 1048576: true; the input reads as it did. -/
def tableKeysUptoRow : OpenClaim := { program := "ytmkncbddjnaklaa", sum := "7752a31c9ddd4e6d630894b92fe4191750e93e89961b070c6adbfef753832f25", func := "headrace/headracelaw12.TableKeys", spec := "tableKeys", inPlace := ["slices.overlaps[headrace/api.KeyCell]"], unfollowed := true, recurses := true, apart := false, narrowed := true }
def TableKeysUptoSaid : Prop := tableKeysUptoRow.holds Try.pinned (OpenSpec.upto tableKeysSpec)

/-- 'headracelaw12.TableWhole', WHERE WHAT IT READS IS OF BULK AT MOST 1048576: true; the input reads as it did. -/
def tableWholeUptoRow : OpenClaim := { program := "ytmkncbddjnaklaa", sum := "7752a31c9ddd4e6d630894b92fe4191750e93e89961b070c6adbfef753832f25", func := "headrace/headracelaw12.TableWhole", spec := "tableWhole", inPlace := ["slices.overlaps[headrace/api.KeyCell]"], unfollowed := true, recurses := true, apart := false, narrowed := true }
def TableWholeUptoSaid : Prop := tableWholeUptoRow.holds Try.pinned (OpenSpec.upto tableWholeSpec)

/-- 'headracelaw12.TableTells', WHERE WHAT IT READS IS OF BULK AT MOST 1048576: true; the input reads as it did. -/
def tableTellsUptoRow : OpenClaim := { program := "ytmkncbddjnaklaa", sum := "7752a31c9ddd4e6d630894b92fe4191750e93e89961b070c6adbfef753832f25", func := "headrace/headracelaw12.TableTells", spec := "tableTells", inPlace := ["slices.overlaps[headrace/api.KeyCell]"], unfollowed := true, recurses := true, apart := false, narrowed := true }
def TableTellsUptoSaid : Prop := tableTellsUptoRow.holds Try.pinned (OpenSpec.upto tableTellsSpec)

/-- 'headracelaw12.TableShares', WHERE WHAT IT READS IS OF BULK AT MOST 1048576: true; the input reads as it did. -/
def tableSharesUptoRow : OpenClaim := { program := "ytmkncbddjnaklaa", sum := "7752a31c9ddd4e6d630894b92fe4191750e93e89961b070c6adbfef753832f25", func := "headrace/headracelaw12.TableShares", spec := "tableShares", inPlace := ["slices.overlaps[headrace/api.KeyCell]"], unfollowed := true, recurses := true, apart := false, narrowed := true }
def TableSharesUptoSaid : Prop := tableSharesUptoRow.holds Try.pinned (OpenSpec.upto tableSharesSpec)

/-- 'headracelaw12.TableBytes', WHERE WHAT IT READS IS OF BULK AT MOST 1048576: true; the input reads as it did. -/
def tableBytesUptoRow : OpenClaim := { program := "ytmkncbddjnaklaa", sum := "7752a31c9ddd4e6d630894b92fe4191750e93e89961b070c6adbfef753832f25", func := "headrace/headracelaw12.TableBytes", spec := "tableBytes", inPlace := ["slices.overlaps[headrace/api.KeyCell]"], unfollowed := true, recurses := true, apart := false, narrowed := true }
def TableBytesUptoSaid : Prop := tableBytesUptoRow.holds Try.pinned (OpenSpec.upto tableBytesSpec)

/-- 'headracelaw12.TableBack', WHERE WHAT IT READS IS OF BULK AT MOST 1048576: true; the input reads as it did. -/
def tableBackUptoRow : OpenClaim := { program := "ytmkncbddjnaklaa", sum := "7752a31c9ddd4e6d630894b92fe4191750e93e89961b070c6adbfef753832f25", func := "headrace/headracelaw12.TableBack", spec := "tableBack", inPlace := ["slices.overlaps[headrace/api.KeyCell]"], unfollowed := true, recurses := true, apart := false, narrowed := true }
def TableBackUptoSaid : Prop := tableBackUptoRow.holds Try.pinned (OpenSpec.upto tableBackSpec)

end Rows
end Go.Proofs.Ytmkncbddjnaklaa
