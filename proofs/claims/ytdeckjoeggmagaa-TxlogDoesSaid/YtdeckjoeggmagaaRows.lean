/-
  No cell of these rows narrows 'for every input' (looked for: loops, veiled, ifaces, maps, wideKeys, modest, calm, conditions, laid).
  DERIVED. THE GIVEN ROWS OF THIS SEAT. 10 by the template 'for every input the law returns true; each argument reads behind the call as it read before'; 0 by the template 'total and deterministic' (their statements: YtdeckjoeggmagaaTotals.lean).
  GIVEN WITH THE SEED: the statements are not yours to turn. If you find one false, say at which input.
  Laid BY PROGRAM, IN A SANDBOX (cutbox-rows.mjs): the forced cells as the released guide's own fill.sh prints them over the translation 0dd714c7ba3dc97c… (all of the seat's roots in one cut). By AI agents, Wed Nov 11 2026. No macro, syntax, notation, axiom, sorry.
-/
import Derived.Test.YtdeckjoeggmagaaChecked
import GoSem.Claim
import GoSem.ClaimJoined
import GoSem.ClaimMapViews
import Derived.JoinedTies
import Derived.KernelRfl
namespace Go.Proofs.Ytdeckjoeggmagaa
/- THE CELL 'sum', in the pinned program and in every row, IS THE sha256 OF THE DUMP (.gsa) THAT YtdeckjoeggmagaaProg.lean LOADS. Nothing in Lean hashes anything: it is a label: what it is worth is what the hold of that sum in a sandbox is worth. -/
noncomputable def Try.pinned : Pinned := { name := "ytdeckjoeggmagaa", sum := "0dd714c7ba3dc97c9b61811dcc015b835d97acb52fdeb60dc5f3f3ec764df808", checked := Try.checked }
namespace Rows
def none {H : Type} : Left H := { results := [], args := [] }

/-- 'headracelaw16.TxlogNames': WHATEVER THE INPUT: true; the input reads as it did. -/
def txlogNamesSpec : ChangeSpec := { name := "txlogNames", fn := fun _ => fun
  | [d] => { results := [.lit (.bool true)], args := [d] }
  | _ => none }
def txlogNamesRow : OpenClaim := { program := "ytdeckjoeggmagaa", sum := "0dd714c7ba3dc97c9b61811dcc015b835d97acb52fdeb60dc5f3f3ec764df808", func := "headrace/headracelaw16.TxlogNames", spec := "txlogNames", inPlace := ["slices.overlaps[headrace/api.Tx]"], unfollowed := true, recurses := true, plainKeys := false, apart := false }
def TxlogNamesSaid : Prop := txlogNamesRow.holds Try.pinned (OpenSpec.ofChange txlogNamesSpec)

/-- ITS FALSE NEIGHBOUR: 'it returns false'. Refute it at one input. -/
def txlogNamesWrong : ChangeSpec := { name := "txlogNames", fn := fun _ => fun
  | [d] => { results := [.lit (.bool false)], args := [d] }
  | _ => none }
def TxlogNamesWrongFalsely : Prop := txlogNamesRow.holds Try.pinned (OpenSpec.ofChange txlogNamesWrong)

/-- 'headracelaw17.SinkWrites': WHATEVER THE INPUT: true; the input reads as it did. -/
def sinkWritesSpec : ChangeSpec := { name := "sinkWrites", fn := fun _ => fun
  | [d1, d2] => { results := [.lit (.bool true)], args := [d1, d2] }
  | _ => none }
def sinkWritesRow : OpenClaim := { program := "ytdeckjoeggmagaa", sum := "0dd714c7ba3dc97c9b61811dcc015b835d97acb52fdeb60dc5f3f3ec764df808", func := "headrace/headracelaw17.SinkWrites", spec := "sinkWrites", inPlace := ["slices.overlaps[headrace/api.Tx]"], unfollowed := true, recurses := true, plainKeys := false, apart := false }
def SinkWritesSaid : Prop := sinkWritesRow.holds Try.pinned (OpenSpec.ofChange sinkWritesSpec)

/-- ITS FALSE NEIGHBOUR: 'it returns false'. Refute it at one input. -/
def sinkWritesWrong : ChangeSpec := { name := "sinkWrites", fn := fun _ => fun
  | [d1, d2] => { results := [.lit (.bool false)], args := [d1, d2] }
  | _ => none }
def SinkWritesWrongFalsely : Prop := sinkWritesRow.holds Try.pinned (OpenSpec.ofChange sinkWritesWrong)

/-- 'headracelaw16.TxlogDoes': WHATEVER THE INPUT: true; the input reads as it did. -/
def txlogDoesSpec : ChangeSpec := { name := "txlogDoes", fn := fun _ => fun
  | [d1, d2] => { results := [.lit (.bool true)], args := [d1, d2] }
  | _ => none }
def txlogDoesRow : OpenClaim := { program := "ytdeckjoeggmagaa", sum := "0dd714c7ba3dc97c9b61811dcc015b835d97acb52fdeb60dc5f3f3ec764df808", func := "headrace/headracelaw16.TxlogDoes", spec := "txlogDoes", inPlace := ["slices.overlaps[headrace/api.Tx]"], unfollowed := true, recurses := true, plainKeys := false, apart := false }
def TxlogDoesSaid : Prop := txlogDoesRow.holds Try.pinned (OpenSpec.ofChange txlogDoesSpec)

/-- ITS FALSE NEIGHBOUR: 'it returns false'. Refute it at one input. -/
def txlogDoesWrong : ChangeSpec := { name := "txlogDoes", fn := fun _ => fun
  | [d1, d2] => { results := [.lit (.bool false)], args := [d1, d2] }
  | _ => none }
def TxlogDoesWrongFalsely : Prop := txlogDoesRow.holds Try.pinned (OpenSpec.ofChange txlogDoesWrong)

/-- 'headracelaw17.SinkNames': WHATEVER THE INPUT: true; the input reads as it did. -/
def sinkNamesSpec : ChangeSpec := { name := "sinkNames", fn := fun _ => fun
  | [d1, d2] => { results := [.lit (.bool true)], args := [d1, d2] }
  | _ => none }
def sinkNamesRow : OpenClaim := { program := "ytdeckjoeggmagaa", sum := "0dd714c7ba3dc97c9b61811dcc015b835d97acb52fdeb60dc5f3f3ec764df808", func := "headrace/headracelaw17.SinkNames", spec := "sinkNames", inPlace := ["slices.overlaps[headrace/api.Tx]"], unfollowed := true, recurses := true, plainKeys := false, apart := false }
def SinkNamesSaid : Prop := sinkNamesRow.holds Try.pinned (OpenSpec.ofChange sinkNamesSpec)

/-- ITS FALSE NEIGHBOUR: 'it returns false'. Refute it at one input. -/
def sinkNamesWrong : ChangeSpec := { name := "sinkNames", fn := fun _ => fun
  | [d1, d2] => { results := [.lit (.bool false)], args := [d1, d2] }
  | _ => none }
def SinkNamesWrongFalsely : Prop := sinkNamesRow.holds Try.pinned (OpenSpec.ofChange sinkNamesWrong)

/-- 'headracelaw16.TxlogOrder': WHATEVER THE INPUT: true; the input reads as it did. -/
def txlogOrderSpec : ChangeSpec := { name := "txlogOrder", fn := fun _ => fun
  | [d1, d2] => { results := [.lit (.bool true)], args := [d1, d2] }
  | _ => none }
def txlogOrderRow : OpenClaim := { program := "ytdeckjoeggmagaa", sum := "0dd714c7ba3dc97c9b61811dcc015b835d97acb52fdeb60dc5f3f3ec764df808", func := "headrace/headracelaw16.TxlogOrder", spec := "txlogOrder", inPlace := ["slices.overlaps[headrace/api.Tx]"], unfollowed := true, recurses := true, plainKeys := false, apart := false }
def TxlogOrderSaid : Prop := txlogOrderRow.holds Try.pinned (OpenSpec.ofChange txlogOrderSpec)

/-- ITS FALSE NEIGHBOUR: 'it returns false'. Refute it at one input. -/
def txlogOrderWrong : ChangeSpec := { name := "txlogOrder", fn := fun _ => fun
  | [d1, d2] => { results := [.lit (.bool false)], args := [d1, d2] }
  | _ => none }
def TxlogOrderWrongFalsely : Prop := txlogOrderRow.holds Try.pinned (OpenSpec.ofChange txlogOrderWrong)

/-- 'headracelaw17.SinkTells': WHATEVER THE INPUT: true; the input reads as it did. -/
def sinkTellsSpec : ChangeSpec := { name := "sinkTells", fn := fun _ => fun
  | [d1, d2] => { results := [.lit (.bool true)], args := [d1, d2] }
  | _ => none }
def sinkTellsRow : OpenClaim := { program := "ytdeckjoeggmagaa", sum := "0dd714c7ba3dc97c9b61811dcc015b835d97acb52fdeb60dc5f3f3ec764df808", func := "headrace/headracelaw17.SinkTells", spec := "sinkTells", inPlace := ["slices.overlaps[headrace/api.Tx]"], unfollowed := true, recurses := true, plainKeys := false, apart := false }
def SinkTellsSaid : Prop := sinkTellsRow.holds Try.pinned (OpenSpec.ofChange sinkTellsSpec)

/-- ITS FALSE NEIGHBOUR: 'it returns false'. Refute it at one input. -/
def sinkTellsWrong : ChangeSpec := { name := "sinkTells", fn := fun _ => fun
  | [d1, d2] => { results := [.lit (.bool false)], args := [d1, d2] }
  | _ => none }
def SinkTellsWrongFalsely : Prop := sinkTellsRow.holds Try.pinned (OpenSpec.ofChange sinkTellsWrong)

/-- 'headracelaw16.TxlogGrows': WHATEVER THE INPUT: true; the input reads as it did. -/
def txlogGrowsSpec : ChangeSpec := { name := "txlogGrows", fn := fun _ => fun
  | [d1, d2] => { results := [.lit (.bool true)], args := [d1, d2] }
  | _ => none }
def txlogGrowsRow : OpenClaim := { program := "ytdeckjoeggmagaa", sum := "0dd714c7ba3dc97c9b61811dcc015b835d97acb52fdeb60dc5f3f3ec764df808", func := "headrace/headracelaw16.TxlogGrows", spec := "txlogGrows", inPlace := ["slices.overlaps[headrace/api.Tx]"], unfollowed := true, recurses := true, plainKeys := false, apart := false }
def TxlogGrowsSaid : Prop := txlogGrowsRow.holds Try.pinned (OpenSpec.ofChange txlogGrowsSpec)

/-- ITS FALSE NEIGHBOUR: 'it returns false'. Refute it at one input. -/
def txlogGrowsWrong : ChangeSpec := { name := "txlogGrows", fn := fun _ => fun
  | [d1, d2] => { results := [.lit (.bool false)], args := [d1, d2] }
  | _ => none }
def TxlogGrowsWrongFalsely : Prop := txlogGrowsRow.holds Try.pinned (OpenSpec.ofChange txlogGrowsWrong)

/-- 'headracelaw16.TxlogAborts': WHATEVER THE INPUT: true; the input reads as it did. -/
def txlogAbortsSpec : ChangeSpec := { name := "txlogAborts", fn := fun _ => fun
  | [d1, d2] => { results := [.lit (.bool true)], args := [d1, d2] }
  | _ => none }
def txlogAbortsRow : OpenClaim := { program := "ytdeckjoeggmagaa", sum := "0dd714c7ba3dc97c9b61811dcc015b835d97acb52fdeb60dc5f3f3ec764df808", func := "headrace/headracelaw16.TxlogAborts", spec := "txlogAborts", inPlace := ["slices.overlaps[headrace/api.Tx]"], unfollowed := true, recurses := true, plainKeys := false, apart := false }
def TxlogAbortsSaid : Prop := txlogAbortsRow.holds Try.pinned (OpenSpec.ofChange txlogAbortsSpec)

/-- ITS FALSE NEIGHBOUR: 'it returns false'. Refute it at one input. -/
def txlogAbortsWrong : ChangeSpec := { name := "txlogAborts", fn := fun _ => fun
  | [d1, d2] => { results := [.lit (.bool false)], args := [d1, d2] }
  | _ => none }
def TxlogAbortsWrongFalsely : Prop := txlogAbortsRow.holds Try.pinned (OpenSpec.ofChange txlogAbortsWrong)

/-- 'headracelaw17.SinkBarriers': WHATEVER THE INPUT: true; the input reads as it did. -/
def sinkBarriersSpec : ChangeSpec := { name := "sinkBarriers", fn := fun _ => fun
  | [d1, d2] => { results := [.lit (.bool true)], args := [d1, d2] }
  | _ => none }
def sinkBarriersRow : OpenClaim := { program := "ytdeckjoeggmagaa", sum := "0dd714c7ba3dc97c9b61811dcc015b835d97acb52fdeb60dc5f3f3ec764df808", func := "headrace/headracelaw17.SinkBarriers", spec := "sinkBarriers", inPlace := ["slices.overlaps[headrace/api.Tx]"], unfollowed := true, recurses := true, plainKeys := false, apart := false }
def SinkBarriersSaid : Prop := sinkBarriersRow.holds Try.pinned (OpenSpec.ofChange sinkBarriersSpec)

/-- ITS FALSE NEIGHBOUR: 'it returns false'. Refute it at one input. -/
def sinkBarriersWrong : ChangeSpec := { name := "sinkBarriers", fn := fun _ => fun
  | [d1, d2] => { results := [.lit (.bool false)], args := [d1, d2] }
  | _ => none }
def SinkBarriersWrongFalsely : Prop := sinkBarriersRow.holds Try.pinned (OpenSpec.ofChange sinkBarriersWrong)

/-- 'headracelaw16.TxlogOnce': WHATEVER THE INPUT: true; the input reads as it did. -/
def txlogOnceSpec : ChangeSpec := { name := "txlogOnce", fn := fun _ => fun
  | [d1, d2] => { results := [.lit (.bool true)], args := [d1, d2] }
  | _ => none }
def txlogOnceRow : OpenClaim := { program := "ytdeckjoeggmagaa", sum := "0dd714c7ba3dc97c9b61811dcc015b835d97acb52fdeb60dc5f3f3ec764df808", func := "headrace/headracelaw16.TxlogOnce", spec := "txlogOnce", inPlace := ["slices.overlaps[headrace/api.Tx]"], unfollowed := true, recurses := true, plainKeys := false, apart := false }
def TxlogOnceSaid : Prop := txlogOnceRow.holds Try.pinned (OpenSpec.ofChange txlogOnceSpec)

/-- ITS FALSE NEIGHBOUR: 'it returns false'. Refute it at one input. -/
def txlogOnceWrong : ChangeSpec := { name := "txlogOnce", fn := fun _ => fun
  | [d1, d2] => { results := [.lit (.bool false)], args := [d1, d2] }
  | _ => none }
def TxlogOnceWrongFalsely : Prop := txlogOnceRow.holds Try.pinned (OpenSpec.ofChange txlogOnceWrong)

/- THE SECOND FORM. 'bulk': how many values and letters a reading holds, each counted each time it is reached (what is shared counts as often as it is met; a slice's spare places count too). A statement '..UptoSaid' is the law's where the arguments, and the package variables that the reading takes, are together of bulk at most 1048576: NARROWER than '..Said'. Prove '..Said' where nothing that the law and all that it calls make is longer than what came in: it says more and counts as full. Else prove '..UptoSaid'. A law counts once. -/
mutual
def uptoBulk {H : Type} : DataW H → Nat
  | .lit (.string bytes) => bytes.length + 1
  | .lit _ => 1
  | .nil => 1
  | .ptr d => uptoBulk d + 1
  | .slice elems spare => uptoBulkAll elems + uptoBulkAll spare + 1
  | .agg parts => uptoBulkAll parts + 1
  | .iface _ d => uptoBulk d + 1
  | .map entries => uptoBulkEntries entries + 1
  | .held _ => 1
def uptoBulkAll {H : Type} : List (DataW H) → Nat
  | [] => 0
  | d :: r => uptoBulk d + uptoBulkAll r
def uptoBulkEntries {H : Type} : List (Lit × DataW H) → Nat
  | [] => 0
  | x :: r => uptoBulkEntry x + uptoBulkEntries r
def uptoBulkEntry {H : Type} : Lit × DataW H → Nat
  | (.string bytes, d) => bytes.length + uptoBulk d + 1
  | (_, d) => uptoBulk d + 1
 end
def uptoSmall : (H : Type) → List (DataW H) → Bool := fun _ ds => decide (uptoBulkAll ds ≤ 1048576)
def OpenSpec.upto (s : _root_.Go.ChangeSpec) : _root_.Go.OpenSpec := { _root_.Go.OpenSpec.ofChange s with cond := some uptoSmall }

/-- 'headracelaw16.TxlogNames', WHERE WHAT IT READS IS OF BULK AT MOST 1048576: true; the input reads as it did. -/
def txlogNamesUptoRow : OpenClaim := { program := "ytdeckjoeggmagaa", sum := "0dd714c7ba3dc97c9b61811dcc015b835d97acb52fdeb60dc5f3f3ec764df808", func := "headrace/headracelaw16.TxlogNames", spec := "txlogNames", inPlace := ["slices.overlaps[headrace/api.Tx]"], unfollowed := true, recurses := true, plainKeys := false, apart := false, narrowed := true }
def TxlogNamesUptoSaid : Prop := txlogNamesUptoRow.holds Try.pinned (OpenSpec.upto txlogNamesSpec)

/-- 'headracelaw17.SinkWrites', WHERE WHAT IT READS IS OF BULK AT MOST 1048576: true; the input reads as it did. -/
def sinkWritesUptoRow : OpenClaim := { program := "ytdeckjoeggmagaa", sum := "0dd714c7ba3dc97c9b61811dcc015b835d97acb52fdeb60dc5f3f3ec764df808", func := "headrace/headracelaw17.SinkWrites", spec := "sinkWrites", inPlace := ["slices.overlaps[headrace/api.Tx]"], unfollowed := true, recurses := true, plainKeys := false, apart := false, narrowed := true }
def SinkWritesUptoSaid : Prop := sinkWritesUptoRow.holds Try.pinned (OpenSpec.upto sinkWritesSpec)

/-- 'headracelaw16.TxlogDoes', WHERE WHAT IT READS IS OF BULK AT MOST 1048576: true; the input reads as it did. -/
def txlogDoesUptoRow : OpenClaim := { program := "ytdeckjoeggmagaa", sum := "0dd714c7ba3dc97c9b61811dcc015b835d97acb52fdeb60dc5f3f3ec764df808", func := "headrace/headracelaw16.TxlogDoes", spec := "txlogDoes", inPlace := ["slices.overlaps[headrace/api.Tx]"], unfollowed := true, recurses := true, plainKeys := false, apart := false, narrowed := true }
def TxlogDoesUptoSaid : Prop := txlogDoesUptoRow.holds Try.pinned (OpenSpec.upto txlogDoesSpec)

/-- 'headracelaw17.SinkNames', WHERE WHAT IT READS IS OF BULK AT MOST 1048576: true; the input reads as it did. -/
def sinkNamesUptoRow : OpenClaim := { program := "ytdeckjoeggmagaa", sum := "0dd714c7ba3dc97c9b61811dcc015b835d97acb52fdeb60dc5f3f3ec764df808", func := "headrace/headracelaw17.SinkNames", spec := "sinkNames", inPlace := ["slices.overlaps[headrace/api.Tx]"], unfollowed := true, recurses := true, plainKeys := false, apart := false, narrowed := true }
def SinkNamesUptoSaid : Prop := sinkNamesUptoRow.holds Try.pinned (OpenSpec.upto sinkNamesSpec)

/-- 'headracelaw16.TxlogOrder', WHERE WHAT IT READS IS OF BULK AT MOST 1048576: true; the input reads as it did. -/
def txlogOrderUptoRow : OpenClaim := { program := "ytdeckjoeggmagaa", sum := "0dd714c7ba3dc97c9b61811dcc015b835d97acb52fdeb60dc5f3f3ec764df808", func := "headrace/headracelaw16.TxlogOrder", spec := "txlogOrder", inPlace := ["slices.overlaps[headrace/api.Tx]"], unfollowed := true, recurses := true, plainKeys := false, apart := false, narrowed := true }
def TxlogOrderUptoSaid : Prop := txlogOrderUptoRow.holds Try.pinned (OpenSpec.upto txlogOrderSpec)

/-- 'headracelaw17.SinkTells', WHERE WHAT IT READS IS OF BULK AT MOST 1048576: true; the input reads as it did. -/
def sinkTellsUptoRow : OpenClaim := { program := "ytdeckjoeggmagaa", sum := "0dd714c7ba3dc97c9b61811dcc015b835d97acb52fdeb60dc5f3f3ec764df808", func := "headrace/headracelaw17.SinkTells", spec := "sinkTells", inPlace := ["slices.overlaps[headrace/api.Tx]"], unfollowed := true, recurses := true, plainKeys := false, apart := false, narrowed := true }
def SinkTellsUptoSaid : Prop := sinkTellsUptoRow.holds Try.pinned (OpenSpec.upto sinkTellsSpec)

/-- 'headracelaw16.TxlogGrows', WHERE WHAT IT READS IS OF BULK AT MOST 1048576: true; the input reads as it did. -/
def txlogGrowsUptoRow : OpenClaim := { program := "ytdeckjoeggmagaa", sum := "0dd714c7ba3dc97c9b61811dcc015b835d97acb52fdeb60dc5f3f3ec764df808", func := "headrace/headracelaw16.TxlogGrows", spec := "txlogGrows", inPlace := ["slices.overlaps[headrace/api.Tx]"], unfollowed := true, recurses := true, plainKeys := false, apart := false, narrowed := true }
def TxlogGrowsUptoSaid : Prop := txlogGrowsUptoRow.holds Try.pinned (OpenSpec.upto txlogGrowsSpec)

/-- 'headracelaw16.TxlogAborts', WHERE WHAT IT READS IS OF BULK AT MOST 1048576: true; the input reads as it did. -/
def txlogAbortsUptoRow : OpenClaim := { program := "ytdeckjoeggmagaa", sum := "0dd714c7ba3dc97c9b61811dcc015b835d97acb52fdeb60dc5f3f3ec764df808", func := "headrace/headracelaw16.TxlogAborts", spec := "txlogAborts", inPlace := ["slices.overlaps[headrace/api.Tx]"], unfollowed := true, recurses := true, plainKeys := false, apart := false, narrowed := true }
def TxlogAbortsUptoSaid : Prop := txlogAbortsUptoRow.holds Try.pinned (OpenSpec.upto txlogAbortsSpec)

/-- 'headracelaw17.SinkBarriers', WHERE WHAT IT READS IS OF BULK AT MOST 1048576: true; the input reads as it did. -/
def sinkBarriersUptoRow : OpenClaim := { program := "ytdeckjoeggmagaa", sum := "0dd714c7ba3dc97c9b61811dcc015b835d97acb52fdeb60dc5f3f3ec764df808", func := "headrace/headracelaw17.SinkBarriers", spec := "sinkBarriers", inPlace := ["slices.overlaps[headrace/api.Tx]"], unfollowed := true, recurses := true, plainKeys := false, apart := false, narrowed := true }
def SinkBarriersUptoSaid : Prop := sinkBarriersUptoRow.holds Try.pinned (OpenSpec.upto sinkBarriersSpec)

/-- 'headracelaw16.TxlogOnce', WHERE WHAT IT READS IS OF BULK AT MOST 1048576: true; the input reads as it did. -/
def txlogOnceUptoRow : OpenClaim := { program := "ytdeckjoeggmagaa", sum := "0dd714c7ba3dc97c9b61811dcc015b835d97acb52fdeb60dc5f3f3ec764df808", func := "headrace/headracelaw16.TxlogOnce", spec := "txlogOnce", inPlace := ["slices.overlaps[headrace/api.Tx]"], unfollowed := true, recurses := true, plainKeys := false, apart := false, narrowed := true }
def TxlogOnceUptoSaid : Prop := txlogOnceUptoRow.holds Try.pinned (OpenSpec.upto txlogOnceSpec)

end Rows
end Go.Proofs.Ytdeckjoeggmagaa
