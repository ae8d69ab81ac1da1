/-
  No cell of these rows narrows 'for every input' (looked for: loops, veiled, ifaces, maps, wideKeys, modest, calm, conditions, laid).
  DERIVED. THE GIVEN ROWS OF THIS SEAT. 6 by the template 'for every input the law returns true; each argument reads behind the call as it read before'; 0 by the template 'total and deterministic' (their statements: YtlbdpnlmdcajbaaTotals.lean).
  GIVEN WITH THE SEED: the statements are not yours to turn. If you find one false, say at which input.
  Laid BY PROGRAM, IN A SANDBOX (cutbox-rows.mjs): the forced cells as the released guide's own fill.sh prints them over the translation e91153cc64abe830… (all of the seat's roots in one cut). By AI agents, Wed Nov 11 2026. No macro, syntax, notation, axiom, sorry.
-/
import Derived.Test.YtlbdpnlmdcajbaaChecked
import GoSem.Claim
import GoSem.ClaimJoined
import GoSem.ClaimMapViews
import Derived.JoinedTies
import Derived.KernelRfl
namespace Go.Proofs.Ytlbdpnlmdcajbaa
/- THE CELL 'sum', in the pinned program and in every row, IS THE sha256 OF THE DUMP (.gsa) THAT YtlbdpnlmdcajbaaProg.lean LOADS. Nothing in Lean hashes anything: it is a label: what it is worth is what the hold of that sum in a sandbox is worth. -/
noncomputable def Try.pinned : Pinned := { name := "ytlbdpnlmdcajbaa", sum := "e91153cc64abe83046c5c9d8a90b0933b1e0a7dd7d54be7ca8c99598516e6e32", checked := Try.checked }
namespace Rows
def none {H : Type} : Left H := { results := [], args := [] }

/-- 'headracelaw22.CoordNews': WHATEVER THE INPUT: true; the input reads as it did. -/
def coordNewsSpec : ChangeSpec := { name := "coordNews", fn := fun _ => fun
  | [d1, d2] => { results := [.lit (.bool true)], args := [d1, d2] }
  | _ => none }
def coordNewsRow : OpenClaim := { program := "ytlbdpnlmdcajbaa", sum := "e91153cc64abe83046c5c9d8a90b0933b1e0a7dd7d54be7ca8c99598516e6e32", func := "headrace/headracelaw22.CoordNews", spec := "coordNews", inPlace := ["slices.overlaps[headrace/api.Ack]"], unfollowed := true, recurses := true, apart := false }
def CoordNewsSaid : Prop := coordNewsRow.holds Try.pinned (OpenSpec.ofChange coordNewsSpec)

/-- ITS FALSE NEIGHBOUR: 'it returns false'. Refute it at one input. -/
def coordNewsWrong : ChangeSpec := { name := "coordNews", fn := fun _ => fun
  | [d1, d2] => { results := [.lit (.bool false)], args := [d1, d2] }
  | _ => none }
def CoordNewsWrongFalsely : Prop := coordNewsRow.holds Try.pinned (OpenSpec.ofChange coordNewsWrong)

/-- 'headracelaw22.CoordEpochs': WHATEVER THE INPUT: true; the input reads as it did. -/
def coordEpochsSpec : ChangeSpec := { name := "coordEpochs", fn := fun _ => fun
  | [d1, d2, d3] => { results := [.lit (.bool true)], args := [d1, d2, d3] }
  | _ => none }
def coordEpochsRow : OpenClaim := { program := "ytlbdpnlmdcajbaa", sum := "e91153cc64abe83046c5c9d8a90b0933b1e0a7dd7d54be7ca8c99598516e6e32", func := "headrace/headracelaw22.CoordEpochs", spec := "coordEpochs", inPlace := ["slices.overlaps[headrace/api.Ack]"], unfollowed := true, recurses := true, apart := false }
def CoordEpochsSaid : Prop := coordEpochsRow.holds Try.pinned (OpenSpec.ofChange coordEpochsSpec)

/-- ITS FALSE NEIGHBOUR: 'it returns false'. Refute it at one input. -/
def coordEpochsWrong : ChangeSpec := { name := "coordEpochs", fn := fun _ => fun
  | [d1, d2, d3] => { results := [.lit (.bool false)], args := [d1, d2, d3] }
  | _ => none }
def CoordEpochsWrongFalsely : Prop := coordEpochsRow.holds Try.pinned (OpenSpec.ofChange coordEpochsWrong)

/-- 'headracelaw22.CoordDoes': WHATEVER THE INPUT: true; the input reads as it did. -/
def coordDoesSpec : ChangeSpec := { name := "coordDoes", fn := fun _ => fun
  | [d1, d2] => { results := [.lit (.bool true)], args := [d1, d2] }
  | _ => none }
def coordDoesRow : OpenClaim := { program := "ytlbdpnlmdcajbaa", sum := "e91153cc64abe83046c5c9d8a90b0933b1e0a7dd7d54be7ca8c99598516e6e32", func := "headrace/headracelaw22.CoordDoes", spec := "coordDoes", inPlace := ["slices.overlaps[headrace/api.Ack]"], unfollowed := true, recurses := true, apart := false }
def CoordDoesSaid : Prop := coordDoesRow.holds Try.pinned (OpenSpec.ofChange coordDoesSpec)

/-- ITS FALSE NEIGHBOUR: 'it returns false'. Refute it at one input. -/
def coordDoesWrong : ChangeSpec := { name := "coordDoes", fn := fun _ => fun
  | [d1, d2] => { results := [.lit (.bool false)], args := [d1, d2] }
  | _ => none }
def CoordDoesWrongFalsely : Prop := coordDoesRow.holds Try.pinned (OpenSpec.ofChange coordDoesWrong)

/-- 'headracelaw22.CoordRises': WHATEVER THE INPUT: true; the input reads as it did. -/
def coordRisesSpec : ChangeSpec := { name := "coordRises", fn := fun _ => fun
  | [d1, d2] => { results := [.lit (.bool true)], args := [d1, d2] }
  | _ => none }
def coordRisesRow : OpenClaim := { program := "ytlbdpnlmdcajbaa", sum := "e91153cc64abe83046c5c9d8a90b0933b1e0a7dd7d54be7ca8c99598516e6e32", func := "headrace/headracelaw22.CoordRises", spec := "coordRises", inPlace := ["slices.overlaps[headrace/api.Ack]"], unfollowed := true, recurses := true, apart := false }
def CoordRisesSaid : Prop := coordRisesRow.holds Try.pinned (OpenSpec.ofChange coordRisesSpec)

/-- ITS FALSE NEIGHBOUR: 'it returns false'. Refute it at one input. -/
def coordRisesWrong : ChangeSpec := { name := "coordRises", fn := fun _ => fun
  | [d1, d2] => { results := [.lit (.bool false)], args := [d1, d2] }
  | _ => none }
def CoordRisesWrongFalsely : Prop := coordRisesRow.holds Try.pinned (OpenSpec.ofChange coordRisesWrong)

/-- 'headracelaw22.CoordTells': WHATEVER THE INPUT: true; the input reads as it did. -/
def coordTellsSpec : ChangeSpec := { name := "coordTells", fn := fun _ => fun
  | [d1, d2] => { results := [.lit (.bool true)], args := [d1, d2] }
  | _ => none }
def coordTellsRow : OpenClaim := { program := "ytlbdpnlmdcajbaa", sum := "e91153cc64abe83046c5c9d8a90b0933b1e0a7dd7d54be7ca8c99598516e6e32", func := "headrace/headracelaw22.CoordTells", spec := "coordTells", inPlace := ["slices.overlaps[headrace/api.Ack]"], unfollowed := true, recurses := true, apart := false }
def CoordTellsSaid : Prop := coordTellsRow.holds Try.pinned (OpenSpec.ofChange coordTellsSpec)

/-- ITS FALSE NEIGHBOUR: 'it returns false'. Refute it at one input. -/
def coordTellsWrong : ChangeSpec := { name := "coordTells", fn := fun _ => fun
  | [d1, d2] => { results := [.lit (.bool false)], args := [d1, d2] }
  | _ => none }
def CoordTellsWrongFalsely : Prop := coordTellsRow.holds Try.pinned (OpenSpec.ofChange coordTellsWrong)

/-- 'headracelaw22.CoordGathers': WHATEVER THE INPUT: true; the input reads as it did. -/
def coordGathersSpec : ChangeSpec := { name := "coordGathers", fn := fun _ => fun
  | [d1, d2] => { results := [.lit (.bool true)], args := [d1, d2] }
  | _ => none }
def coordGathersRow : OpenClaim := { program := "ytlbdpnlmdcajbaa", sum := "e91153cc64abe83046c5c9d8a90b0933b1e0a7dd7d54be7ca8c99598516e6e32", func := "headrace/headracelaw22.CoordGathers", spec := "coordGathers", inPlace := ["slices.overlaps[headrace/api.Ack]"], unfollowed := true, recurses := true, apart := false }
def CoordGathersSaid : Prop := coordGathersRow.holds Try.pinned (OpenSpec.ofChange coordGathersSpec)

/-- ITS FALSE NEIGHBOUR: 'it returns false'. Refute it at one input. -/
def coordGathersWrong : ChangeSpec := { name := "coordGathers", fn := fun _ => fun
  | [d1, d2] => { results := [.lit (.bool false)], args := [d1, d2] }
  | _ => none }
def CoordGathersWrongFalsely : Prop := coordGathersRow.holds Try.pinned (OpenSpec.ofChange coordGathersWrong)

/- THE SECOND FORM. 'bulk': how many values and letters a reading holds, each counted each time it is reached (what is shared counts as often as it is met; a slice's spare places count too). A statement '..UptoSaid' is the law's where the arguments, and the package variables that the reading takes, are together of bulk at most 1048576: NARROWER than '..Said'. Prove '..Said' where nothing that the law and all that it calls make is longer than what came in: it says more and counts as full. Else prove '..UptoSaid'. A law counts once. -/
mutual
def uptoBulk {H : Type} : DataW H → Nat
  | .lit (.string bytes) => bytes.length + 1
  | .lit _ => 1
  | .nil => 1
  | .ptr d => uptoBulk d + 1
  | .slice elems spare => uptoBulkAll elems + uptoBulkAll spare + 1
  | .agg parts => uptoBulkAll parts + 1
  | .iface _ d => uptoBulk d + 1
  | .map entries => uptoBulkEntries entries + 1
  | .held _ => 1
def uptoBulkAll {H : Type} : List (DataW H) → Nat
  | [] => 0
  | d :: r => uptoBulk d + uptoBulkAll r
def uptoBulkEntries {H : Type} : List (Lit × DataW H) → Nat
  | [] => 0
  | x :: r => uptoBulkEntry x + uptoBulkEntries r
def uptoBulkEntry {H : Type} : Lit × DataW H → Nat
  | (.string bytes, d) => bytes.length + uptoBulk d + 1
  | (_, d) => uptoBulk d + 1
 end
def uptoSmall : (H : Type) → List (DataW H) → Bool := fun _ ds => decide (uptoBulkAll ds ≤ 1048576)
def OpenSpec.upto (s : _root_.Go.ChangeSpec) : _root_.Go.OpenSpec := { _root_.Go.OpenSpec.ofChange s with cond := some uptoSmall }

/-- 'headracelaw22.CoordNews', WHERE WHAT IT READS IS OF BULK AT MOST 1048576: true; the input reads as it did. -/
def coordNewsUptoRow : OpenClaim := { program := "ytlbdpnlmdcajbaa", sum := "e91153cc64abe83046c5c9d8a90b0933b1e0a7dd7d54be7ca8c99598516e6e32", func := "headrace/headracelaw22.CoordNews", spec := "coordNews", inPlace := ["slices.overlaps[headrace/api.Ack]"], unfollowed := true, recurses := true, apart := false, narrowed := true }
def CoordNewsUptoSaid : Prop := coordNewsUptoRow.holds Try.pinned (OpenSpec.upto coordNewsSpec)

/-- 'headracelaw22.CoordEpochs', WHERE WHAT IT READS IS OF BULK AT MOST 1048576: true; the input reads as it did. -/
def coordEpochsUptoRow : OpenClaim := { program := "ytlbdpnlmdcajbaa", sum := "e91153cc64abe83046c5c9d8a90b0933b1e0a7dd7d54be7ca8c99598516e6e32", func := "headrace/headracelaw22.CoordEpochs", spec := "coordEpochs", inPlace := ["slices.overlaps[headrace/api.Ack]"], unfollowed := true, recurses := true, apart := false, narrowed := true }
def CoordEpochsUptoSaid : Prop := coordEpochsUptoRow.holds Try.pinned (OpenSpec.upto coordEpochsSpec)

/-- 'headracelaw22.CoordDoes', WHERE WHAT IT READS IS OF BULK AT MOST 1048576: true; the input reads as it did. -/
def coordDoesUptoRow : OpenClaim := { program := "ytlbdpnlmdcajbaa", sum := "e91153cc64abe83046c5c9d8a90b0933b1e0a7dd7d54be7ca8c99598516e6e32", func := "headrace/headracelaw22.CoordDoes", spec := "coordDoes", inPlace := ["slices.overlaps[headrace/api.Ack]"], unfollowed := true, recurses := true, apart := false, narrowed := true }
def CoordDoesUptoSaid : Prop := coordDoesUptoRow.holds Try.pinned (OpenSpec.upto coordDoesSpec)

/-- 'headracelaw22.CoordRises', WHERE WHAT IT READS IS OF BULK AT MOST 1048576: true; the input reads as it did. -/
def coordRisesUptoRow : OpenClaim := { program := "ytlbdpnlmdcajbaa", sum := "e91153cc64abe83046c5c9d8a90b0933b1e0a7dd7d54be7ca8c99598516e6e32", func := "headrace/headracelaw22.CoordRises", spec := "coordRises", inPlace := ["slices.overlaps[headrace/api.Ack]"], unfollowed := true, recurses := true, apart := false, narrowed := true }
def CoordRisesUptoSaid : Prop := coordRisesUptoRow.holds Try.pinned (OpenSpec.upto coordRisesSpec)

/-- 'headracelaw22.CoordTells', WHERE WHAT IT READS IS OF BULK AT MOST 1048576: true; the input reads as it did. -/
def coordTellsUptoRow : OpenClaim := { program := "ytlbdpnlmdcajbaa", sum := "e91153cc64abe83046c5c9d8a90b0933b1e0a7dd7d54be7ca8c99598516e6e32", func := "headrace/headracelaw22.CoordTells", spec := "coordTells", inPlace := ["slices.overlaps[headrace/api.Ack]"], unfollowed := true, recurses := true, apart := false, narrowed := true }
def CoordTellsUptoSaid : Prop := coordTellsUptoRow.holds Try.pinned (OpenSpec.upto coordTellsSpec)

/-- 'headracelaw22.CoordGathers', WHERE WHAT IT READS IS OF BULK AT MOST 1048576: true; the input reads as it did. -/
def coordGathersUptoRow : OpenClaim := { program := "ytlbdpnlmdcajbaa", sum := "e91153cc64abe83046c5c9d8a90b0933b1e0a7dd7d54be7ca8c99598516e6e32", func := "headrace/headracelaw22.CoordGathers", spec := "coordGathers", inPlace := ["slices.overlaps[headrace/api.Ack]"], unfollowed := true, recurses := true, apart := false, narrowed := true }
def CoordGathersUptoSaid : Prop := coordGathersUptoRow.holds Try.pinned (OpenSpec.upto coordGathersSpec)

end Rows
end Go.Proofs.Ytlbdpnlmdcajbaa
