/-
  No cell of these rows narrows 'for every input' (looked for: loops, veiled, ifaces, maps, wideKeys, modest, calm, conditions, laid).
  DERIVED. THE GIVEN ROWS OF THIS SEAT. 11 by the template 'for every input the law returns true; each argument reads behind the call as it read before'; 0 by the template 'total and deterministic' (their statements: YtclhhnmafmicpaaTotals.lean).
  GIVEN WITH THE SEED: the statements are not yours to turn. If you find one false, say at which input.
  Laid BY PROGRAM, IN A SANDBOX (cutbox-rows.mjs): the forced cells as the released guide's own fill.sh prints them over the translation d272b4f2ebd1b533… (all of the seat's roots in one cut). By AI agents, Wed Nov 11 2026. No macro, syntax, notation, axiom, sorry.
-/
import Derived.Test.YtclhhnmafmicpaaChecked
import GoSem.Claim
import GoSem.ClaimJoined
import GoSem.ClaimMapViews
import Derived.JoinedTies
import Derived.KernelRfl
namespace Go.Proofs.Ytclhhnmafmicpaa
/- THE CELL 'sum', in the pinned program and in every row, IS THE sha256 OF THE DUMP (.gsa) THAT YtclhhnmafmicpaaProg.lean LOADS. Nothing in Lean hashes anything: it is a label: what it is worth is what the hold of that sum in a sandbox is worth. -/
noncomputable def Try.pinned : Pinned := { name := "ytclhhnmafmicpaa", sum := "d272b4f2ebd1b533236f3b82e38da0158bc8ce891127a4ca476a20327de76601", checked := Try.checked }
namespace Rows
def none {H : Type} : Left H := { results := [], args := [] }

/-- 'headracelaw01.OctetLays': WHATEVER THE INPUT: true; the input reads as it did. -/
def octetLaysSpec : ChangeSpec := { name := "octetLays", fn := fun _ => fun
  | [d1, d2, d3] => { results := [.lit (.bool true)], args := [d1, d2, d3] }
  | _ => none }
def octetLaysRow : OpenClaim := { program := "ytclhhnmafmicpaa", sum := "d272b4f2ebd1b533236f3b82e38da0158bc8ce891127a4ca476a20327de76601", func := "headrace/headracelaw01.OctetLays", spec := "octetLays", unfollowed := true, recurses := true, apart := false }
def OctetLaysSaid : Prop := octetLaysRow.holds Try.pinned (OpenSpec.ofChange octetLaysSpec)

/-- ITS FALSE NEIGHBOUR: 'it returns false'. Refute it at one input. -/
def octetLaysWrong : ChangeSpec := { name := "octetLays", fn := fun _ => fun
  | [d1, d2, d3] => { results := [.lit (.bool false)], args := [d1, d2, d3] }
  | _ => none }
def OctetLaysWrongFalsely : Prop := octetLaysRow.holds Try.pinned (OpenSpec.ofChange octetLaysWrong)

/-- 'headracelaw01.OctetWiden': WHATEVER THE INPUT: true; the input reads as it did. -/
def octetWidenSpec : ChangeSpec := { name := "octetWiden", fn := fun _ => fun
  | [d] => { results := [.lit (.bool true)], args := [d] }
  | _ => none }
def octetWidenRow : OpenClaim := { program := "ytclhhnmafmicpaa", sum := "d272b4f2ebd1b533236f3b82e38da0158bc8ce891127a4ca476a20327de76601", func := "headrace/headracelaw01.OctetWiden", spec := "octetWiden", unfollowed := true, recurses := true, apart := false }
def OctetWidenSaid : Prop := octetWidenRow.holds Try.pinned (OpenSpec.ofChange octetWidenSpec)

/-- ITS FALSE NEIGHBOUR: 'it returns false'. Refute it at one input. -/
def octetWidenWrong : ChangeSpec := { name := "octetWiden", fn := fun _ => fun
  | [d] => { results := [.lit (.bool false)], args := [d] }
  | _ => none }
def OctetWidenWrongFalsely : Prop := octetWidenRow.holds Try.pinned (OpenSpec.ofChange octetWidenWrong)

/-- 'headracelaw01.OctetCasts': WHATEVER THE INPUT: true; the input reads as it did. -/
def octetCastsSpec : ChangeSpec := { name := "octetCasts", fn := fun _ => fun
  | [d] => { results := [.lit (.bool true)], args := [d] }
  | _ => none }
def octetCastsRow : OpenClaim := { program := "ytclhhnmafmicpaa", sum := "d272b4f2ebd1b533236f3b82e38da0158bc8ce891127a4ca476a20327de76601", func := "headrace/headracelaw01.OctetCasts", spec := "octetCasts", unfollowed := true, recurses := true, apart := false }
def OctetCastsSaid : Prop := octetCastsRow.holds Try.pinned (OpenSpec.ofChange octetCastsSpec)

/-- ITS FALSE NEIGHBOUR: 'it returns false'. Refute it at one input. -/
def octetCastsWrong : ChangeSpec := { name := "octetCasts", fn := fun _ => fun
  | [d] => { results := [.lit (.bool false)], args := [d] }
  | _ => none }
def OctetCastsWrongFalsely : Prop := octetCastsRow.holds Try.pinned (OpenSpec.ofChange octetCastsWrong)

/-- 'headracelaw01.OctetGives': WHATEVER THE INPUT: true; the input reads as it did. -/
def octetGivesSpec : ChangeSpec := { name := "octetGives", fn := fun _ => fun
  | [d1, d2] => { results := [.lit (.bool true)], args := [d1, d2] }
  | _ => none }
def octetGivesRow : OpenClaim := { program := "ytclhhnmafmicpaa", sum := "d272b4f2ebd1b533236f3b82e38da0158bc8ce891127a4ca476a20327de76601", func := "headrace/headracelaw01.OctetGives", spec := "octetGives", unfollowed := true, recurses := true, apart := false }
def OctetGivesSaid : Prop := octetGivesRow.holds Try.pinned (OpenSpec.ofChange octetGivesSpec)

/-- ITS FALSE NEIGHBOUR: 'it returns false'. Refute it at one input. -/
def octetGivesWrong : ChangeSpec := { name := "octetGives", fn := fun _ => fun
  | [d1, d2] => { results := [.lit (.bool false)], args := [d1, d2] }
  | _ => none }
def OctetGivesWrongFalsely : Prop := octetGivesRow.holds Try.pinned (OpenSpec.ofChange octetGivesWrong)

/-- 'headracelaw01.OctetNobody': WHATEVER THE INPUT: true; the input reads as it did. -/
def octetNobodySpec : ChangeSpec := { name := "octetNobody", fn := fun _ => fun
  | [d] => { results := [.lit (.bool true)], args := [d] }
  | _ => none }
def octetNobodyRow : OpenClaim := { program := "ytclhhnmafmicpaa", sum := "d272b4f2ebd1b533236f3b82e38da0158bc8ce891127a4ca476a20327de76601", func := "headrace/headracelaw01.OctetNobody", spec := "octetNobody", unfollowed := true, recurses := true, apart := false }
def OctetNobodySaid : Prop := octetNobodyRow.holds Try.pinned (OpenSpec.ofChange octetNobodySpec)

/-- ITS FALSE NEIGHBOUR: 'it returns false'. Refute it at one input. -/
def octetNobodyWrong : ChangeSpec := { name := "octetNobody", fn := fun _ => fun
  | [d] => { results := [.lit (.bool false)], args := [d] }
  | _ => none }
def OctetNobodyWrongFalsely : Prop := octetNobodyRow.holds Try.pinned (OpenSpec.ofChange octetNobodyWrong)

/-- 'headracelaw01.OctetAll': WHATEVER THE INPUT: true; the input reads as it did. -/
def octetAllSpec : ChangeSpec := { name := "octetAll", fn := fun _ => fun
  | [d1, d2] => { results := [.lit (.bool true)], args := [d1, d2] }
  | _ => none }
def octetAllRow : OpenClaim := { program := "ytclhhnmafmicpaa", sum := "d272b4f2ebd1b533236f3b82e38da0158bc8ce891127a4ca476a20327de76601", func := "headrace/headracelaw01.OctetAll", spec := "octetAll", unfollowed := true, recurses := true, apart := false }
def OctetAllSaid : Prop := octetAllRow.holds Try.pinned (OpenSpec.ofChange octetAllSpec)

/-- ITS FALSE NEIGHBOUR: 'it returns false'. Refute it at one input. -/
def octetAllWrong : ChangeSpec := { name := "octetAll", fn := fun _ => fun
  | [d1, d2] => { results := [.lit (.bool false)], args := [d1, d2] }
  | _ => none }
def OctetAllWrongFalsely : Prop := octetAllRow.holds Try.pinned (OpenSpec.ofChange octetAllWrong)

/-- 'headracelaw03.SumIs': WHATEVER THE INPUT: true; the input reads as it did. -/
def sumIsSpec : ChangeSpec := { name := "sumIs", fn := fun _ => fun
  | [d1, d2] => { results := [.lit (.bool true)], args := [d1, d2] }
  | _ => none }
def sumIsRow : OpenClaim := { program := "ytclhhnmafmicpaa", sum := "d272b4f2ebd1b533236f3b82e38da0158bc8ce891127a4ca476a20327de76601", func := "headrace/headracelaw03.SumIs", spec := "sumIs", unfollowed := true, recurses := true, apart := false }
def SumIsSaid : Prop := sumIsRow.holds Try.pinned (OpenSpec.ofChange sumIsSpec)

/-- ITS FALSE NEIGHBOUR: 'it returns false'. Refute it at one input. -/
def sumIsWrong : ChangeSpec := { name := "sumIs", fn := fun _ => fun
  | [d1, d2] => { results := [.lit (.bool false)], args := [d1, d2] }
  | _ => none }
def SumIsWrongFalsely : Prop := sumIsRow.holds Try.pinned (OpenSpec.ofChange sumIsWrong)

/-- 'headracelaw03.SumSeals': WHATEVER THE INPUT: true; the input reads as it did. -/
def sumSealsSpec : ChangeSpec := { name := "sumSeals", fn := fun _ => fun
  | [d] => { results := [.lit (.bool true)], args := [d] }
  | _ => none }
def sumSealsRow : OpenClaim := { program := "ytclhhnmafmicpaa", sum := "d272b4f2ebd1b533236f3b82e38da0158bc8ce891127a4ca476a20327de76601", func := "headrace/headracelaw03.SumSeals", spec := "sumSeals", unfollowed := true, recurses := true, apart := false }
def SumSealsSaid : Prop := sumSealsRow.holds Try.pinned (OpenSpec.ofChange sumSealsSpec)

/-- ITS FALSE NEIGHBOUR: 'it returns false'. Refute it at one input. -/
def sumSealsWrong : ChangeSpec := { name := "sumSeals", fn := fun _ => fun
  | [d] => { results := [.lit (.bool false)], args := [d] }
  | _ => none }
def SumSealsWrongFalsely : Prop := sumSealsRow.holds Try.pinned (OpenSpec.ofChange sumSealsWrong)

/-- 'headracelaw03.SumTurned': WHATEVER THE INPUT: true; the input reads as it did. -/
def sumTurnedSpec : ChangeSpec := { name := "sumTurned", fn := fun _ => fun
  | [d1, d2, d3] => { results := [.lit (.bool true)], args := [d1, d2, d3] }
  | _ => none }
def sumTurnedRow : OpenClaim := { program := "ytclhhnmafmicpaa", sum := "d272b4f2ebd1b533236f3b82e38da0158bc8ce891127a4ca476a20327de76601", func := "headrace/headracelaw03.SumTurned", spec := "sumTurned", unfollowed := true, recurses := true, apart := false }
def SumTurnedSaid : Prop := sumTurnedRow.holds Try.pinned (OpenSpec.ofChange sumTurnedSpec)

/-- ITS FALSE NEIGHBOUR: 'it returns false'. Refute it at one input. -/
def sumTurnedWrong : ChangeSpec := { name := "sumTurned", fn := fun _ => fun
  | [d1, d2, d3] => { results := [.lit (.bool false)], args := [d1, d2, d3] }
  | _ => none }
def SumTurnedWrongFalsely : Prop := sumTurnedRow.holds Try.pinned (OpenSpec.ofChange sumTurnedWrong)

/-- 'headracelaw03.SumJoins': WHATEVER THE INPUT: true; the input reads as it did. -/
def sumJoinsSpec : ChangeSpec := { name := "sumJoins", fn := fun _ => fun
  | [d1, d2] => { results := [.lit (.bool true)], args := [d1, d2] }
  | _ => none }
def sumJoinsRow : OpenClaim := { program := "ytclhhnmafmicpaa", sum := "d272b4f2ebd1b533236f3b82e38da0158bc8ce891127a4ca476a20327de76601", func := "headrace/headracelaw03.SumJoins", spec := "sumJoins", unfollowed := true, recurses := true, apart := false }
def SumJoinsSaid : Prop := sumJoinsRow.holds Try.pinned (OpenSpec.ofChange sumJoinsSpec)

/-- ITS FALSE NEIGHBOUR: 'it returns false'. Refute it at one input. -/
def sumJoinsWrong : ChangeSpec := { name := "sumJoins", fn := fun _ => fun
  | [d1, d2] => { results := [.lit (.bool false)], args := [d1, d2] }
  | _ => none }
def SumJoinsWrongFalsely : Prop := sumJoinsRow.holds Try.pinned (OpenSpec.ofChange sumJoinsWrong)

/-- 'headracelaw03.SumOpened': WHATEVER THE INPUT: true; the input reads as it did. -/
def sumOpenedSpec : ChangeSpec := { name := "sumOpened", fn := fun _ => fun
  | [d1, d2, d3] => { results := [.lit (.bool true)], args := [d1, d2, d3] }
  | _ => none }
def sumOpenedRow : OpenClaim := { program := "ytclhhnmafmicpaa", sum := "d272b4f2ebd1b533236f3b82e38da0158bc8ce891127a4ca476a20327de76601", func := "headrace/headracelaw03.SumOpened", spec := "sumOpened", unfollowed := true, recurses := true, apart := false }
def SumOpenedSaid : Prop := sumOpenedRow.holds Try.pinned (OpenSpec.ofChange sumOpenedSpec)

/-- ITS FALSE NEIGHBOUR: 'it returns false'. Refute it at one input. -/
def sumOpenedWrong : ChangeSpec := { name := "sumOpened", fn := fun _ => fun
  | [d1, d2, d3] => { results := [.lit (.bool false)], args := [d1, d2, d3] }
  | _ => none }
def SumOpenedWrongFalsely : Prop := sumOpenedRow.holds Try.pinned (OpenSpec.ofChange sumOpenedWrong)

/- THE SECOND FORM. 'bulk': how many values and letters a reading holds, each counted each time it is reached (what is shared counts as often as it is met; a slice's spare places count too). A statement '..UptoSaid' is the law's where the arguments, and the package variables that the reading takes, are together of bulk at most 1048576: NARROWER than '..Said'. Prove '..Said' where nothing that the law and all that it calls make is longer than what came in: it says more and counts as full. Else prove '..UptoSaid'. A law counts once. -/
mutual
def uptoBulk {H : Type} : DataW H → Nat
  | .lit (.string bytes) => bytes.length + 1
  | .lit _ => 1
  | .nil => 1
  | .ptr d => uptoBulk d + 1
  | .slice elems spare => uptoBulkAll elems + uptoBulkAll spare + 1
  | .agg parts => uptoBulkAll parts + 1
  | .iface _ d => uptoBulk d + 1
  | .map entries => uptoBulkEntries entries + 1
  | .held _ => 1
def uptoBulkAll {H : Type} : List (DataW H) → Nat
  | [] => 0
  | d :: r => uptoBulk d + uptoBulkAll r
def uptoBulkEntries {H : Type} : List (Lit × DataW H) → Nat
  | [] => 0
  | x :: r => uptoBulkEntry x + uptoBulkEntries r
def uptoBulkEntry {H : Type} : Lit × DataW H → Nat
  | (.string bytes, d) => bytes.length + uptoBulk d + 1
  | (_, d) => uptoBulk d + 1
 end
def uptoSmall : (H : Type) → List (DataW H) → Bool := fun _ ds => decide (uptoBulkAll ds ≤ 1048576)
def OpenSpec.upto (s : _root_.Go.ChangeSpec) : _root_.Go.OpenSpec := { _root_.Go.OpenSpec.ofChange s with cond := some uptoSmall }

/-- 'headracelaw01.OctetLays', WHERE WHAT IT READS IS OF BULK AT MOST 1048576: true; the input reads as it did. -/
def octetLaysUptoRow : OpenClaim := { program := "ytclhhnmafmicpaa", sum := "d272b4f2ebd1b533236f3b82e38da0158bc8ce891127a4ca476a20327de76601", func := "headrace/headracelaw01.OctetLays", spec := "octetLays", unfollowed := true, recurses := true, apart := false, narrowed := true }
def OctetLaysUptoSaid : Prop := octetLaysUptoRow.holds Try.pinned (OpenSpec.upto octetLaysSpec)

/-- 'headracelaw01.OctetWiden', WHERE WHAT IT READS IS OF BULK AT MOST 1048576: true; the input reads as it did. -/
def octetWidenUptoRow : OpenClaim := { program := "ytclhhnmafmicpaa", sum := "d272b4f2ebd1b533236f3b82e38da0158bc8ce891127a4ca476a20327de76601", func := "headrace/headracelaw01.OctetWiden", spec := "octetWiden", unfollowed := true, recurses := true, apart := false, narrowed := true }
def OctetWidenUptoSaid : Prop := octetWidenUptoRow.holds Try.pinned (OpenSpec.upto octetWidenSpec)

/-- 'headracelaw01.OctetCasts', WHERE WHAT IT READS IS OF BULK AT MOST 1048576: true; the input reads as it did. -/
def octetCastsUptoRow : OpenClaim := { program := "ytclhhnmafmicpaa", sum := "d272b4f2ebd1b533236f3b82e38da0158bc8ce891127a4ca476a20327de76601", func := "headrace/headracelaw01.OctetCasts", spec := "octetCasts", unfollowed := true, recurses := true, apart := false, narrowed := true }
def OctetCastsUptoSaid : Prop := octetCastsUptoRow.holds Try.pinned (OpenSpec.upto octetCastsSpec)

/-- 'headracelaw01.OctetGives', WHERE WHAT IT READS IS OF BULK AT MOST 1048576: true; the input reads as it did. -/
def octetGivesUptoRow : OpenClaim := { program := "ytclhhnmafmicpaa", sum := "d272b4f2ebd1b533236f3b82e38da0158bc8ce891127a4ca476a20327de76601", func := "headrace/headracelaw01.OctetGives", spec := "octetGives", unfollowed := true, recurses := true, apart := false, narrowed := true }
def OctetGivesUptoSaid : Prop := octetGivesUptoRow.holds Try.pinned (OpenSpec.upto octetGivesSpec)

/-- 'headracelaw01.OctetNobody', WHERE WHAT IT READS IS OF BULK AT MOST 1048576: true; the input reads as it did. -/
def octetNobodyUptoRow : OpenClaim := { program := "ytclhhnmafmicpaa", sum := "d272b4f2ebd1b533236f3b82e38da0158bc8ce891127a4ca476a20327de76601", func := "headrace/headracelaw01.OctetNobody", spec := "octetNobody", unfollowed := true, recurses := true, apart := false, narrowed := true }
def OctetNobodyUptoSaid : Prop := octetNobodyUptoRow.holds Try.pinned (OpenSpec.upto octetNobodySpec)

/-- 'headracelaw01.OctetAll', WHERE WHAT IT READS IS OF BULK AT MOST 1048576: true; the input reads as it did. -/
def octetAllUptoRow : OpenClaim := { program := "ytclhhnmafmicpaa", sum := "d272b4f2ebd1b533236f3b82e38da0158bc8ce891127a4ca476a20327de76601", func := "headrace/headracelaw01.OctetAll", spec := "octetAll", unfollowed := true, recurses := true, apart := false, narrowed := true }
def OctetAllUptoSaid : Prop := octetAllUptoRow.holds Try.pinned (OpenSpec.upto octetAllSpec)

/-- 'headracelaw03.SumIs', WHERE WHAT IT READS IS OF BULK AT MOST 1048576: true; the input reads as it did. -/
def sumIsUptoRow : OpenClaim := { program := "ytclhhnmafmicpaa", sum := "d272b4f2ebd1b533236f3b82e38da0158bc8ce891127a4ca476a20327de76601", func := "headrace/headracelaw03.SumIs", spec := "sumIs", unfollowed := true, recurses := true, apart := false, narrowed := true }
def SumIsUptoSaid : Prop := sumIsUptoRow.holds Try.pinned (OpenSpec.upto sumIsSpec)

/-- 'headracelaw03.SumSeals', WHERE WHAT IT READS IS OF BULK AT MOST 1048576: true; the input reads as it did. -/
def sumSealsUptoRow : OpenClaim := { program := "ytclhhnmafmicpaa", sum := "d272b4f2ebd1b533236f3b82e38da0158bc8ce891127a4ca476a20327de76601", func := "headrace/headracelaw03.SumSeals", spec := "sumSeals", unfollowed := true, recurses := true, apart := false, narrowed := true }
def SumSealsUptoSaid : Prop := sumSealsUptoRow.holds Try.pinned (OpenSpec.upto sumSealsSpec)

/-- 'headracelaw03.SumTurned', WHERE WHAT IT READS IS OF BULK AT MOST 1048576: true; the input reads as it did. -/
def sumTurnedUptoRow : OpenClaim := { program := "ytclhhnmafmicpaa", sum := "d272b4f2ebd1b533236f3b82e38da0158bc8ce891127a4ca476a20327de76601", func := "headrace/headracelaw03.SumTurned", spec := "sumTurned", unfollowed := true, recurses := true, apart := false, narrowed := true }
def SumTurnedUptoSaid : Prop := sumTurnedUptoRow.holds Try.pinned (OpenSpec.upto sumTurnedSpec)

/-- 'headracelaw03.SumJoins', WHERE WHAT IT READS IS OF BULK AT MOST 1048576: true; the input reads as it did. -/
def sumJoinsUptoRow : OpenClaim := { program := "ytclhhnmafmicpaa", sum := "d272b4f2ebd1b533236f3b82e38da0158bc8ce891127a4ca476a20327de76601", func := "headrace/headracelaw03.SumJoins", spec := "sumJoins", unfollowed := true, recurses := true, apart := false, narrowed := true }
def SumJoinsUptoSaid : Prop := sumJoinsUptoRow.holds Try.pinned (OpenSpec.upto sumJoinsSpec)

/-- 'headracelaw03.SumOpened', WHERE WHAT IT READS IS OF BULK AT MOST 1048576: true; the input reads as it did. -/
def sumOpenedUptoRow : OpenClaim := { program := "ytclhhnmafmicpaa", sum := "d272b4f2ebd1b533236f3b82e38da0158bc8ce891127a4ca476a20327de76601", func := "headrace/headracelaw03.SumOpened", spec := "sumOpened", unfollowed := true, recurses := true, apart := false, narrowed := true }
def SumOpenedUptoSaid : Prop := sumOpenedUptoRow.holds Try.pinned (OpenSpec.upto sumOpenedSpec)

end Rows
end Go.Proofs.Ytclhhnmafmicpaa
