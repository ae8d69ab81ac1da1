/- What a law of chapter 08 is handed, read as lists and numbers. Conditions: as each theorem states them. -/
import Derived.Test.YtipblkdekppbfaaP
import Derived.Test.YtipblkdekppbfaaO
namespace Go.Proofs.Ytipblkdekppbfaa
open Go.ChangeShapes Go.WideShapes Go.ChangeAt Go.RowKit
set_option linter.unusedVariables false

theorem encI_reads {P : Program} {e : TypeId} (he : P.underlying e = some (.int .i64)) : (encI e).Reads P i64b := by
  intro H enc w base spare held fuel cs y h
  obtain ⟨n, rfl, _, hw⟩ := DataW.trod_int (t := e) he h
  exact ⟨n, rfl, bounds_i64 hw⟩
theorem eI_reads : EI.Reads Try.prog i64b := encI_reads Try.underlying2
theorem cells2 : Try.prog.cellsOf 2 = 1 := by kernel_rfl
end Go.Proofs.Ytipblkdekppbfaa
