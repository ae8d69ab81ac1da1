/- What arguments are: turns. -/
import Derived.Test.YtcpmoeamhaahlaaU
namespace Go.Proofs.Ytcpmoeamhaahlaa
open Go.RowKit
set_option linter.all false
set_option maxHeartbeats 4000000
attribute [local irreducible] AW Does
set_option maxRecDepth 100000 in
theorem shp_turn {n : Nat} {row : List AV} (h : Shp Try.prog (n + 2) 39 row) : ∃ t : Int × Int, row = turnAV t ∧ True := by
  have h1 := shp_struct (P := Try.prog) (n := n + 1) [3, 3] Try.underlying39 (by kernel_rfl) h
  obtain ⟨p1, r1, rfl, a1, h2⟩ := shpL_cons h1
  obtain ⟨p2, r2, rfl, a2, h3⟩ := shpL_cons h2
  cases shpL_nil h3
  obtain ⟨x1, rfl, _⟩ := shp_int tU3 a1
  obtain ⟨x2, rfl, _⟩ := shp_int tU3 a2
  exact ⟨(x1, x2), rfl, trivial⟩
set_option maxRecDepth 100000 in
theorem shp_turns {n : Nat} {row : List AV} (h : Shp Try.prog (n + 3) 25 row) : ∃ l : List (Int × Int), row = [.l 2 (l.map turnAV)] ∧ l.length ≤ maxLen := by
  obtain ⟨l, rfl, hl, _⟩ := shp_slice (P := Try.prog) (n := n + 2) (f := turnAV) (good := fun _ => True) (sz := 2) tU25 (by kernel_rfl) (fun r hr => shp_turn hr) h
  exact ⟨l, rfl, hl⟩
end Go.Proofs.Ytcpmoeamhaahlaa
