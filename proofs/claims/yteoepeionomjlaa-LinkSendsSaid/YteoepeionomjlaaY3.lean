/- What the claim's frame leans on. -/
import Derived.Test.YteoepeionomjlaaX
import Derived.Test.YteoepeionomjlaaW3
namespace Go.Proofs.Yteoepeionomjlaa
open Go.RowKit
set_option linter.all false
set_option maxHeartbeats 4000000
attribute [local irreducible] AW Does

set_option maxRecDepth 100000 in
theorem shp_told {n : Nat} {row : List AV} (h : Shp Try.prog (n + 5) 37 row) : ∃ x : Told, row = Told.av x ∧ True := by
  have h1 := shp_struct (P := Try.prog) (n := n + 4) [3, 33, 35] Try.underlying37 (by kernel_rfl) h
  obtain ⟨p1, r1, rfl, a1, h2⟩ := shpL_cons h1
  obtain ⟨p2, r2, rfl, a2, h3⟩ := shpL_cons h2
  obtain ⟨p3, r3, rfl, a3, h4⟩ := shpL_cons h3
  cases shpL_nil h4
  obtain ⟨x1, rfl, _⟩ := shp_int tU3 a1
  obtain ⟨e, rfl, _⟩ := shp_el a2
  obtain ⟨p, rfl, _⟩ := shp_pk a3
  exact ⟨⟨x1, e, p⟩, rfl, trivial⟩
set_option maxRecDepth 100000 in
theorem shp_tolds {n : Nat} {row : List AV} (h : Shp Try.prog (n + 6) 27 row) : ∃ l : List Told, row = [.l 15 (l.map Told.av)] ∧ l.length ≤ maxLen := by
  obtain ⟨l, rfl, hl, _⟩ := shp_slice (P := Try.prog) (n := n + 5) (f := Told.av) (good := fun _ => True) (sz := 15) tU27 (by kernel_rfl) (fun r hr => shp_told hr) h
  exact ⟨l, rfl, hl⟩
end Go.Proofs.Yteoepeionomjlaa
