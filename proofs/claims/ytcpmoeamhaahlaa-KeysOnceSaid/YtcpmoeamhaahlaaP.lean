/- What arguments are: records, shares, inputs, turns. -/
import Derived.Test.YtcpmoeamhaahlaaN
namespace Go.Proofs.Ytcpmoeamhaahlaa
open Go.RowKit
set_option linter.all false
set_option maxHeartbeats 4000000
attribute [local irreducible] AW Does

set_option maxRecDepth 100000 in
theorem shp_rec {n : Nat} {row : List AV} (h : Shp Try.prog (n + 2) 32 row) : ∃ r : Rec, row = Rec.av r ∧ True := by
  have h1 := shp_struct (P := Try.prog) (n := n + 1) [3, 3, 2] Try.underlying32 (by kernel_rfl) h
  obtain ⟨p1, r1, rfl, a1, h2⟩ := shpL_cons h1
  obtain ⟨p2, r2, rfl, a2, h3⟩ := shpL_cons h2
  obtain ⟨p3, r3, rfl, a3, h4⟩ := shpL_cons h3
  cases shpL_nil h4
  obtain ⟨x1, rfl, _⟩ := shp_int tU3 a1
  obtain ⟨x2, rfl, _⟩ := shp_int tU3 a2
  obtain ⟨x3, rfl, _⟩ := shp_int tU2 a3
  exact ⟨⟨x1, x2, x3⟩, rfl, trivial⟩
set_option maxRecDepth 100000 in
theorem shp_share {n : Nat} {row : List AV} (h : Shp Try.prog (n + 2) 47 row) : ∃ i w : Int, row = [ci i, ci w] := by
  have h1 := shp_struct (P := Try.prog) (n := n + 1) [3, 3] Try.underlying47 (by kernel_rfl) h
  obtain ⟨p1, r1, rfl, a1, h2⟩ := shpL_cons h1
  obtain ⟨p2, r2, rfl, a2, h3⟩ := shpL_cons h2
  cases shpL_nil h3
  obtain ⟨x1, rfl, _⟩ := shp_int tU3 a1
  obtain ⟨x2, rfl, _⟩ := shp_int tU3 a2
  exact ⟨x1, x2, rfl⟩
set_option maxRecDepth 100000 in
theorem shp_input {n : Nat} {row : List AV} (h : Shp Try.prog (n + 4) 24 row) : ∃ (src : Int) (l : List Rec), row = [ci src, .l 3 (l.map Rec.av)] ∧ l.length ≤ maxLen := by
  have h1 := shp_struct (P := Try.prog) (n := n + 3) [3, 22] Try.underlying24 (by kernel_rfl) h
  obtain ⟨p1, r1, rfl, a1, h2⟩ := shpL_cons h1
  obtain ⟨p2, r2, rfl, a2, h3⟩ := shpL_cons h2
  cases shpL_nil h3
  obtain ⟨x1, rfl, _⟩ := shp_int tU3 a1
  obtain ⟨l, rfl, hl, _⟩ := shp_slice (f := Rec.av) (good := fun _ => True) (sz := 3) tU22 (by kernel_rfl) (fun r hr => shp_rec hr) a2
  exact ⟨x1, l, rfl, hl⟩
end Go.Proofs.Ytcpmoeamhaahlaa
