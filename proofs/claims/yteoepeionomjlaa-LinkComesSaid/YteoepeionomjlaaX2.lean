/- What arguments are: steps of a link. -/
import Derived.Test.YteoepeionomjlaaX
import Derived.Test.YteoepeionomjlaaP6
namespace Go.Proofs.Yteoepeionomjlaa
open Go.RowKit
open Nat renaming reduceEqDiff → nA, reduceLT → nB, reduceLeDiff → nC, reduceAdd → nD, reduceMul → nE, reduceSub → nF, reduceBEq → nG
open Int renaming reduceToNat → iA, reduceLT → iB, reduceLE → iC, reduceEq → iD
open Bool renaming and_eq_true → bA, or_eq_true → bB, or_eq_false_iff → bC, and_eq_false_iff → bD, not_eq_true' → bE, not_eq_false' → bF, not_true → bG, not_false → bH
set_option linter.all false
set_option maxHeartbeats 4000000
attribute [local irreducible] AW Does

set_option maxRecDepth 100000 in
theorem shp_st {n : Nat} {row : List AV} (h : Shp Try.prog (n + 5) 79 row) : ∃ x : St, row = St.av x ∧ True := by
  have h1 := shp_struct (P := Try.prog) (n := n + 4) [3, 3, 4, 33, 35] Try.underlying79 (by kernel_rfl) h
  obtain ⟨p1, r1, rfl, a1, h2⟩ := shpL_cons h1
  obtain ⟨p2, r2, rfl, a2, h3⟩ := shpL_cons h2
  obtain ⟨p3, r3, rfl, a3, h4⟩ := shpL_cons h3
  obtain ⟨p4, r4, rfl, a4, h5⟩ := shpL_cons h4
  obtain ⟨p5, r5, rfl, a5, h6⟩ := shpL_cons h5
  cases shpL_nil h6
  obtain ⟨x1, rfl, _⟩ := shp_int tU3 a1
  obtain ⟨x2, rfl, _⟩ := shp_int tU3 a2
  obtain ⟨x3, rfl⟩ := shp_bool tU4 a3
  obtain ⟨e, rfl, _⟩ := shp_el a4
  obtain ⟨p, rfl, _⟩ := shp_pk a5
  exact ⟨⟨x1, x2, x3, e, p⟩, rfl, trivial⟩
set_option maxRecDepth 100000 in
theorem shp_sts {n : Nat} {row : List AV} (h : Shp Try.prog (n + 6) 74 row) : ∃ l : List St, row = [.l 17 (l.map St.av)] ∧ l.length ≤ maxLen := by
  obtain ⟨l, rfl, hl, _⟩ := shp_slice (P := Try.prog) (n := n + 5) (f := St.av) (good := fun _ => True) (sz := 17) tU74 (by kernel_rfl) (fun r hr => shp_st hr) h
  exact ⟨l, rfl, hl⟩
end Go.Proofs.Yteoepeionomjlaa
