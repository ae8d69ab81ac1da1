/- What arguments are. -/
import Derived.Test.YtmkncbddjnaklaaL
namespace Go.Proofs.Ytmkncbddjnaklaa
open Go.RowKit
open Nat renaming reduceEqDiff → nA, reduceLT → nB, reduceLeDiff → nC, reduceAdd → nD, reduceMul → nE, reduceSub → nF, reduceBEq → nG
open Int renaming reduceToNat → iA, reduceLT → iB, reduceLE → iC, reduceEq → iD
open Bool renaming and_eq_true → bA, or_eq_true → bB, or_eq_false_iff → bC, and_eq_false_iff → bD, not_eq_true' → bE, not_eq_false' → bF, not_true → bG, not_false → bH
set_option linter.all false
set_option maxHeartbeats 4000000
attribute [local irreducible] AW Does ACall tE tS tB tZ

set_option maxRecDepth 100000 in
theorem shp_i {n : Nat} {row : List AV} (h : Shp Try.prog (n + 1) 3 row) : ∃ x : Int, row = i1 x ∧ True := by
  obtain ⟨x, rfl, _⟩ := shp_int tU3 h
  exact ⟨x, rfl, trivial⟩
set_option maxRecDepth 100000 in
theorem shp_j {n : Nat} {row : List AV} (h : Shp Try.prog (n + 1) 2 row) : ∃ x : Int, row = i1 x ∧ i64b x := by
  obtain ⟨x, rfl, g⟩ := shp_int tU2 h
  exact ⟨x, rfl, bnd_i64 g⟩
set_option maxRecDepth 100000 in
theorem shp_is {n : Nat} {row : List AV} (h : Shp Try.prog (n + 2) 22 row) : ∃ l : List Int, row = [.l 1 (l.map i1)] ∧ l.length ≤ maxLen ∧ ∀ x ∈ l, True := by
  obtain ⟨l, rfl, hl, hg⟩ := shp_slice (P := Try.prog) (n := n + 1) (f := i1) (good := fun x : Int => True) (sz := 1) tU22 (by kernel_rfl) (fun r hr => by obtain ⟨x, e, g⟩ := shp_i hr; exact ⟨x, e, by first | exact g | trivial⟩) h
  exact ⟨l, rfl, hl, hg⟩
set_option maxRecDepth 100000 in
theorem shp_js {n : Nat} {row : List AV} (h : Shp Try.prog (n + 2) 29 row) : ∃ l : List Int, row = [.l 1 (l.map i1)] ∧ l.length ≤ maxLen ∧ ∀ x ∈ l, i64b x := by
  obtain ⟨l, rfl, hl, hg⟩ := shp_slice (P := Try.prog) (n := n + 1) (f := i1) (good := fun x : Int => i64b x) (sz := 1) tU29 (by kernel_rfl) (fun r hr => by obtain ⟨x, e, g⟩ := shp_j hr; exact ⟨x, e, by first | exact g | trivial⟩) h
  exact ⟨l, rfl, hl, hg⟩
set_option maxRecDepth 100000 in
theorem shp_op {n : Nat} {row : List AV} (h : Shp Try.prog (n + 3) 24 row) : ∃ o : OpD, row = OpD.av o ∧ (o.ins.length ≤ maxLen ∧ o.A ≤ 9223372036854775807) := by
  have h0 := shp_struct (P := Try.prog) (n := n + 2) [3, 3, 22, 2, 2] Try.underlying24 (by kernel_rfl) h
  obtain ⟨p0, r0, rfl, a0, h1⟩ := shpL_cons h0
  obtain ⟨p1, r1, rfl, a1, h2⟩ := shpL_cons h1
  obtain ⟨p2, r2, rfl, a2, h3⟩ := shpL_cons h2
  obtain ⟨p3, r3, rfl, a3, h4⟩ := shpL_cons h3
  obtain ⟨p4, r4, rfl, a4, h5⟩ := shpL_cons h4
  cases shpL_nil h5
  obtain ⟨a, rfl, ga⟩ := shp_int tU3 a0
  obtain ⟨b, rfl, gb⟩ := shp_int tU3 a1
  obtain ⟨l, rfl, gl, kl⟩ := shp_is a2
  obtain ⟨c, rfl, gc⟩ := shp_int tU2 a3
  obtain ⟨d, rfl, gd⟩ := shp_int tU2 a4
  exact ⟨⟨a, b, l, c, d⟩, rfl, ⟨gl, (bnd_i64 gc).2⟩⟩
set_option maxRecDepth 100000 in
theorem shp_cell {n : Nat} {row : List AV} (h : Shp Try.prog (n + 2) 26 row) : ∃ c : CellD, row = CellD.av c ∧ (c.ok) := by
  have h0 := shp_struct (P := Try.prog) (n := n + 1) [2, 2] Try.underlying26 (by kernel_rfl) h
  obtain ⟨p0, r0, rfl, a0, h1⟩ := shpL_cons h0
  obtain ⟨p1, r1, rfl, a1, h2⟩ := shpL_cons h1
  cases shpL_nil h2
  obtain ⟨a, rfl, ga⟩ := shp_int tU2 a0
  obtain ⟨b, rfl, gb⟩ := shp_int tU2 a1
  exact ⟨⟨a, b⟩, rfl, ⟨bnd_i64 ga, bnd_i64 gb⟩⟩
set_option maxRecDepth 100000 in
theorem shp_asked {n : Nat} {row : List AV} (h : Shp Try.prog (n + 4) 28 row) : ∃ x : As, row = As.av x ∧ (OkA x) := by
  have h0 := shp_struct (P := Try.prog) (n := n + 3) [24, 26] Try.underlying28 (by kernel_rfl) h
  obtain ⟨p0, r0, rfl, a0, h1⟩ := shpL_cons h0
  obtain ⟨p1, r1, rfl, a1, h2⟩ := shpL_cons h1
  cases shpL_nil h2
  obtain ⟨o, rfl, go⟩ := shp_op a0
  obtain ⟨c, rfl, gc⟩ := shp_cell a1
  exact ⟨⟨o, c⟩, rfl, ⟨go.1, go.2, gc⟩⟩
set_option maxRecDepth 100000 in
theorem shp_askeds {n : Nat} {row : List AV} (h : Shp Try.prog (n + 5) 38 row) : ∃ l : List As, row = [.l 7 (l.map As.av)] ∧ l.length ≤ maxLen ∧ ∀ x ∈ l, OkA x := by
  obtain ⟨l, rfl, hl, hg⟩ := shp_slice (P := Try.prog) (n := n + 4) (f := As.av) (good := fun x : As => OkA x) (sz := 7) tU38 (by kernel_rfl) (fun r hr => by obtain ⟨x, e, g⟩ := shp_asked hr; exact ⟨x, e, by first | exact g | trivial⟩) h
  exact ⟨l, rfl, hl, hg⟩
end Go.Proofs.Ytmkncbddjnaklaa
