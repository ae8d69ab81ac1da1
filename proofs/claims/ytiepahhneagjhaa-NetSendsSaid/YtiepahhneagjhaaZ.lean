/- What a list of ops is that a law is handed. -/
import Derived.Test.YtiepahhneagjhaaY
import Derived.Test.YtiepahhneagjhaaM
namespace Go.Proofs.Ytiepahhneagjhaa
open Go.RowKit
open Nat renaming reduceEqDiff → nA, reduceLT → nB, reduceLeDiff → nC, reduceAdd → nD, reduceMul → nE, reduceSub → nF, reduceBEq → nG
open Int renaming reduceToNat → iA, reduceLT → iB, reduceLE → iC, reduceEq → iD
open Bool renaming and_eq_true → bA, or_eq_true → bB, or_eq_false_iff → bC, and_eq_false_iff → bD, not_eq_true' → bE, not_eq_false' → bF, not_true → bG, not_false → bH
set_option linter.all false
set_option maxHeartbeats 4000000
attribute [local irreducible] AW Does ACall tE tS tB tZ

set_option maxRecDepth 100000 in
theorem shp_op28b {n : Nat} {row : List AV} (h : Shp Try.prog (n + 3) 44 row) : ∃ o : Op28, row = Op28.av o ∧ (o.bs.length ≤ maxLen ∧ octs o.bs) := by
  have h0 := shp_struct (P := Try.prog) (n := n + 2) [3, 3, 3, 3, 4, 4, 32] Try.underlying44 (by kernel_rfl) h
  obtain ⟨p0, r0, rfl, a0, h1⟩ := shpL_cons h0
  obtain ⟨p1, r1, rfl, a1, h2⟩ := shpL_cons h1
  obtain ⟨p2, r2, rfl, a2, h3⟩ := shpL_cons h2
  obtain ⟨p3, r3, rfl, a3, h4⟩ := shpL_cons h3
  obtain ⟨p4, r4, rfl, a4, h5⟩ := shpL_cons h4
  obtain ⟨p5, r5, rfl, a5, h6⟩ := shpL_cons h5
  obtain ⟨p6, r6, rfl, a6, h7⟩ := shpL_cons h6
  cases shpL_nil h7
  obtain ⟨a, rfl, ga⟩ := shp_int tU3 a0
  obtain ⟨b, rfl, gb⟩ := shp_int tU3 a1
  obtain ⟨c, rfl, gc⟩ := shp_int tU3 a2
  obtain ⟨d, rfl, gd⟩ := shp_int tU3 a3
  obtain ⟨e, rfl⟩ := shp_bool tU4 a4
  obtain ⟨f, rfl⟩ := shp_bool tU4 a5
  obtain ⟨l, rfl, gl⟩ := shp_u8s a6
  exact ⟨⟨a, b, c, d, e, f, l⟩, rfl, gl⟩
set_option maxRecDepth 100000 in
theorem shp_ops28 {n : Nat} {row : List AV} (h : Shp Try.prog (n + 4) 40 row) : ∃ l : List Op28, row = [.l 7 (l.map Op28.av)] ∧ l.length ≤ maxLen ∧ ∀ o ∈ l, o.bs.length ≤ maxLen ∧ octs o.bs := by
  obtain ⟨l, rfl, hl, hg⟩ := shp_slice (P := Try.prog) (n := n + 3) (f := Op28.av) (good := fun o : Op28 => o.bs.length ≤ maxLen ∧ octs o.bs) (sz := 7) tU40 (by kernel_rfl) (fun r hr => by obtain ⟨x, e, g⟩ := shp_op28b hr; exact ⟨x, e, by first | exact g | trivial⟩) h
  exact ⟨l, rfl, hl, hg⟩
end Go.Proofs.Ytiepahhneagjhaa
