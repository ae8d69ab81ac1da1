/- What arguments are. -/
import Derived.Test.YtfdedgeljijfdaaB
namespace Go.Proofs.Ytfdedgeljijfdaa
open Go.RowKit
open Nat renaming reduceEqDiff → nA, reduceLT → nB, reduceLeDiff → nC, reduceAdd → nD, reduceMul → nE, reduceSub → nF, reduceBEq → nG
open Int renaming reduceToNat → iA, reduceLT → iB, reduceLE → iC, reduceEq → iD
open Bool renaming and_eq_true → bA, or_eq_true → bB, or_eq_false_iff → bC, and_eq_false_iff → bD, not_eq_true' → bE, not_eq_false' → bF, not_true → bG, not_false → bH
set_option linter.all false
set_option maxHeartbeats 4000000
attribute [local irreducible] AW Does ACall tE tS tB tZ

theorem bnd_u64b {x : Int} (h : (Lit.int .u64 x).wf = true) : 0 ≤ x ∧ x ≤ 18446744073709551615 := by
  simp [Lit.wf, IntKind.min, IntKind.max, IntKind.bits, IntKind.signed] at h
  omega
set_option maxRecDepth 100000 in
theorem shp_i {n : Nat} {row : List AV} (h : Shp Try.prog (n + 1) 3 row) : ∃ x : Int, row = i1 x ∧ True := by
  obtain ⟨x, rfl, _⟩ := shp_int tU3 h
  exact ⟨x, rfl, trivial⟩
def i64b (x : Int) : Prop := -9223372036854775808 ≤ x ∧ x ≤ 9223372036854775807
set_option maxRecDepth 100000 in
theorem shp_rec {n : Nat} {row : List AV} (h : Shp Try.prog (n + 2) 34 row) : ∃ r : Rec, row = Rec.av r ∧ (i64b r.v) := by
  have h0 := shp_struct (P := Try.prog) (n := n + 1) [3, 3, 2] Try.underlying34 (by kernel_rfl) h
  obtain ⟨p0, r0, rfl, a0, h1⟩ := shpL_cons h0
  obtain ⟨p1, r1, rfl, a1, h2⟩ := shpL_cons h1
  obtain ⟨p2, r2, rfl, a2, h3⟩ := shpL_cons h2
  cases shpL_nil h3
  obtain ⟨a, rfl, ga⟩ := shp_int tU3 a0
  obtain ⟨b, rfl, gb⟩ := shp_int tU3 a1
  obtain ⟨c, rfl, gc⟩ := shp_int tU2 a2
  exact ⟨⟨a, b, c⟩, rfl, bnd_i64 gc⟩
def El.ok (x : El) : Prop := (0 ≤ x.num ∧ x.num ≤ 18446744073709551615) ∧ i64b x.v
set_option maxRecDepth 100000 in
theorem shp_el {n : Nat} {row : List AV} (h : Shp Try.prog (n + 3) 37 row) : ∃ x : El, row = El.av x ∧ (x.ok) := by
  have h0 := shp_struct (P := Try.prog) (n := n + 2) [3, 34, 35] Try.underlying37 (by kernel_rfl) h
  obtain ⟨p0, r0, rfl, a0, h1⟩ := shpL_cons h0
  obtain ⟨p1, r1, rfl, a1, h2⟩ := shpL_cons h1
  obtain ⟨p2, r2, rfl, a2, h3⟩ := shpL_cons h2
  cases shpL_nil h3
  obtain ⟨a, rfl, ga⟩ := shp_int tU3 a0
  obtain ⟨b, rfl, gb⟩ := shp_rec a1
  obtain ⟨c, rfl, gc⟩ := shp_int tU35 a2
  exact ⟨⟨a, b.s, b.k, b.v, c⟩, rfl, ⟨bnd_u64b gc, gb⟩⟩
set_option maxRecDepth 100000 in
theorem shp_els {n : Nat} {row : List AV} (h : Shp Try.prog (n + 4) 24 row) : ∃ l : List El, row = [.l 5 (l.map El.av)] ∧ l.length ≤ maxLen ∧ ∀ x ∈ l, x.ok := by
  obtain ⟨l, rfl, hl, hg⟩ := shp_slice (P := Try.prog) (n := n + 3) (f := El.av) (good := fun x : El => x.ok) (sz := 5) tU24 (by kernel_rfl) (fun r hr => by obtain ⟨x, e, g⟩ := shp_el hr; exact ⟨x, e, by first | exact g | trivial⟩) h
  exact ⟨l, rfl, hl, hg⟩
theorem shp_by {n : Nat} {row : List AV} (h : Shp Try.prog (n + 1) 5 row) : ∃ x : Int, row = by1 x ∧ (0 ≤ x ∧ x < 256) := by
  obtain ⟨x, rfl, g⟩ := shp_int tU5 h
  exact ⟨x, rfl, by simp [Lit.wf, IntKind.min, IntKind.max, IntKind.bits, IntKind.signed] at g; omega⟩
set_option maxRecDepth 100000 in
theorem shp_bys {n : Nat} {row : List AV} (h : Shp Try.prog (n + 2) 22 row) : ∃ l : List Int, row = [.l 1 (l.map by1)] ∧ l.length ≤ maxLen ∧ octs l := by
  obtain ⟨l, rfl, hl, hg⟩ := shp_slice (P := Try.prog) (n := n + 1) (f := by1) (good := fun x : Int => 0 ≤ x ∧ x < 256) (sz := 1) tU22 (by kernel_rfl) (fun r hr => by obtain ⟨x, e, g⟩ := shp_by hr; exact ⟨x, e, g⟩) h
  exact ⟨l, rfl, hl, hg⟩
end Go.Proofs.Ytfdedgeljijfdaa
