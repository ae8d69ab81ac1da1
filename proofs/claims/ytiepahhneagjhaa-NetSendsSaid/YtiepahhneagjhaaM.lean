/- What arguments are. -/
import Derived.Test.YtiepahhneagjhaaL
namespace Go.Proofs.Ytiepahhneagjhaa
open Go.RowKit
open Nat renaming reduceEqDiff → nA, reduceLT → nB, reduceLeDiff → nC, reduceAdd → nD, reduceMul → nE, reduceSub → nF, reduceBEq → nG
open Int renaming reduceToNat → iA, reduceLT → iB, reduceLE → iC, reduceEq → iD
open Bool renaming and_eq_true → bA, or_eq_true → bB, or_eq_false_iff → bC, and_eq_false_iff → bD, not_eq_true' → bE, not_eq_false' → bF, not_true → bG, not_false → bH
set_option linter.all false
set_option maxHeartbeats 4000000
attribute [local irreducible] AW Does ACall tE tS tB tZ

theorem bnd_o8 {x : Int} (h : (Lit.int .u8 x).wf = true) : 0 ≤ x ∧ x < 256 := by
  simp [Lit.wf, IntKind.min, IntKind.max, IntKind.bits, IntKind.signed] at h; omega
set_option maxRecDepth 100000 in
theorem shp_u8 {n : Nat} {row : List AV} (h : Shp Try.prog (n + 1) 5 row) : ∃ x : Int, row = by1 x ∧ (0 ≤ x ∧ x < 256) := by
  obtain ⟨x, e, g⟩ := shp_int tU5 h
  exact ⟨x, e, bnd_o8 g⟩
set_option maxRecDepth 100000 in
theorem shp_u8s {n : Nat} {row : List AV} (h : Shp Try.prog (n + 2) 32 row) : ∃ l : List Int, row = [.l 1 (l.map by1)] ∧ l.length ≤ maxLen ∧ ∀ x ∈ l, 0 ≤ x ∧ x < 256 := by
  obtain ⟨l, rfl, hl, hg⟩ := shp_slice (P := Try.prog) (n := n + 1) (f := by1) (good := fun x : Int => 0 ≤ x ∧ x < 256) (sz := 1) tU32 (by kernel_rfl) (fun r hr => by obtain ⟨x, e, g⟩ := shp_u8 hr; exact ⟨x, e, by first | exact g | trivial⟩) h
  exact ⟨l, rfl, hl, hg⟩
set_option maxRecDepth 100000 in
theorem shp_pk {n : Nat} {row : List AV} (h : Shp Try.prog (n + 3) 34 row) : ∃ p : Pk, row = Pk.av p ∧ (p.bs.length ≤ maxLen ∧ octs p.bs) := by
  have h0 := shp_struct (P := Try.prog) (n := n + 2) [22, 3, 3, 32] Try.underlying34 (by kernel_rfl) h
  obtain ⟨p0, r0, rfl, a0, h1⟩ := shpL_cons h0
  obtain ⟨p1, r1, rfl, a1, h2⟩ := shpL_cons h1
  obtain ⟨p2, r2, rfl, a2, h3⟩ := shpL_cons h2
  obtain ⟨p3, r3, rfl, a3, h4⟩ := shpL_cons h3
  cases shpL_nil h4
  obtain ⟨a, rfl, ga⟩ := shp_int tU22 a0
  obtain ⟨b, rfl, gb⟩ := shp_int tU3 a1
  obtain ⟨c, rfl, gc⟩ := shp_int tU3 a2
  obtain ⟨l, rfl, gl⟩ := shp_u8s a3
  exact ⟨⟨a, b, c, l⟩, rfl, gl⟩
set_option maxRecDepth 100000 in
theorem shp_pks {n : Nat} {row : List AV} (h : Shp Try.prog (n + 4) 23 row) : ∃ l : List Pk, row = [.l 4 (l.map Pk.av)] ∧ l.length ≤ maxLen ∧ ∀ p ∈ l, p.bs.length ≤ maxLen ∧ octs p.bs := by
  obtain ⟨l, rfl, hl, hg⟩ := shp_slice (P := Try.prog) (n := n + 3) (f := Pk.av) (good := fun p : Pk => p.bs.length ≤ maxLen ∧ octs p.bs) (sz := 4) tU23 (by kernel_rfl) (fun r hr => by obtain ⟨x, e, g⟩ := shp_pk hr; exact ⟨x, e, by first | exact g | trivial⟩) h
  exact ⟨l, rfl, hl, hg⟩
set_option maxRecDepth 100000 in
theorem shp_nt {n : Nat} {row : List AV} (h : Shp Try.prog (n + 5) 25 row) : ∃ n : Nt, row = Nt.av n ∧ (WN n) := by
  have h0 := shp_struct (P := Try.prog) (n := n + 4) [22, 23] Try.underlying25 (by kernel_rfl) h
  obtain ⟨p0, r0, rfl, a0, h1⟩ := shpL_cons h0
  obtain ⟨p1, r1, rfl, a1, h2⟩ := shpL_cons h1
  cases shpL_nil h2
  obtain ⟨a, rfl, ga⟩ := shp_int tU22 a0
  obtain ⟨l, rfl, gl⟩ := shp_pks a1
  exact ⟨⟨a, l⟩, rfl, ⟨gl.1, fun p hp => (gl.2 p hp).1, fun p hp => (gl.2 p hp).2, (bnd_u64 ga).1⟩⟩
end Go.Proofs.Ytiepahhneagjhaa
