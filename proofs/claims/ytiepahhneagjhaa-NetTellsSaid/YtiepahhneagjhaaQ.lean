/- What rows are that a law is handed. -/
import Derived.Test.YtiepahhneagjhaaO
namespace Go.Proofs.Ytiepahhneagjhaa
open Go.RowKit
open Nat renaming reduceEqDiff → nA, reduceLT → nB, reduceLeDiff → nC, reduceAdd → nD, reduceMul → nE, reduceSub → nF, reduceBEq → nG
open Int renaming reduceToNat → iA, reduceLT → iB, reduceLE → iC, reduceEq → iD
open Bool renaming and_eq_true → bA, or_eq_true → bB, or_eq_false_iff → bC, and_eq_false_iff → bD, not_eq_true' → bE, not_eq_false' → bF, not_true → bG, not_false → bH
set_option linter.all false
set_option maxHeartbeats 4000000
attribute [local irreducible] AW Does ACall tE tS tB tZ

set_option maxRecDepth 100000 in
theorem shp_nts {n : Nat} {row : List AV} (h : Shp Try.prog (n + 6) 57 row) : ∃ l : List Nt, row = [.l 2 (l.map Nt.av)] ∧ l.length ≤ maxLen ∧ ∀ n ∈ l, WN n := by
  obtain ⟨l, rfl, hl, hg⟩ := shp_slice (P := Try.prog) (n := n + 5) (f := Nt.av) (good := fun n : Nt => WN n) (sz := 2) tU57 (by kernel_rfl) (fun r hr => by obtain ⟨x, e, g⟩ := shp_nt hr; exact ⟨x, e, by first | exact g | trivial⟩) h
  exact ⟨l, rfl, hl, hg⟩
set_option maxRecDepth 100000 in
theorem shp_ints {n : Nat} {row : List AV} (h : Shp Try.prog (n + 3) 58 row) : ∃ l : List Int, row = [.l 1 (l.map fun x => [AV.c (.int .i64 x)])] ∧ l.length ≤ maxLen := by
  obtain ⟨l, rfl, hl, _⟩ := shp_slice (P := Try.prog) (n := n + 2) (f := fun x => [AV.c (.int .i64 x)]) (good := fun _ => True) (sz := 1) tU58 (by kernel_rfl) (fun r hr => by obtain ⟨x, e, _⟩ := shp_int tU3 hr; exact ⟨x, e, trivial⟩) h
  exact ⟨l, rfl, hl⟩
end Go.Proofs.Ytiepahhneagjhaa
