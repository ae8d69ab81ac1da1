/- What a gate that is right keeps to, and small reckonings. -/
import Derived.Test.YtcmpciciodcddaaU
namespace Go.Proofs.Ytcmpciciodcddaa
open Go.RowKit
open Nat renaming reduceEqDiff → nA, reduceLT → nB, reduceLeDiff → nC, reduceAdd → nD, reduceMul → nE, reduceSub → nF, reduceBEq → nG
open Int renaming reduceToNat → iA, reduceLT → iB, reduceLE → iC, reduceEq → iD
open Bool renaming and_eq_true → bA, or_eq_true → bB, or_eq_false_iff → bC, and_eq_false_iff → bD, not_eq_true' → bE, not_eq_false' → bF, not_true → bG, not_false → bH
set_option linter.all false
set_option maxHeartbeats 4000000
attribute [local irreducible] AW Does

theorem opK_nil {l : List Qu} (h : opK l l.length = []) {q : Qu} (hq : q ∈ l) : openQ q = false := by
  obtain ⟨j, hj⟩ := List.getElem?_of_mem hq
  cases ho : openQ q
  · rfl
  · have : j ∈ opK l l.length := by
      unfold opK
      rw [List.mem_filter]
      exact ⟨by have := (List.getElem?_eq_some_iff.1 hj).1; simpa using this, by simp [hj, ho]⟩
    rw [h] at this; simp at this
theorem gOk_lens {g : Gt} (h : gOk g = true) : Lens g := ⟨by have := gOk_len h; unfold maxLen; omega, fun q hq => by
  obtain ⟨j, hj⟩ := List.getElem?_of_mem hq
  have := rightQ_len (gOk_rows h hj); unfold maxLen; omega⟩
theorem gOk_1000 {l : List Qu} {a b : Int} (h : gOk ⟨l, a, b⟩ = true) : l.length ≤ 1000 := by have := gOk_len h; simp only at this; omega
theorem tmod_nat (a b : Nat) : ((a : Int)).tmod (b : Int) = ((a % b : Nat) : Int) := by
  rw [Int.ofNat_tmod]
theorem max0 (x : Int) : ∃ m : Nat, (if x < 0 then 0 else x) = (m : Int) := ⟨x.toNat, by split <;> omega⟩
end Go.Proofs.Ytcmpciciodcddaa
