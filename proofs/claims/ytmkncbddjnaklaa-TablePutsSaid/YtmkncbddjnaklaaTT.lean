/- Plain law: a table stays one that may be. -/
import Derived.Test.YtmkncbddjnaklaaTM
namespace Go.Proofs.Ytmkncbddjnaklaa
open Go.RowKit
open Nat renaming reduceEqDiff → nA, reduceLT → nB, reduceLeDiff → nC, reduceAdd → nD, reduceMul → nE, reduceSub → nF, reduceBEq → nG
open Int renaming reduceToNat → iA, reduceLT → iB, reduceLE → iC, reduceEq → iD
open Bool renaming and_eq_true → bA, or_eq_true → bB, or_eq_false_iff → bC, and_eq_false_iff → bD, not_eq_true' → bE, not_eq_false' → bF, not_true → bG, not_false → bH
set_option linter.all false
set_option maxHeartbeats 4000000
attribute [local irreducible] AW Does ACall tE tS tB tZ

theorem tGo_of : ∀ (l : List KC) (p : Option KC), Rise l → (∀ x ∈ l, recOk (keyS x) = true ∧ 1 ≤ x.n) → (∀ y, p = some y → ∀ x ∈ l, cmpR (keyS y) (keyS x) < 0) → tGo p l = true
  | [], p, _, _, _ => by cases p <;> rfl
  | x :: l, p, h, ha, hp => by
    have hx := ha x (by simp)
    have ht := List.pairwise_cons.1 h
    have haft : aft p x = true := by
      cases p with
      | none => rfl
      | some y => exact decide_eq_true (hp y rfl x (by simp))
    simp only [tGo, hx.1, haft, decide_eq_true hx.2, Bool.and_true, Bool.true_and]
    exact tGo_of l (some x) ht.2 (fun z hz => ha z (by simp [hz])) (fun y hy z hz => by cases hy; exact ht.1 z hz)
theorem tGo_mem : ∀ (l : List KC) (p : Option KC), tGo p l = true → ∀ x ∈ l, recOk (keyS x) = true ∧ 1 ≤ x.n
  | [], _, _, x, hx => by cases hx
  | y :: l, p, h, x, hx => by
    simp only [tGo, Bool.and_eq_true, decide_eq_true_eq] at h
    rcases List.mem_cons.1 hx with rfl | hx
    · exact ⟨h.1.1.1, h.1.1.2⟩
    · exact tGo_mem l (some y) h.2 x hx
theorem tOk_set {T : List KC} (h : tOk T = true) {r : Rec} (hr : recOk r = true) {c : CellD} (hc : c = zeroC ∨ 1 ≤ c.count) : tOk (setS T r c) = true := by
  have hri := tOk_rise h
  refine tGo_of _ none (setS_rise hri r c) (fun x hx => ?_) (fun y hy => by cases hy)
  have hm := tGo_mem T none h
  rw [setS_rp r c T hri] at hx
  by_cases hz : c = zeroC
  · rw [decide_eq_true hz, rp_true] at hx
    exact hm x (List.mem_filter.1 hx).1
  · rcases rp_mem r c T _ x hx with h1 | rfl
    · exact hm x h1
    · exact ⟨hr, by rcases hc with h1 | h1; exact absurd h1 hz; exact h1⟩
end Go.Proofs.Ytmkncbddjnaklaa
