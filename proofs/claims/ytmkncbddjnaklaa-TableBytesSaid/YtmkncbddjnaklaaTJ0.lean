/- The cell of a key. -/
import Derived.Test.YtmkncbddjnaklaaTC
import Derived.Test.YtmkncbddjnaklaaMD
namespace Go.Proofs.Ytmkncbddjnaklaa
open Go.RowKit
open Nat renaming reduceEqDiff → nA, reduceLT → nB, reduceLeDiff → nC, reduceAdd → nD, reduceMul → nE, reduceSub → nF, reduceBEq → nG
open Int renaming reduceToNat → iA, reduceLT → iB, reduceLE → iC, reduceEq → iD
open Bool renaming and_eq_true → bA, or_eq_true → bB, or_eq_false_iff → bC, and_eq_false_iff → bD, not_eq_true' → bE, not_eq_false' → bF, not_true → bG, not_false → bH
set_option linter.all false
set_option maxHeartbeats 4000000
attribute [local irreducible] AW Does ACall tE tS tB tZ

def cellK (x : KC) : CellD := ⟨x.n, x.t⟩
def getS (l : List KC) (r : Rec) : CellD := match l.find? (fun x => decide (cmpR (keyS x) r = 0)) with | some x => cellK x | none => ⟨0, 0⟩
theorem getS_some {l : List KC} {r : Rec} {k : Nat} {x : KC} (hx : l[k]? = some x) (hp : decide (cmpR (keyS x) r = 0) = true) (h : ∀ (j : Nat) (y : KC), j < k → l[j]? = some y → decide (cmpR (keyS y) r = 0) = false) : getS l r = cellK x := by
  have : l.find? (fun x => decide (cmpR (keyS x) r = 0)) = some x := by
    induction l generalizing k with
    | nil => simp at hx
    | cons a l ih =>
      cases k with
      | zero => simp at hx; subst hx; simp only [List.find?_cons, hp]
      | succ k =>
        simp at hx
        rw [List.find?_cons, h 0 a (by omega) rfl]
        exact ih hx fun j y hj hy => h (j + 1) y (by omega) (by simpa using hy)
  unfold getS; rw [this]
theorem getS_none {l : List KC} {r : Rec} (h : ∀ x ∈ l, decide (cmpR (keyS x) r = 0) = false) : getS l r = ⟨0, 0⟩ := by
  have : l.find? (fun x => decide (cmpR (keyS x) r = 0)) = none := by
    rw [List.find?_eq_none]; intro x hx; rw [h x hx]; decide
  unfold getS; rw [this]
end Go.Proofs.Ytmkncbddjnaklaa
