/- Walks: Same, of a table that the caller owns. -/
import Derived.Test.YtmkncbddjnaklaaTH0
namespace Go.Proofs.Ytmkncbddjnaklaa
open Go.RowKit
open Nat renaming reduceEqDiff → nA, reduceLT → nB, reduceLeDiff → nC, reduceAdd → nD, reduceMul → nE, reduceSub → nF, reduceBEq → nG
open Int renaming reduceToNat → iA, reduceLT → iB, reduceLE → iC, reduceEq → iD
open Bool renaming and_eq_true → bA, or_eq_true → bB, or_eq_false_iff → bC, and_eq_false_iff → bD, not_eq_true' → bE, not_eq_false' → bF, not_true → bG, not_false → bH
set_option linter.all false
set_option maxHeartbeats 4000000
attribute [local irreducible] AW Does ACall tE tS tB tZ

/-- Same, of a table that the caller owns -/
theorem rSame_l (a b : List KC) (ha : a.length ≤ maxLen) (hb : b.length ≤ maxLen) {M M0 : Heap} {y : AV} (ho : OwnL M y 80 4 (a.map KC.av) M0) : ACall Try.prog 35 [.g [y], .g [.l 4 (b.map KC.av)]] M fun r H' => r = .c (.bool (decide (a = b))) ∧ H' = M :=
  ACall.lend (args' := [.g [.l 4 (a.map KC.av)], .g [.l 4 (b.map KC.av)]]) (Flat.c _) (show Lent _ _ _ ∧ Lent _ _ _ ∧ True from ⟨Lent.g (show Lent _ _ _ ∧ True from ⟨ho.lent, trivial⟩) (by simp [AV.one]), Lent.refl _ _, trivial⟩) (rSame_p a b ha hb).cl
end Go.Proofs.Ytmkncbddjnaklaa
