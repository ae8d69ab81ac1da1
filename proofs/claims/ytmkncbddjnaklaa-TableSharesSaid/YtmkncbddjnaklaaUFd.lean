/- Walks: Do, frozen. -/
import Derived.Test.YtmkncbddjnaklaaUF
import Derived.Test.YtmkncbddjnaklaaTRd
namespace Go.Proofs.Ytmkncbddjnaklaa
open Go.RowKit
open Nat renaming reduceEqDiff → nA, reduceLT → nB, reduceLeDiff → nC, reduceAdd → nD, reduceMul → nE, reduceSub → nF, reduceBEq → nG
open Int renaming reduceToNat → iA, reduceLT → iB, reduceLE → iC, reduceEq → iD
open Bool renaming and_eq_true → bA, or_eq_true → bB, or_eq_false_iff → bC, and_eq_false_iff → bD, not_eq_true' → bE, not_eq_false' → bF, not_true → bG, not_false → bH
set_option linter.all false
set_option maxHeartbeats 4000000
attribute [local irreducible] AW Does ACall tE tS tB tZ

theorem tDo_p (o : OpD) (hlO : o.ins.length ≤ maxLen) (hA : o.A ≤ 9223372036854775807) (T : List KC) (hT : T.length ≤ 90000) (r : Rec) :
    Pure Try.prog 32 [.g (OpD.av o), .g [.l 4 (T.map KC.av)], .g (Rec.av r)] (.t [.g [.l 4 ((DoT o T r).1.map KC.av)], .l 3 ((DoT o T r).2.1.map Rec.av), .c (.int .i64 (DoT o T r).2.2)]) := fun H =>
  ACall.weak ((tDo_o o hlO hA T hT r H).mono fun q H' h => by
    obtain ⟨y, yo, rfl, G, h1, h2⟩ := h
    exact ⟨_, _, weak_two h1 h2, rfl, rfl⟩)
end Go.Proofs.Ytmkncbddjnaklaa
