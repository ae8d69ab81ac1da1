/- Plain law of TxlogOrder. -/
import Derived.Test.YtdeckjoeggmagaaW
import Derived.Test.YtdeckjoeggmagaaPE
namespace Go.Proofs.Ytdeckjoeggmagaa
open Go.RowKit
open Nat renaming reduceEqDiff → nA, reduceLT → nB, reduceLeDiff → nC, reduceAdd → nD, reduceMul → nE, reduceSub → nF, reduceBEq → nG
open Int renaming reduceToNat → iA, reduceLT → iB, reduceLE → iC, reduceEq → iD
open Bool renaming and_eq_true → bA, or_eq_true → bB, or_eq_false_iff → bC, and_eq_false_iff → bD, not_eq_true' → bE, not_eq_false' → bF, not_true → bG, not_false → bH
set_option linter.all false
set_option maxHeartbeats 4000000
attribute [local irreducible] AW Does ACall tE tS tB tZ

def nmK (s : Int) (k : Nat) : Nm := ⟨s, 1, (k : Int) + 1⟩
def rcK (k : Nat) : Rec := ⟨0, 1, k⟩
def txK (s : Int) (k : Nat) : Tx := ⟨nmK s k, 2, [rcK k]⟩
/-- a log with n transactions of which d are committed -/
def comL (s : Int) (n d : Nat) : Lg := ⟨((List.range n).drop d).map (txK s), (List.range d).map (nmK s), (List.range d).map rcK⟩
def midL (s : Int) (k : Nat) (r : List Rec) : Lg := ⟨(List.range k).map (txK s) ++ [⟨nmK s k, 1, r⟩], [], []⟩
theorem bld0 : ∀ s : _root_.Fin 16, ∀ k : _root_.Fin 7, openR (comL s.val k.val 0) (nmK s.val k.val) = (midL s.val k.val [], 0) := by decide +kernel
theorem bld1 : ∀ s : _root_.Fin 16, ∀ k : _root_.Fin 7, writeR (midL s.val k.val []) (nmK s.val k.val) [rcK k.val] = (midL s.val k.val [rcK k.val], 0) := by decide +kernel
theorem bld2 : ∀ s : _root_.Fin 16, ∀ k : _root_.Fin 7, readyR (midL s.val k.val [rcK k.val]) (nmK s.val k.val) = (comL s.val (k.val + 1) 0, 0) := by decide +kernel
theorem com0 : ∀ s : _root_.Fin 16, ∀ n : _root_.Fin 8, ∀ d : _root_.Fin 8, ∀ k : _root_.Fin 7, d.val ≤ n.val → k.val < n.val → commitR (comL s.val n.val d.val) [nmK s.val k.val] = if d.val < k.val then (zeroL, 262) else (comL s.val n.val (max d.val (k.val + 1)), 0) := by decide +kernel
theorem vals0 : ∀ d : _root_.Fin 8, valsS ((List.range d.val).map rcK) ⟨0, 1, 0⟩ = (List.range d.val).map (fun i : Nat => (i : Int)) := by decide +kernel
theorem pend0 : ∀ s : _root_.Fin 16, ∀ n : _root_.Fin 8, ∀ d : _root_.Fin 8, (pendS (((List.range n.val).drop d.val).map (txK s.val)) s.val).length = n.val - d.val := by decide +kernel
theorem fit0 : ∀ s : _root_.Fin 16, ∀ n : _root_.Fin 8, ∀ d : _root_.Fin 8, d.val ≤ n.val → lgOk (comL s.val n.val d.val) = true := by decide +kernel
theorem fit1 : ∀ s : _root_.Fin 16, ∀ k : _root_.Fin 7, lgOk (midL s.val k.val []) = true ∧ lgOk (midL s.val k.val [rcK k.val]) = true := by decide +kernel
end Go.Proofs.Ytdeckjoeggmagaa
