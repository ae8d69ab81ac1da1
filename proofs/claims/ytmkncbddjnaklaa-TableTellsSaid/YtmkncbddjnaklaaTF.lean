/- Walks: what the document says of a cell that is laid. -/
import Derived.Test.YtmkncbddjnaklaaTE
namespace Go.Proofs.Ytmkncbddjnaklaa
open Go.RowKit
open Nat renaming reduceEqDiff → nA, reduceLT → nB, reduceLeDiff → nC, reduceAdd → nD, reduceMul → nE, reduceSub → nF, reduceBEq → nG
open Int renaming reduceToNat → iA, reduceLT → iB, reduceLE → iC, reduceEq → iD
open Bool renaming and_eq_true → bA, or_eq_true → bB, or_eq_false_iff → bC, and_eq_false_iff → bD, not_eq_true' → bE, not_eq_false' → bF, not_true → bG, not_false → bH
set_option linter.all false
set_option maxHeartbeats 4000000
attribute [local irreducible] AW Does ACall tE tS tB tZ

def rpGo (r : Rec) (c : CellD) : Bool → List KC → List KC
  | d, [] => if d = true then [] else [newC r c]
  | d, x :: l => (if (!d && decide (0 < cmpR (keyS x) r)) = true then [newC r c] else []) ++ (if cmpR (keyS x) r = 0 then [] else [x]) ++ rpGo r c (d || decide (0 < cmpR (keyS x) r)) l
theorem rpGo_true (r : Rec) (c : CellD) : ∀ l : List KC, (∀ x ∈ l, 0 < cmpR (keyS x) r) → rpGo r c true l = l
  | [], _ => rfl
  | x :: l, h => by
    have hx := h x (by simp)
    simp only [rpGo, Bool.not_true, Bool.false_and, Bool.false_eq_true, if_false, List.nil_append, Bool.true_or]
    rw [if_neg (by omega), rpGo_true r c l (fun y hy => h y (by simp [hy]))]; rfl
theorem rpGo_pos (r : Rec) (c : CellD) (l : List KC) (h : ∀ x ∈ l, 0 < cmpR (keyS x) r) : rpGo r c false l = newC r c :: l := by
  cases l with
  | nil => rfl
  | cons x l =>
    have hx := h x (by simp)
    simp only [rpGo, Bool.not_false, Bool.true_and, decide_eq_true hx, if_true, Bool.false_or]
    rw [if_neg (by omega), rpGo_true r c l (fun y hy => h y (by simp [hy]))]; rfl
theorem rise_tail {x : KC} {l : List KC} {r : Rec} (h : Rise (x :: l)) (hx : 0 ≤ cmpR (keyS x) r) : ∀ y ∈ l, 0 < cmpR (keyS y) r := fun y hy => by
  have h1 := (List.pairwise_cons.1 h).1 y hy
  have h2 : ¬ cmpR (keyS x) r < 0 := by omega
  rw [cmpR_neg] at h1 h2
  rw [cmpR_pos]; omega
theorem setS_rp (r : Rec) (c : CellD) : ∀ l : List KC, Rise l → setS l r c = rpGo r c (decide (c = zeroC)) l
  | [], _ => by
    by_cases hc : c = zeroC <;> simp [setS, atB, bsF, atI, lbd, rpGo, hc]
  | x :: l, h => by
    have ht := (List.pairwise_cons.1 h).2
    have ih := setS_rp r c l ht
    by_cases hn : cmpR (keyS x) r < 0
    · have e1 : atI (x :: l) r = atI l r + 1 := by simp [atI, lbd, List.takeWhile_cons, hn]
      have e2 : atB (x :: l) r = atB l r := by
        unfold atB bsF
        have : lbd (fun x => decide (cmpR (keyS x) r < 0)) (x :: l) = lbd (fun x => decide (cmpR (keyS x) r < 0)) l + 1 := e1
        rw [this, List.getElem?_cons_succ]
      have e3 : setS (x :: l) r c = x :: setS l r c := by
        unfold setS
        rw [e1, e2]
        by_cases hb : atB l r = true
        · by_cases hc : c = zeroC <;> simp [hb, hc]
        · by_cases hc : c = zeroC <;> simp [hb, hc]
      rw [e3, ih]
      simp only [rpGo]
      rw [decide_eq_false (by omega : ¬ 0 < cmpR (keyS x) r), if_neg (by omega : ¬ cmpR (keyS x) r = 0)]
      simp
    have hp := rise_tail h (r := r) (by omega)
    have e1 : atI (x :: l) r = 0 := by simp [atI, lbd, List.takeWhile_cons, hn]
    have e2 : atB (x :: l) r = decide (cmpR (keyS x) r = 0) := by
      unfold atB bsF
      have : lbd (fun x => decide (cmpR (keyS x) r < 0)) (x :: l) = 0 := e1
      rw [this]; rfl
    by_cases hz : cmpR (keyS x) r = 0
    · have hk : putC x c = newC r c := by
        rw [cmpR_zero] at hz
        unfold putC newC; simp only [keyS] at hz; rw [hz.1, hz.2]
      unfold setS
      rw [e1, e2, decide_eq_true hz, if_pos rfl]
      simp only [rpGo]
      rw [decide_eq_false (by omega : ¬ 0 < cmpR (keyS x) r), if_pos hz]
      by_cases hc : c = zeroC
      · rw [if_pos hc, decide_eq_true hc]
        simp [rpGo_true r c l hp]
      · rw [if_neg hc, decide_eq_false hc]
        simp [rpGo_pos r c l hp, hk]
    · have hpx : 0 < cmpR (keyS x) r := by omega
      unfold setS
      rw [e1, e2, decide_eq_false hz, if_neg (by simp)]
      simp only [rpGo]
      rw [decide_eq_true hpx, if_neg hz]
      by_cases hc : c = zeroC
      · rw [if_pos hc, decide_eq_true hc]
        simp [rpGo_true r c l hp]
      · rw [if_neg hc, decide_eq_false hc]
        simp [rpGo_true r c l hp]
end Go.Proofs.Ytmkncbddjnaklaa
