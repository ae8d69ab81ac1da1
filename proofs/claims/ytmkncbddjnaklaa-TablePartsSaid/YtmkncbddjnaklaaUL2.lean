/- Plain law: the document's Join is table.Join. -/
import Derived.Test.YtmkncbddjnaklaaUKr
import Derived.Test.YtmkncbddjnaklaaUL
namespace Go.Proofs.Ytmkncbddjnaklaa
open Go.RowKit
open Nat renaming reduceEqDiff → nA, reduceLT → nB, reduceLeDiff → nC, reduceAdd → nD, reduceMul → nE, reduceSub → nF, reduceBEq → nG
open Int renaming reduceToNat → iA, reduceLT → iB, reduceLE → iC, reduceEq → iD
open Bool renaming and_eq_true → bA, or_eq_true → bB, or_eq_false_iff → bC, and_eq_false_iff → bD, not_eq_true' → bE, not_eq_false' → bF, not_true → bG, not_false → bH
set_option linter.all false
set_option maxHeartbeats 4000000
attribute [local irreducible] AW Does ACall tE tS tB tZ

theorem rj_eq {a : List KC} (ha : tOk a = true) : ∀ (l T : List KC), Rise T → Rise l → (∀ x ∈ l, 1 ≤ x.n) → (∀ x ∈ l, atB T (keyS x) = atB a (keyS x)) →
    rjGo a T l = if (joinA T l).2 = 0 then joinA T l else ([], (joinA T l).2)
  | [], T, _, _, _, _ => by simp [rjGo, joinA]
  | x :: l, T, h, hl, hn, hd => by
    have h2 := List.pairwise_cons.1 hl
    have hx1 := hn x (by simp)
    have hx := hd x (by simp)
    have hg := getS_at ha (keyS x)
    by_cases hb : atB T (keyS x) = true
    · have hJ : joinA T (x :: l) = (T, 5) := by simp only [joinA, if_pos hb]
      rw [hb] at hx
      have hR : rjGo a T (x :: l) = ([], 5) := by simp only [rjGo]; rw [if_pos (hg.1 hx.symm)]
      rw [hJ, hR]
      simp
    · have hJ : joinA T (x :: l) = joinA (setS T (keyS x) (cellK x)) l := by simp only [joinA, if_neg hb]
      have hz : ¬ ¬ getS a (keyS x) = zeroC := fun h0 => by rw [hg.2 h0] at hx; exact hb hx
      have hR : rjGo a T (x :: l) = rjGo a (setS T (keyS x) (cellK x)) l := by simp only [rjGo]; rw [if_neg hz]
      rw [hJ, hR]
      have hm := set_mem h (keyS x) (cell_nz hx1)
      rw [new_self] at hm
      have hr2 := setS_rise h (keyS x) (cellK x)
      refine rj_eq ha l _ hr2 h2.2 (fun y hy => hn y (by simp [hy])) fun y hy => ?_
      rw [← hd y (by simp [hy]), Bool.eq_iff_iff, atB_iff _ _ hr2, atB_iff _ _ h]
      have hxy := h2.1 y hy
      constructor
      · rintro ⟨z, hz, he⟩
        rcases (hm z).1 hz with ⟨g, -⟩ | rfl
        · exact ⟨z, g, he⟩
        · omega
      · rintro ⟨z, hz, he⟩
        refine ⟨z, (hm z).2 (.inl ⟨hz, fun h0 => ?_⟩), he⟩
        rw [cmpR_zero] at he h0
        rw [cmpR_neg] at hxy
        simp only [keyS] at *
        omega
theorem rjoinD_eq (a b : List KC) : rjoinD a b = joinD a b := by
  unfold rjoinD joinD
  cases ha : tOk a with
  | false => cases hb : tOk b <;> simp
  | true =>
    cases hb : tOk b with
    | false => simp
    | true =>
      simp only [Bool.true_eq_false, if_false]
      exact rj_eq ha b a (tOk_rise ha) (tOk_rise hb) (fun x hx => (tGo_mem b none hb x hx).2) (fun x hx => rfl)
end Go.Proofs.Ytmkncbddjnaklaa
