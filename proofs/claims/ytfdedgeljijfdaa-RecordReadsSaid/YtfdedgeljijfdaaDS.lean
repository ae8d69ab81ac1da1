/- The law: what Decode answers, in other words. -/
import Derived.Test.YtfdedgeljijfdaaRG
namespace Go.Proofs.Ytfdedgeljijfdaa
open Go.RowKit
open Nat renaming reduceEqDiff → nA, reduceLT → nB, reduceLeDiff → nC, reduceAdd → nD, reduceMul → nE, reduceSub → nF, reduceBEq → nG
open Int renaming reduceToNat → iA, reduceLT → iB, reduceLE → iC, reduceEq → iD
open Bool renaming and_eq_true → bA, or_eq_true → bB, or_eq_false_iff → bC, and_eq_false_iff → bD, not_eq_true' → bE, not_eq_false' → bF, not_true → bG, not_false → bH
set_option linter.all false
set_option maxHeartbeats 4000000
attribute [local irreducible] AW Does ACall tE tS tB tZ

def elR : List Int → Int × El × List Int
  | [] => (7, ⟨0, 0, 0, 0, 0⟩, [])
  | kd :: t =>
    if kd = 1 then
      match t with
      | [] => (7, ⟨0, 0, 0, 0, 0⟩, [])
      | s :: t1 =>
        if 7 < s then (151, ⟨0, 0, 0, 0, 0⟩, []) else
        match t1 with
        | [] => (7, ⟨0, 0, 0, 0, 0⟩, [])
        | k :: t2 =>
          if 31 < k then (151, ⟨0, 0, 0, 0, 0⟩, []) else
          if 8 ≤ t2.length then (0, ⟨1, s, k, IntKind.i64.wrap (numB (t2.take 8)), 0⟩, t2.drop 8) else (7, ⟨0, 0, 0, 0, 0⟩, [])
    else if kd = 2 then
      if 8 ≤ t.length then (if numOk (numB (t.take 8)) = true then (0, ⟨2, 0, 0, 0, numB (t.take 8)⟩, t.drop 8) else (151, ⟨0, 0, 0, 0, 0⟩, [])) else (7, ⟨0, 0, 0, 0, 0⟩, [])
    else if kd = 3 then (0, ⟨3, 0, 0, 0, 0⟩, t)
    else (151, ⟨0, 0, 0, 0, 0⟩, [])
def decS : Nat → List Int → List El → List El × Int
  | 0, l, out => if l = [] then (out, 0) else ([], 151)
  | n + 1, l, out => if (elR l).1 = 0 then decS n (elR l).2.2 (out ++ [(elR l).2.1]) else ([], (elR l).1)
def finD (R : List El × List Int × Int × Int) : List El × Int :=
  if needW R.2.2.2 R.2.2.1 (decide (R.2.1.length = 0)) = 0 then (R.1, 0) else ([], needW R.2.2.2 R.2.2.1 (decide (R.2.1.length = 0)))
theorem needW_w {w : Int} (h : w ≠ 0) (e : Int) (ok : Bool) : needW w e ok = w := by simp [needW, h]
theorem needW_7 (ok : Bool) : needW 0 7 ok = 7 := by simp [needW]
theorem needW_t : needW 0 0 true = 0 := by simp [needW]
theorem needW_f : needW 0 0 false = 151 := by simp [needW]
theorem decL_w {w : Int} (h : w ≠ 0) : ∀ (n : Nat) (l : List Int) (e : Int) (out : List El), finD (decL n l e w out) = ([], w)
  | 0, l, e, out => by simp [decL, finD, needW_w h, h]
  | n + 1, l, e, out => by simp [decL, finD, needW_w h, h]
theorem gv_nil (nb : Nat) (h : nb ≠ 0) : gvX nb [] 0 = 0 ∧ gvL nb [] 0 = [] ∧ gvE nb [] 0 = 7 := by simp [gvX, gvL, gvE, h]
theorem gv_7 (nb : Nat) (l : List Int) : gvX nb l 7 = 0 ∧ gvL nb l 7 = l ∧ gvE nb l 7 = 7 := by simp [gvX, gvL, gvE]
theorem gv_cons (c : Int) (l : List Int) : gvX 1 (c :: l) 0 = c ∧ gvL 1 (c :: l) 0 = l ∧ gvE 1 (c :: l) 0 = 0 := by
  refine ⟨?_, ?_, ?_⟩ <;> simp [gvX, gvL, gvE, numB]
theorem gv_8 {l : List Int} (h : 8 ≤ l.length) : gvX 8 l 0 = numB (l.take 8) ∧ gvL 8 l 0 = l.drop 8 ∧ gvE 8 l 0 = 0 := by simp [gvX, gvL, gvE, h]
theorem gv_8n {l : List Int} (h : ¬ 8 ≤ l.length) : gvX 8 l 0 = 0 ∧ gvL 8 l 0 = l ∧ gvE 8 l 0 = 7 := by simp [gvX, gvL, gvE, h]
theorem decL_S : ∀ (n : Nat) (l : List Int) (out : List El), finD (decL n l 0 0 out) = decS n l out
  | 0, l, out => by
    cases l <;> simp [decL, finD, decS, needW]
  | n + 1, [], out => by
    obtain ⟨h1, h2, h3⟩ := gv_nil 1 (by omega)
    simp [decL, decS, h1, h2, h3, needW_7, elR, finD, needW_w]
  | n + 1, kd :: t, out => by
    obtain ⟨h1, h2, h3⟩ := gv_cons kd t
    unfold decL decS
    rw [h1, h2, h3]
    by_cases hk1 : kd = 1
    · subst hk1
      rw [show there 1 = true from rfl, needW_t, if_pos rfl]
      have hr : rdS 1 t 0 0 = (⟨0, (rcS t 0 0).1, (rcS t 0 0).2.1, (rcS t 0 0).2.2.1, 0⟩, (rcS t 0 0).2.2.2.1, (rcS t 0 0).2.2.2.2.1, (rcS t 0 0).2.2.2.2.2) := by simp [rdS]
      rw [hr]
      simp only
      cases t with
      | nil =>
        obtain ⟨g1, g2, g3⟩ := gv_nil 1 (by omega)
        obtain ⟨k1, k2, k3⟩ := gv_7 1 []
        obtain ⟨m1, m2, m3⟩ := gv_7 8 []
        simp only [rcS, g1, g2, g3, k1, k2, k3, m1, m2, m3, needW_7, needW_w (show (7 : Int) ≠ 0 by decide)]
        rw [decL_w (by decide)]
        simp [elR]
      | cons s t1 =>
        obtain ⟨g1, g2, g3⟩ := gv_cons s t1
        by_cases hs : 7 < s
        · have hs2 : decide (s < 8) = false := by simp; omega
          simp only [rcS, g1, g2, g3, hs2, needW_f, needW_w (show (151 : Int) ≠ 0 by decide)]
          rw [decL_w (by decide)]
          simp [elR, hs]
        · have hs2 : decide (s < 8) = true := by simp; omega
          cases t1 with
          | nil =>
            obtain ⟨k1, k2, k3⟩ := gv_nil 1 (by omega)
            obtain ⟨m1, m2, m3⟩ := gv_7 8 []
            simp only [rcS, g1, g2, g3, k1, k2, k3, m1, m2, m3, hs2, needW_t, needW_7]
            rw [needW_w (by decide), decL_w (by decide)]
            simp [elR, hs]
          | cons k t2 =>
            obtain ⟨k1, k2, k3⟩ := gv_cons k t2
            by_cases hk : 31 < k
            · have hk2 : decide (k < 32) = false := by simp; omega
              simp only [rcS, g1, g2, g3, k1, k2, k3, hs2, hk2, needW_t, needW_f]
              rw [needW_w (by decide), decL_w (by decide)]
              simp [elR, hs, hk]
            · have hk2 : decide (k < 32) = true := by simp; omega
              by_cases h8 : 8 ≤ t2.length
              · obtain ⟨m1, m2, m3⟩ := gv_8 h8
                simp only [rcS, g1, g2, g3, k1, k2, k3, m1, m2, m3, hs2, hk2, needW_t]
                rw [decL_S n]
                simp [elR, hs, hk, h8]
              · obtain ⟨m1, m2, m3⟩ := gv_8n h8
                simp only [rcS, g1, g2, g3, k1, k2, k3, m1, m2, m3, hs2, hk2, needW_t, needW_7]
                rw [decL_w (by decide)]
                simp [elR, hs, hk, h8]
    by_cases hk2 : kd = 2
    · subst hk2
      rw [show there 2 = true from rfl, needW_t, if_pos rfl]
      have hr : rdS 2 t 0 0 = (⟨0, 0, 0, 0, gvX 8 t 0⟩, gvL 8 t 0, gvE 8 t 0, needW 0 (gvE 8 t 0) (numOk (gvX 8 t 0))) := by simp [rdS]
      rw [hr]
      simp only
      by_cases h8 : 8 ≤ t.length
      · obtain ⟨m1, m2, m3⟩ := gv_8 h8
        rw [m1, m2, m3]
        cases hno : numOk (numB (t.take 8))
        · rw [needW_f, needW_w (by decide), decL_w (by decide)]
          simp [elR, h8, hno]
        · rw [needW_t, needW_t, decL_S n]
          simp [elR, h8, hno]
      · obtain ⟨m1, m2, m3⟩ := gv_8n h8
        rw [m1, m2, m3, needW_7, needW_w (by decide), decL_w (by decide)]
        simp [elR, h8]
    by_cases hk3 : kd = 3
    · subst hk3
      rw [show there 3 = true from rfl, needW_t, if_pos rfl]
      have hr : rdS 3 t 0 0 = (⟨0, 0, 0, 0, 0⟩, t, 0, 0) := by simp [rdS]
      rw [hr]
      simp only
      rw [needW_t, decL_S n]
      simp [elR]
    · have ht : there kd = false := by simp [there, hk1, hk2, hk3]
      rw [ht, needW_f, if_neg (by decide)]
      simp [elR, hk1, hk2, hk3, finD, needW_w]
theorem decR_S : ∀ b : List Int, decR b = match b with | [] => ([], 7) | n :: l => if 200 < n then ([], 3) else decS n.toNat l []
  | [] => by
    obtain ⟨h1, h2, h3⟩ := gv_nil 1 (by omega)
    unfold decR
    rw [h1, h2, h3, needW_7]
    simp [decL, needW]
  | n :: l => by
    obtain ⟨h1, h2, h3⟩ := gv_cons n l
    unfold decR
    rw [h1, h2, h3, needW_t]
    simp only
    split
    · rfl
    · exact decL_S _ _ _
end Go.Proofs.Ytfdedgeljijfdaa
