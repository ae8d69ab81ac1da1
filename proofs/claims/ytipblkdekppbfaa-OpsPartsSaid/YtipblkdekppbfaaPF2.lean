/- Plain law: two rows, one behind the other. Conditions: as each theorem states them. -/
import Derived.Test.YtipblkdekppbfaaPF
namespace Go.Proofs.Ytipblkdekppbfaa
open Go.RowKit
set_option linter.unusedVariables false

theorem fits_flow (o : OpD) (ins : List Int) (ha : aloneS o ins = true) (vs : List Int) : ∀ c, c.ok → (∀ v ∈ vs, i64b v) → fitsS o c = true → (flowS o c vs).2.2 = 0 → fitsS o (flowS o c vs).1 = true := by
  induction vs with
  | nil => intro c _ _ hf _; exact hf
  | cons v vs ih =>
    intro c hc hv hf h
    by_cases hm : c.count = 9223372036854775807
    · rw [flowS_full _ _ _ _ hm] at h; cases h
    · rw [flowS_cons _ _ _ _ hm] at h ⊢
      exact ih _ (stepS_ok o c v hc (hv v (by simp))).1 (fun x hx => hv x (by simp [hx])) (fits_step o ins c v ha hf hc hm) h

theorem flowS_stuck (o : OpD) (c : CellD) (xs ys : List Int) (h : (flowS o c xs).2.2 ≠ 0) : flowS o c (xs ++ ys) = flowS o c xs := by
  show (xs ++ ys).foldl (fstep o) (c, [], 0) = _
  rw [List.foldl_append]
  exact fstep_stuck o ys _ h

theorem parts_err (o : OpD) (ins : List Int) (c : CellD) (xs ys : List Int) (h : (runS o ins c xs).2.2 ≠ 0) : (runS o ins c (xs ++ ys)).2.2 = (runS o ins c xs).2.2 ∧ (runS o ins c (xs ++ ys)).2.1 = [] := by
  by_cases h1 : aloneS o ins = false
  · unfold runS; rw [if_pos h1, if_pos h1]; exact ⟨rfl, rfl⟩
  by_cases h2 : fitsS o c = false
  · unfold runS; rw [if_neg h1, if_neg h1, if_pos h2, if_pos h2]; exact ⟨rfl, rfl⟩
  unfold runS at *
  rw [if_neg h1, if_neg h2] at h ⊢
  rw [if_neg h1, if_neg h2]
  by_cases h3 : (flowS o c xs).2.2 ≠ 0
  · rw [flowS_stuck o c xs ys h3, if_pos h3]; exact ⟨rfl, rfl⟩
  · rw [if_neg h3] at h; exact absurd rfl h

theorem parts_ok (o : OpD) (ins : List Int) (c : CellD) (xs ys : List Int) (hc : c.ok) (hx : ∀ v ∈ xs, i64b v) (h : (runS o ins c xs).2.2 = 0) :
    aloneS o ins = true ∧ (runS o ins c xs).1.ok ∧ fitsS o (runS o ins c xs).1 = true ∧
    ((runS o ins (runS o ins c xs).1 ys).2.2 ≠ 0 → (runS o ins c (xs ++ ys)).2.2 = (runS o ins (runS o ins c xs).1 ys).2.2) ∧
    ((runS o ins (runS o ins c xs).1 ys).2.2 = 0 → runS o ins c (xs ++ ys) = ((runS o ins (runS o ins c xs).1 ys).1, (runS o ins c xs).2.1 ++ (runS o ins (runS o ins c xs).1 ys).2.1, 0)) := by
  by_cases h1 : aloneS o ins = false
  · unfold runS at h; rw [if_pos h1] at h; cases h
  by_cases h2 : fitsS o c = false
  · unfold runS at h; rw [if_neg h1, if_pos h2] at h; cases h
  by_cases h3 : (flowS o c xs).2.2 ≠ 0
  · unfold runS at h; rw [if_neg h1, if_neg h2, if_pos h3] at h; exact absurd h h3
  have e1 : runS o ins c xs = ((flowS o c xs).1, (flowS o c xs).2.1, 0) := by unfold runS; rw [if_neg h1, if_neg h2, if_neg h3]
  have h1' : aloneS o ins = true := by simpa using h1
  have h2' : fitsS o c = true := by simpa using h2
  have h3' : (flowS o c xs).2.2 = 0 := by simpa using h3
  have hfit := fits_flow o ins h1' xs c hc hx h2' h3'
  rw [e1]
  simp only
  have hfl := flowS_app o c xs ys h3'
  have h4 : ¬ fitsS o (flowS o c xs).1 = false := by rw [hfit]; simp
  refine ⟨h1', (flowS_ok o xs c hc hx).1, hfit, ?_, ?_⟩
  · unfold runS
    rw [if_neg h1, if_neg h4, if_neg h1, if_neg h2, hfl]
    intro h
    by_cases h5 : (flowS o (flowS o c xs).1 ys).2.2 ≠ 0
    · rw [if_pos h5, if_pos h5]
    · rw [if_neg h5] at h; exact absurd rfl h
  · unfold runS
    rw [if_neg h1, if_neg h4, if_neg h1, if_neg h2, hfl]
    intro h
    by_cases h5 : (flowS o (flowS o c xs).1 ys).2.2 ≠ 0
    · rw [if_pos h5] at h; exact absurd h h5
    · rw [if_neg h5, if_neg h5]
end Go.Proofs.Ytipblkdekppbfaa
