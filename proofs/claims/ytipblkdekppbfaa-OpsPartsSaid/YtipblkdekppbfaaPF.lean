/- Plain law: how many values come of values. Conditions: as each theorem states them. -/
import Derived.Test.YtipblkdekppbfaaP
namespace Go.Proofs.Ytipblkdekppbfaa
open Go.RowKit
set_option linter.unusedVariables false

theorem few_filter (o : OpD) (ht : o.tag = 3) (vs : List Int) : ∀ c, (flowS o c vs).2.2 = 0 → (flowS o c vs).1 = c ∧ ∀ v ∈ (flowS o c vs).2.1, modS v o.A = o.B ∧ v ∈ vs := by
  induction vs with
  | nil => intro c _; exact ⟨rfl, fun v h => by simp [flowS] at h⟩
  | cons v vs ih =>
    intro c h
    by_cases hm : c.count = 9223372036854775807
    · rw [flowS_full _ _ _ _ hm] at h; cases h
    · rw [flowS_cons _ _ _ _ hm] at h ⊢
      have e : stepS o c v = (c, v, modS v o.A == o.B) := by
        unfold stepS; simp only [ht, show ¬ (3 : Int) = 2 by decide, if_true, if_false]
      rw [e] at h ⊢
      simp only at h ⊢
      obtain ⟨h1, h2⟩ := ih c h
      refine ⟨h1, fun x hx => ?_⟩
      rw [List.mem_append] at hx
      rcases hx with hx | hx
      · split at hx
        · rename_i hq
          simp only [List.mem_singleton] at hx
          subst hx
          exact ⟨by simpa using hq, by simp⟩
        · simp at hx
      · exact ⟨(h2 x hx).1, List.mem_cons_of_mem _ (h2 x hx).2⟩

theorem few_reduce (o : OpD) (ht : o.tag = 4) (vs : List Int) : ∀ c, c.ok → (flowS o c vs).2.2 = 0 → (flowS o c vs).1.count = c.count + vs.length ∧ (flowS o c vs).2.1.length = vs.length := by
  induction vs with
  | nil => intro c _ _; exact ⟨by simp [flowS], rfl⟩
  | cons v vs ih =>
    intro c hok h
    by_cases hm : c.count = 9223372036854775807
    · rw [flowS_full _ _ _ _ hm] at h; cases h
    · rw [flowS_cons _ _ _ _ hm] at h ⊢
      have hw : wrap64 (c.count + 1) = c.count + 1 := by have := hok.1; unfold i64b at this; unfold wrap64; omega
      have e : stepS o c v = (⟨c.count + 1, wrap64 (c.sum + v)⟩, wrap64 (c.sum + v), true) := by
        unfold stepS; simp only [ht, show ¬ (4 : Int) = 2 by decide, show ¬ (4 : Int) = 3 by decide, if_true, if_false, hw]
      rw [e] at h ⊢
      simp only [if_true] at h ⊢
      obtain ⟨h1, h2⟩ := ih _ ⟨by have := hok.1; unfold i64b at this ⊢; simp only; omega, wrap_b _⟩ h
      rw [h1]
      refine ⟨by simp only [List.length_cons]; omega, by simp only [List.length_append, List.length_cons, List.length_nil, h2]; omega⟩

theorem few_window (o : OpD) (ht : o.tag = 5) (h1 : 1 ≤ o.A) (h8 : o.A ≤ 8) (vs : List Int) : ∀ c : CellD, 0 ≤ c.count → c.count < o.A →
    (flowS o c vs).2.2 = 0 ∧ 0 ≤ (flowS o c vs).1.count ∧ (flowS o c vs).1.count < o.A ∧ c.count + vs.length = o.A * (flowS o c vs).2.1.length + (flowS o c vs).1.count := by
  induction vs with
  | nil => intro c h h'; exact ⟨rfl, h, h', by simp [flowS]⟩
  | cons v vs ih =>
    intro c hc0 hcA
    rw [flowS_cons _ _ _ _ (by omega)]
    have hw : wrap64 (c.count + 1) = c.count + 1 := by unfold wrap64; omega
    by_cases hlt : c.count + 1 < o.A
    · have e : stepS o c v = (⟨c.count + 1, wrap64 (c.sum + v)⟩, 0, false) := by
        unfold stepS; simp only [ht, show ¬ (5 : Int) = 2 by decide, show ¬ (5 : Int) = 3 by decide, show ¬ (5 : Int) = 4 by decide, if_true, if_false, hw, hlt]
      rw [e]
      obtain ⟨a1, a2, a3, a4⟩ := ih ⟨c.count + 1, wrap64 (c.sum + v)⟩ (by simp only; omega) hlt
      refine ⟨a1, a2, a3, ?_⟩
      simp only [List.length_cons, Bool.false_eq_true, if_false, List.nil_append] at a4 ⊢
      omega
    · have e : stepS o c v = (⟨0, 0⟩, wrap64 (c.sum + v), true) := by
        unfold stepS; simp only [ht, show ¬ (5 : Int) = 2 by decide, show ¬ (5 : Int) = 3 by decide, show ¬ (5 : Int) = 4 by decide, if_true, if_false, hw, hlt]
      rw [e]
      obtain ⟨a1, a2, a3, a4⟩ := ih ⟨0, 0⟩ (by simp) (by simp only; omega)
      refine ⟨a1, a2, a3, ?_⟩
      simp only [List.length_cons, if_true, List.length_append, List.length_nil] at a4 ⊢
      rw [show ((0 + 1 + (flowS o ⟨0, 0⟩ vs).2.1.length : Nat) : Int) = 1 + ((flowS o ⟨0, 0⟩ vs).2.1.length : Int) by omega, Int.mul_add, Int.mul_one]
      omega

theorem few_other (o : OpD) (h3 : o.tag ≠ 3) (h4 : o.tag ≠ 4) (h5 : o.tag ≠ 5) (vs : List Int) : ∀ c, (flowS o c vs).2.2 = 0 → (flowS o c vs).1 = c ∧ (flowS o c vs).2.1.length = vs.length := by
  induction vs with
  | nil => intro c _; exact ⟨rfl, rfl⟩
  | cons v vs ih =>
    intro c h
    by_cases hm : c.count = 9223372036854775807
    · rw [flowS_full _ _ _ _ hm] at h; cases h
    · rw [flowS_cons _ _ _ _ hm] at h ⊢
      obtain ⟨y, e⟩ : ∃ y, stepS o c v = (c, y, true) := by
        unfold stepS
        by_cases h2 : o.tag = 2
        · rw [if_pos h2]; exact ⟨_, rfl⟩
        · rw [if_neg h2, if_neg h3, if_neg h4, if_neg h5]; exact ⟨_, rfl⟩
      rw [e] at h ⊢
      simp only [if_true] at h ⊢
      obtain ⟨h1, h2⟩ := ih c h
      exact ⟨h1, by simp only [List.length_append, List.length_cons, List.length_nil, h2]; omega⟩

/-- a cell that fits a window -/
theorem fits_window (o : OpD) (c : CellD) (ht : o.tag = 5) (hf : fitsS o c = true) : 0 ≤ c.count ∧ c.count < o.A := by
  unfold fitsS at hf
  rw [if_neg (by omega), if_pos ht, Bool.and_eq_true] at hf
  obtain ⟨h1, h2⟩ := hf
  refine ⟨?_, of_decide_eq_true h2⟩
  unfold soundS at h1
  rcases Bool.or_eq_true_iff.1 h1 with h | h
  · have := of_decide_eq_true h; omega
  · have h' : c = zeroC := of_decide_eq_true h; rw [h']; decide
end Go.Proofs.Ytipblkdekppbfaa
