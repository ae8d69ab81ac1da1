/- Plain law: sums of windows, running sums. Conditions: as each theorem states them. -/
import Derived.Test.YtipblkdekppbfaaP
namespace Go.Proofs.Ytipblkdekppbfaa
open Go.RowKit
set_option linter.unusedVariables false

def sumZ (l : List Int) : Int := l.foldl (· + ·) 0
theorem sumZ_go (l : List Int) : ∀ x, l.foldl (· + ·) x = x + sumZ l := by
  unfold sumZ
  induction l with
  | nil => intro x; simp
  | cons a l ih => intro x; simp only [List.foldl_cons]; rw [ih, ih (0 + a)]; omega
theorem sumZ_snoc (l : List Int) (v : Int) : sumZ (l ++ [v]) = sumZ l + v := by simp [sumZ, List.foldl_append]

/-- the sum that goes round -/
def sum64 (s : Int) (l : List Int) : Int := l.foldl (fun s v => wrap64 (s + v)) s
theorem sum64_snoc (s : Int) (l : List Int) (v : Int) : sum64 s (l ++ [v]) = wrap64 (sum64 s l + v) := by simp [sum64, List.foldl_append]
theorem wrap64_mod (x : Int) : wrap64 x % 18446744073709551616 = x % 18446744073709551616 := by unfold wrap64; omega
theorem eq_of_mod {x y : Int} (hx : i64b x) (hy : i64b y) (h : x % 18446744073709551616 = y % 18446744073709551616) : x = y := by unfold i64b at *; omega
theorem wrap64_in {x : Int} (h : i64b x) : wrap64 x = x := by unfold i64b wrap64 at *; omega
theorem sum64_mod (l : List Int) : ∀ s, sum64 s l % 18446744073709551616 = (s + sumZ l) % 18446744073709551616 := by
  refine snocRec (p := fun l => ∀ s, sum64 s l % 18446744073709551616 = (s + sumZ l) % 18446744073709551616) ?_ ?_ l
  · intro s; simp [sum64, sumZ]
  · intro l v ih s
    rw [sum64_snoc, wrap64_mod, sumZ_snoc]
    have := ih s
    omega
theorem sum64_b (l : List Int) (s : Int) (hs : i64b s) : i64b (sum64 s l) := by
  rcases List.eq_nil_or_concat l with rfl | ⟨m, c, rfl⟩
  · exact hs
  · rw [List.concat_eq_append, sum64_snoc]; exact wrap_b _

/-- of windows: the sums, and what is left, are the sum of all -/
theorem window_sums (o : OpD) (ht : o.tag = 5) (hA1 : 1 ≤ o.A) (hA8 : o.A ≤ 8) (vs : List Int) :
    (flowS o zeroC vs).2.2 = 0 ∧ 0 ≤ (flowS o zeroC vs).1.count ∧ (flowS o zeroC vs).1.count < o.A ∧ i64b (flowS o zeroC vs).1.sum ∧
    ((flowS o zeroC vs).1.sum + sumZ (flowS o zeroC vs).2.1) % 18446744073709551616 = sumZ vs % 18446744073709551616 := by
  refine snocRec (p := fun vs => (flowS o zeroC vs).2.2 = 0 ∧ 0 ≤ (flowS o zeroC vs).1.count ∧ (flowS o zeroC vs).1.count < o.A ∧ i64b (flowS o zeroC vs).1.sum ∧
    ((flowS o zeroC vs).1.sum + sumZ (flowS o zeroC vs).2.1) % 18446744073709551616 = sumZ vs % 18446744073709551616) ?_ ?_ vs
  · exact ⟨rfl, by show (0 : Int) ≤ 0; omega, by show (0 : Int) < o.A; omega, by unfold i64b; show (-9223372036854775808 : Int) ≤ 0 ∧ (0 : Int) ≤ 9223372036854775807; omega, rfl⟩
  · intro vs v ih
    rw [flowS_snoc]
    obtain ⟨h1, h2, h3, h4, h5⟩ := ih
    generalize flowS o zeroC vs = s at *
    obtain ⟨⟨cnt, sm⟩, out, e⟩ := s
    simp only at h1 h2 h3 h4 h5
    subst h1
    have hw : wrap64 (cnt + 1) = cnt + 1 := by unfold wrap64; omega
    have hm := wrap64_mod (sm + v)
    have hwb := wrap_b (sm + v)
    unfold fstep
    rw [if_neg (by simp), if_neg (by simp only; omega)]
    unfold stepS
    simp only [ht, show ¬ (5 : Int) = 2 by decide, show ¬ (5 : Int) = 3 by decide, show ¬ (5 : Int) = 4 by decide, if_true, if_false, hw, sumZ_snoc]
    by_cases hlt : cnt + 1 < o.A
    · simp only [hlt, if_true]
      refine ⟨trivial, by omega, trivial, hwb, ?_⟩
      simp only [Bool.false_eq_true, if_false, List.append_nil]
      omega
    · simp only [hlt, if_false, if_true]
      refine ⟨trivial, by omega, by omega, by unfold i64b; omega, ?_⟩
      rw [sumZ_snoc]
      omega

/-- running sums -/
theorem reduce_sums (o : OpD) (ht : o.tag = 4) (vs : List Int) : vs.length ≤ 1000 → (∀ v ∈ vs, i64b v) →
    (flowS o zeroC vs).2.2 = 0 ∧ (flowS o zeroC vs).1.count = vs.length ∧ i64b (flowS o zeroC vs).1.sum ∧ (flowS o zeroC vs).1.sum % 18446744073709551616 = sumZ vs % 18446744073709551616 ∧
    (flowS o zeroC vs).2.1.length = vs.length ∧ (flowS o zeroC vs).2.1.getLastD 0 = (flowS o zeroC vs).1.sum ∧
    ∀ i (h1 : i < vs.length) (h2 : i < (flowS o zeroC vs).2.1.length), wrap64 ((flowS o zeroC vs).2.1[i] - (if i = 0 then 0 else (flowS o zeroC vs).2.1.getD (i - 1) 0)) = vs[i] := by
  refine snocRec (p := fun vs => vs.length ≤ 1000 → (∀ v ∈ vs, i64b v) →
    (flowS o zeroC vs).2.2 = 0 ∧ (flowS o zeroC vs).1.count = vs.length ∧ i64b (flowS o zeroC vs).1.sum ∧ (flowS o zeroC vs).1.sum % 18446744073709551616 = sumZ vs % 18446744073709551616 ∧
    (flowS o zeroC vs).2.1.length = vs.length ∧ (flowS o zeroC vs).2.1.getLastD 0 = (flowS o zeroC vs).1.sum ∧
    ∀ i (h1 : i < vs.length) (h2 : i < (flowS o zeroC vs).2.1.length), wrap64 ((flowS o zeroC vs).2.1[i] - (if i = 0 then 0 else (flowS o zeroC vs).2.1.getD (i - 1) 0)) = vs[i]) ?_ ?_ vs
  · intro _ _
    exact ⟨rfl, rfl, by unfold i64b; show (-9223372036854775808 : Int) ≤ 0 ∧ (0 : Int) ≤ 9223372036854775807; omega, rfl, rfl, rfl, fun i h => by simp at h⟩
  · intro vs v ih hl hv
    rw [List.length_append, List.length_singleton] at hl
    obtain ⟨h1, h2, h3, h4, h5, h6, h7⟩ := ih (by omega) (fun x hx => hv x (by simp [hx]))
    have hvb := hv v (by simp)
    have e : flowS o zeroC (vs ++ [v]) = (⟨(flowS o zeroC vs).1.count + 1, wrap64 ((flowS o zeroC vs).1.sum + v)⟩, (flowS o zeroC vs).2.1 ++ [wrap64 ((flowS o zeroC vs).1.sum + v)], 0) := by
      rw [flowS_snoc]
      unfold fstep
      rw [if_neg (by simp [h1]), if_neg (by omega)]
      unfold stepS
      have hw : wrap64 ((flowS o zeroC vs).1.count + 1) = (flowS o zeroC vs).1.count + 1 := by unfold wrap64; omega
      simp [ht, hw]
    rw [e]
    generalize flowS o zeroC vs = s at *
    obtain ⟨⟨cnt, sm⟩, out, er⟩ := s
    simp only at h1 h2 h3 h4 h5 h6 h7
    have hm := wrap64_mod (sm + v)
    refine ⟨rfl, by simp only [List.length_append, List.length_singleton]; omega, wrap_b _, by rw [sumZ_snoc]; show wrap64 (sm + v) % _ = _; omega, by simp [h5], by simp, ?_⟩
    intro i hi1 hi2
    simp only [List.length_append, List.length_singleton] at hi1 hi2
    by_cases hlt : i < vs.length
    · have hlo : i < out.length := by omega
      have := h7 i hlt hlo
      simp only
      rw [List.getElem_append_left hlo, List.getElem_append_left hlt]
      by_cases h0 : i = 0
      · subst h0; simpa using this
      · rw [if_neg h0] at this ⊢
        rw [List.getD_eq_getElem?_getD, List.getElem?_append_left (by omega), ← List.getD_eq_getElem?_getD]
        exact this
    · obtain rfl : i = vs.length := by omega
      simp only
      rw [List.getElem_append_right (by omega), List.getElem_append_right (by omega)]
      simp only [h5, Nat.sub_self, List.getElem_cons_zero]
      have hlast : (if vs.length = 0 then 0 else (out ++ [wrap64 (sm + v)]).getD (vs.length - 1) 0) = sm := by
        split
        · rename_i h0
          have : out = [] := List.eq_nil_of_length_eq_zero (by omega)
          subst this
          simpa using h6
        · rename_i h0
          rw [List.getD_eq_getElem?_getD, List.getElem?_append_left (by omega), ← h5]
          rw [← h6, List.getLastD_eq_getLast?, List.getLast?_eq_getElem?]
      rw [hlast]
      unfold i64b at hvb h3
      unfold wrap64
      omega
end Go.Proofs.Ytipblkdekppbfaa
