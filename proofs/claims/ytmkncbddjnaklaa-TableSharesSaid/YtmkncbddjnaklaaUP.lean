/- Plain law: how many rows a table may have. -/
import Derived.Test.YtmkncbddjnaklaaTM
namespace Go.Proofs.Ytmkncbddjnaklaa
open Go.RowKit
open Nat renaming reduceEqDiff → nA, reduceLT → nB, reduceLeDiff → nC, reduceAdd → nD, reduceMul → nE, reduceSub → nF, reduceBEq → nG
open Int renaming reduceToNat → iA, reduceLT → iB, reduceLE → iC, reduceEq → iD
open Bool renaming and_eq_true → bA, or_eq_true → bB, or_eq_false_iff → bC, and_eq_false_iff → bD, not_eq_true' → bE, not_eq_false' → bF, not_true → bG, not_false → bH
set_option linter.all false
set_option maxHeartbeats 4000000
attribute [local irreducible] AW Does ACall tE tS tB tZ

theorem inc_len : ∀ (l : List Int) (a b : Int), a ≤ b → l.Pairwise (· < ·) → (∀ x ∈ l, a ≤ x ∧ x < b) → (l.length : Int) ≤ b - a
  | [], a, b, h, _, _ => by simp; omega
  | x :: l, a, b, h, hp, hb => by
    have h1 := hb x (by simp)
    have h2 := List.pairwise_cons.1 hp
    have := inc_len l (x + 1) b (by omega) h2.2 (fun y hy => ⟨by have := h2.1 y hy; omega, (hb y (by simp [hy])).2⟩)
    rw [List.length_cons]; omega
def kno (x : KC) : Int := x.s * 32 + x.k
theorem kno_of {x : KC} (h : recOk (keyS x) = true) : 0 ≤ x.s ∧ x.s < 8 ∧ 0 ≤ x.k ∧ x.k < 32 := by
  have h : recOk ⟨x.s, x.k, 0⟩ = true := h
  simp only [recOk, Bool.and_eq_true, decide_eq_true_eq] at h
  omega
theorem tOk_len {T : List KC} (h : tOk T = true) : T.length ≤ 256 := by
  have hr := tOk_rise h
  have hm := tGo_mem T none h
  have h2 : (T.map kno).Pairwise (· < ·) := by
    rw [List.pairwise_map]
    refine List.Pairwise.imp_of_mem ?_ hr
    intro x y hx hy hc
    have h1 := kno_of (hm x hx).1
    have h2 := kno_of (hm y hy).1
    rw [cmpR_neg] at hc
    simp only [keyS] at hc
    unfold kno; omega
  have h3 := inc_len _ 0 256 (by omega) h2 (fun z hz => by
    obtain ⟨x, hx, rfl⟩ := List.mem_map.1 hz
    have h1 := kno_of (hm x hx).1
    unfold kno; omega)
  rw [List.length_map] at h3
  omega
theorem putE_ok {r : Rec} {c : CellD} (h : putE r c = 0) : recOk r = true ∧ (c = zeroC ∨ 1 ≤ c.count) := by
  unfold putE at h
  split at h
  · simp at h
  · split at h
    · simp at h
    · rename_i h1 h2
      refine ⟨by simpa using h1, ?_⟩
      by_cases h3 : c.count = 0
      · left
        obtain ⟨cn, cs⟩ := c
        simp only at h2 h3
        have h4 : cs = 0 := by
          by_cases h5 : cs = 0
          · exact h5
          · exact absurd (.inr ⟨h3, h5⟩) h2
        rw [h3, h4]; rfl
      · right
        have : ¬ c.count < 0 := fun h5 => h2 (.inl h5)
        omega
theorem putR_len {T : List KC} (hT : T.length ≤ 257) (r : Rec) (c : CellD) (he : (putR T r c).2 = 0) : (putR T r c).1.length ≤ 257 := by
  unfold putR at he ⊢
  cases ht : tOk T
  · rw [ht] at he; simp at he
  · rw [ht] at he
    simp only [Bool.true_eq_false, if_false] at he ⊢
    by_cases hp : putE r c = 0
    · rw [if_pos hp]
      obtain ⟨h1, h2⟩ := putE_ok hp
      have := tOk_len (tOk_set ht h1 h2)
      show (setS T r c).length ≤ 257
      omega
    · rw [if_neg hp] at he
      exact absurd he hp
theorem putR_len2 {T : List KC} (hT : T.length ≤ 257) (r : Rec) (c : CellD) : (putR T r c).1.length ≤ 258 := by
  unfold putR
  split
  · simp
  · split
    · have := setS_len T r c; simp only; omega
    · simp
end Go.Proofs.Ytmkncbddjnaklaa
