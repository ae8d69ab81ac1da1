/- Plain law: the document and the program say the same of which logs may be. -/
import Derived.Test.YtdeckjoeggmagaaDB
import Derived.Test.YtdeckjoeggmagaaV
namespace Go.Proofs.Ytdeckjoeggmagaa
open Go.RowKit
open Nat renaming reduceEqDiff → nA, reduceLT → nB, reduceLeDiff → nC, reduceAdd → nD, reduceMul → nE, reduceSub → nF, reduceBEq → nG
open Int renaming reduceToNat → iA, reduceLT → iB, reduceLE → iC, reduceEq → iD
open Bool renaming and_eq_true → bA, or_eq_true → bB, or_eq_false_iff → bC, and_eq_false_iff → bD, not_eq_true' → bE, not_eq_false' → bF, not_true → bG, not_false → bH
set_option linter.all false
set_option maxHeartbeats 4000000
attribute [local irreducible] AW Does ACall tE tS tB tZ

theorem rtx_iff (done : List Nm) : ∀ (l : List Tx) (p : Option Nm), rtx done p l = true ↔ (∀ x ∈ l, nmOk x.nm = true ∧ (x.st = 1 ∨ x.st = 2) ∧ (∀ r ∈ x.rs, recOk r = true) ∧ ¬ x.nm ∈ done) ∧ RiseT l ∧ ∀ y, p = some y → ∀ x ∈ l, cmpN y x.nm < 0
  | [], p => by simp [rtx, RiseT]
  | x :: l, p => by
    have ih := rtx_iff done l (some x.nm)
    have hp : aftN p x.nm = true ↔ ∀ y, p = some y → cmpN y x.nm < 0 := by
      cases p with
      | none => simp [aftN]
      | some y => simp [aftN]
    have hr : x.rs.all recOk = true ↔ ∀ r ∈ x.rs, recOk r = true := List.all_eq_true
    have hm : (!decide (x.nm ∈ done)) = true ↔ ¬ x.nm ∈ done := by simp
    have hs : (decide (x.st = 1) || decide (x.st = 2)) = true ↔ (x.st = 1 ∨ x.st = 2) := by simp
    simp only [rtx, Bool.and_eq_true, ih, hp, hr, hm, hs]
    constructor
    · rintro ⟨a1, a2, a3, a4, a5, b1, b2, b3⟩
      refine ⟨fun z hz => ?_, ?_, fun y hy z hz => ?_⟩
      · rcases List.mem_cons.1 hz with rfl | hz
        · exact ⟨a1, a2, a4, a5⟩
        · exact b1 z hz
      · exact List.Pairwise.cons (fun z hz => b3 x.nm rfl z hz) b2
      · rcases List.mem_cons.1 hz with rfl | hz
        · exact a3 y hy
        · exact cmpN_trans (a3 y hy) (b3 x.nm rfl z hz)
    · rintro ⟨h1, h2, h3⟩
      have h2' := List.pairwise_cons.1 h2
      obtain ⟨c1, c2, c3, c4⟩ := h1 x (by simp)
      exact ⟨c1, c2, fun y hy => h3 y hy x (by simp), c3, c4, fun z hz => h1 z (by simp [hz]), h2'.2, fun y hy z hz => by cases hy; exact h2'.1 z hz⟩
theorem rdn_iff : ∀ (l met : List Nm), rdn met l = true ↔ (∀ x ∈ l, nmOk x = true ∧ ¬ x ∈ met) ∧ l.Nodup
  | [], met => by simp [rdn]
  | x :: l, met => by
    have ih := rdn_iff l (met ++ [x])
    have hm : (!decide (x ∈ met)) = true ↔ ¬ x ∈ met := by simp
    simp only [rdn, Bool.and_eq_true, ih, hm, List.nodup_cons]
    constructor
    · rintro ⟨a1, a2, b1, b2⟩
      refine ⟨fun z hz => ?_, fun h => (b1 x h).2 (by simp), b2⟩
      rcases List.mem_cons.1 hz with rfl | hz
      · exact ⟨a1, a2⟩
      · exact ⟨(b1 z hz).1, fun h => (b1 z hz).2 (by simp [h])⟩
    · rintro ⟨h1, h2, h3⟩
      refine ⟨(h1 x (by simp)).1, (h1 x (by simp)).2, fun z hz => ⟨(h1 z (by simp [hz])).1, fun h => ?_⟩, h3⟩
      rcases List.mem_append.1 h with h | h
      · exact (h1 z (by simp [hz])).2 h
      · simp only [List.mem_singleton] at h; subst h; exact h2 hz
theorem lgR_eq (l : Lg) : lgR l = lgOk l := by
  rw [Bool.eq_iff_iff, lgOk_iff]
  have hr : l.log.all recOk = true ↔ ∀ r ∈ l.log, recOk r = true := List.all_eq_true
  simp only [lgR, Bool.and_eq_true, decide_eq_true_eq, hr, rtx_iff, rdn_iff]
  constructor
  · rintro ⟨⟨a1, a2, a3, a4⟩, ⟨b1, b2, -⟩, c1, c2⟩
    exact ⟨a1, a2, a3, a4, fun x hx => ⟨(b1 x hx).1, (b1 x hx).2.1, (b1 x hx).2.2.1⟩, b2, fun n hn => (c1 n hn).1, c2, fun x hx => (b1 x hx).2.2.2⟩
  · rintro ⟨a1, a2, a3, a4, b1, b2, c1, c2, c3⟩
    exact ⟨⟨a1, a2, a3, a4⟩, ⟨fun x hx => ⟨(b1 x hx).1, (b1 x hx).2.1, (b1 x hx).2.2, c3 x hx⟩, b2, by simp⟩, fun n hn => ⟨c1 n hn, by simp⟩, c2⟩
theorem Right_p (l : Lg) (hf : l.fits) : Pure Try.prog 64 [.g (Lg.av l)] (.c (.bool (lgOk l))) := by
  rw [← lgR_eq]; exact Right_r l hf
end Go.Proofs.Ytdeckjoeggmagaa
