/- Plain law: parts of a table, and their joins. -/
import Derived.Test.YtmkncbddjnaklaaUL
import Derived.Test.YtmkncbddjnaklaaUC
namespace Go.Proofs.Ytmkncbddjnaklaa
open Go.RowKit
open Nat renaming reduceEqDiff → nA, reduceLT → nB, reduceLeDiff → nC, reduceAdd → nD, reduceMul → nE, reduceSub → nF, reduceBEq → nG
open Int renaming reduceToNat → iA, reduceLT → iB, reduceLE → iC, reduceEq → iD
open Bool renaming and_eq_true → bA, or_eq_true → bB, or_eq_false_iff → bC, and_eq_false_iff → bD, not_eq_true' → bE, not_eq_false' → bF, not_true → bG, not_false → bH
set_option linter.all false
set_option maxHeartbeats 4000000
attribute [local irreducible] AW Does ACall tE tS tB tZ

theorem tOk_iff {T : List KC} : tOk T = true ↔ Rise T ∧ ∀ x ∈ T, recOk (keyS x) = true ∧ 1 ≤ x.n :=
  ⟨fun h => ⟨tOk_rise h, tGo_mem T none h⟩, fun h => tGo_of T none h.1 h.2 (fun y hy => by cases hy)⟩
theorem tOk_filter {T : List KC} (h : tOk T = true) (p : KC → Bool) : tOk (T.filter p) = true := by
  rw [tOk_iff] at *
  exact ⟨List.Pairwise.filter p h.1, fun x hx => h.2 x (List.mem_filter.1 hx).1⟩
/-- tables without a common key join -/
theorem joinD_ok {a b : List KC} (ha : tOk a = true) (hb : tOk b = true) (hd : ∀ x ∈ b, ∀ y ∈ a, ¬ cmpR (keyS y) (keyS x) = 0) :
    (joinD a b).2 = 0 ∧ tOk (joinD a b).1 = true ∧ ∀ z, z ∈ (joinD a b).1 ↔ z ∈ a ∨ z ∈ b := by
  have h1 := tOk_iff.1 ha
  have h2 := tOk_iff.1 hb
  obtain ⟨j1, j2, j3⟩ := joinA_ok b a h1.1 h2.1 (fun x hx => (h2.2 x hx).2) hd
  have hj : joinD a b = joinA a b := by unfold joinD; rw [if_neg (by rw [hb]; decide), if_neg (by rw [ha]; decide), if_pos j1]
  rw [hj]
  refine ⟨j1, tOk_iff.2 ⟨j2, fun x hx => ?_⟩, j3⟩
  rcases (j3 x).1 hx with g | g
  · exact h1.2 x g
  · exact h2.2 x g
theorem join_filter {T : List KC} (h : tOk T = true) (pa pb pc : KC → Bool) (hd : ∀ x ∈ T, pa x = true → pb x = true → False) (hc : ∀ x ∈ T, pc x = (pa x || pb x)) : joinD (T.filter pa) (T.filter pb) = (T.filter pc, 0) := by
  have hr := tOk_rise h
  obtain ⟨j1, j2, j3⟩ := joinD_ok (tOk_filter h pa) (tOk_filter h pb) (fun x hx y hy he => by
    have h1 := List.mem_filter.1 hx
    have h2 := List.mem_filter.1 hy
    have := rise_uni hr h2.1 h1.1 he
    subst this
    exact hd _ h1.1 h2.2 h1.2)
  have : (joinD (T.filter pa) (T.filter pb)).1 = T.filter pc := rise_ext (tOk_rise j2) (List.Pairwise.filter pc hr) (fun z => by
    rw [j3 z, List.mem_filter, List.mem_filter, List.mem_filter]
    constructor
    · rintro (⟨g1, g2⟩ | ⟨g1, g2⟩)
      · exact ⟨g1, by rw [hc z g1, g2]; rfl⟩
      · exact ⟨g1, by rw [hc z g1, g2, Bool.or_true]⟩
    · rintro ⟨g1, g2⟩
      rw [hc z g1, Bool.or_eq_true] at g2
      rcases g2 with g2 | g2
      · exact .inl ⟨g1, g2⟩
      · exact .inr ⟨g1, g2⟩)
  rw [← this, ← j1]
theorem own_bd {g w : Int} (h0 : 0 ≤ g) (h8 : g < 8) (h1 : 1 ≤ w) (h3 : w ≤ 3) : 0 ≤ ownS g w ∧ ownS g w < w := by
  unfold ownS
  have h : w = 1 ∨ w = 2 ∨ w = 3 := by omega
  rcases h with rfl | rfl | rfl
  all_goals
    rw [wrap_i64 (by omega) (by omega), Int.tdiv_eq_ediv_of_nonneg (by omega)]
    omega
theorem kno_of' {x : KC} (h : recOk (keyS x) = true) : 0 ≤ x.k ∧ x.k < 32 := by
  have h : recOk ⟨x.s, x.k, 0⟩ = true := h
  simp only [recOk, Bool.and_eq_true, decide_eq_true_eq] at h
  omega
def ownK (x : KC) (w : Int) : Int := ownS (x.k.tmod 8) w
theorem ownK_bd {x : KC} (h : recOk (keyS x) = true) {w : Int} (h1 : 1 ≤ w) (h3 : w ≤ 3) : 0 ≤ ownK x w ∧ ownK x w < w := by
  have hk := kno_of' h
  unfold ownK
  rw [Int.tmod_eq_emod_of_nonneg hk.1]
  exact own_bd (by omega) (by omega) h1 h3
theorem mine_own {x : KC} (h : recOk (keyS x) = true) {i w : Int} (h1 : 1 ≤ w) (h3 : w ≤ 3) (h0 : 0 ≤ i) (hi : i < w) : mineS (keyS x) i w = decide (ownK x w = i) := by
  have hs : shareS i w = true := by simp [shareS, widthS]; omega
  unfold mineS
  rw [h, hs]; rfl
def uptoS (T : List KC) (w : Int) (i : Nat) : List KC := T.filter fun x => decide (ownK x w < i)
theorem upto_zero {T : List KC} (h : tOk T = true) {w : Int} (h1 : 1 ≤ w) (h3 : w ≤ 3) : uptoS T w 0 = [] := by
  unfold uptoS
  rw [List.filter_eq_nil_iff]
  intro x hx
  have := (ownK_bd ((tOk_iff.1 h).2 x hx).1 h1 h3).1
  simp; omega
theorem upto_all {T : List KC} (h : tOk T = true) {w : Nat} (h1 : 1 ≤ w) (h3 : w ≤ 3) : uptoS T w w = T := by
  unfold uptoS
  rw [List.filter_eq_self]
  intro x hx
  have := (ownK_bd ((tOk_iff.1 h).2 x hx).1 (w := w) (by omega) (by omega)).2
  simp; omega
theorem part_eq {T : List KC} (h : tOk T = true) {w i : Nat} (h3 : w ≤ 3) (hi : i < w) : partS T i w = (T.filter fun x => decide (ownK x w = i), 0) := by
  unfold partS
  rw [if_neg (by rw [h]; decide), if_pos (by simp [shareS, widthS]; omega)]
  congr 1
  exact List.filter_congr fun x hx => mine_own ((tOk_iff.1 h).2 x hx).1 (by omega) (by omega) (by omega) (by omega)
theorem whole_step {T : List KC} (h : tOk T = true) {w i : Nat} (h3 : w ≤ 3) (hi : i < w) :
    joinD (uptoS T w i) (partS T i w).1 = (uptoS T w (i + 1), 0) ∧ joinD (partS T i w).1 (uptoS T w i) = (uptoS T w (i + 1), 0) := by
  rw [part_eq h h3 hi]
  constructor
  · refine join_filter h _ _ _ (fun x _ a b => ?_) (fun x hx => ?_)
    · simp at a b; omega
    · rw [Bool.eq_iff_iff]; simp; omega
  · refine join_filter h _ _ _ (fun x _ a b => ?_) (fun x hx => ?_)
    · simp at a b; omega
    · rw [Bool.eq_iff_iff]; simp; omega
theorem part_mine {T : List KC} (h : tOk T = true) {w i : Nat} (h3 : w ≤ 3) (hi : i < w) {x : KC} (hx : x ∈ (partS T i w).1) : mineS (keyS x) i w = true := by
  rw [part_eq h h3 hi] at hx
  obtain ⟨h1, h2⟩ := List.mem_filter.1 hx
  rw [mine_own ((tOk_iff.1 h).2 x h1).1 (by omega) (by omega) (by omega) (by omega)]
  exact h2
theorem part_len (T : List KC) (i w : Int) : (partS T i w).1.length ≤ T.length := by
  unfold partS
  split
  · simp
  · split
    · exact List.length_filter_le _ _
    · simp
theorem upto_len (T : List KC) (w : Int) (i : Nat) : (uptoS T w i).length ≤ T.length := List.length_filter_le _ _
end Go.Proofs.Ytmkncbddjnaklaa
