/- The plain law: nothing else is changed. -/
import Derived.Test.YtiepahhneagjhaaS
import Derived.Test.YtiepahhneagjhaaL
namespace Go.Proofs.Ytiepahhneagjhaa
open Nat renaming reduceEqDiff → nA, reduceLT → nB, reduceLeDiff → nC, reduceAdd → nD, reduceMul → nE, reduceSub → nF, reduceBEq → nG
open Int renaming reduceToNat → iA, reduceLT → iB, reduceLE → iC, reduceEq → iD
open Bool renaming and_eq_true → bA, or_eq_true → bB, or_eq_false_iff → bC, and_eq_false_iff → bD, not_eq_true' → bE, not_eq_false' → bF, not_true → bG, not_false → bH
set_option linter.all false
set_option maxHeartbeats 4000000
attribute [local irreducible] AW Does ACall tE tS tB tZ

def injN (l : List Pk) : Prop := ∀ x ∈ l, ∀ y ∈ l, x.num = y.num → x = y
theorem injN_of {s : Int} {l : List Pk} (h : goP s 0 l = true) : injN l := fun x hx y hy e => by
  obtain ⟨i, hi⟩ := List.getElem?_of_mem hx
  obtain ⟨j, hj⟩ := List.getElem?_of_mem hy
  have hr := (goP_rise h).2
  rcases Nat.lt_trichotomy i j with c | c | c
  · have := hr i j x y c hi hj; omega
  · subst c; rw [hi] at hj; cases hj; rfl
  · have := hr j i y x c hj hi; omega
def kcut (o : Op28) : Bool := decide ((kind28 o : Int) = 6)
def gone28 (o : Op28) (n : Nt) (p : Pk) : Bool :=
  (kcut o && (decide (p.fr = o.fr) || decide (p.to = o.fr))) || (!kcut o && decide (2 < (kind28 o : Int)) && decide (p.num = numO o n) && !(decide ((kind28 o : Int) < 5) && o.st))
theorem erase_mem {α : Type} {l : List α} {i : Nat} {q : α} (h : q ∈ l.take i ++ l.drop (i + 1)) : ∃ j, l[j]? = some q ∧ j ≠ i := by
  rcases List.mem_append.1 h with h | h
  · obtain ⟨j, hj⟩ := List.getElem?_of_mem h
    rw [List.getElem?_take] at hj
    split at hj
    · exact ⟨j, hj, by omega⟩
    · cases hj
  · obtain ⟨j, hj⟩ := List.getElem?_of_mem h
    rw [List.getElem?_drop] at hj
    exact ⟨i + 1 + j, hj, by omega⟩
theorem mem_erase {α : Type} {l : List α} {i j : Nat} {q : α} (h : l[j]? = some q) (hj : j ≠ i) : q ∈ l.take i ++ l.drop (i + 1) := by
  rw [List.mem_append]
  rcases Nat.lt_or_ge j i with c | c
  · exact .inl (List.mem_of_getElem? (i := j) (by rw [List.getElem?_take, if_pos c]; exact h))
  · exact .inr (List.mem_of_getElem? (i := j - (i + 1)) (by rw [List.getElem?_drop, show i + 1 + (j - (i + 1)) = j by omega]; exact h))
theorem erase_law {s : Int} {l : List Pk} {i : Nat} {p0 : Pk} (hg : goP s 0 l = true) (h0 : l[i]? = some p0) {p : Pk} (hp : p ∈ l) :
    (p.num = p0.num ∧ ∀ q ∈ l.take i ++ l.drop (i + 1), q.num ≠ p.num) ∨ (¬ p.num = p0.num ∧ p ∈ l.take i ++ l.drop (i + 1) ∧ injN (l.take i ++ l.drop (i + 1))) := by
  have hin : ∀ q ∈ l.take i ++ l.drop (i + 1), q ∈ l := fun q hq => by obtain ⟨j, hj, _⟩ := erase_mem hq; exact List.mem_of_getElem? hj
  have hinj := injN_of hg
  obtain ⟨j, hj⟩ := List.getElem?_of_mem hp
  by_cases e : p.num = p0.num
  · refine .inl ⟨e, fun q hq he => ?_⟩
    obtain ⟨j', hj', hne⟩ := erase_mem hq
    have hr := (goP_rise hg).2
    rcases Nat.lt_or_gt_of_ne hne with c | c
    · have := hr _ _ _ _ c hj' h0; omega
    · have := hr _ _ _ _ c h0 hj'; omega
  · have hne : j ≠ i := by rintro rfl; rw [h0] at hj; cases hj; exact e rfl
    exact .inr ⟨e, mem_erase hj hne, fun x hx y hy h => hinj x (hin x hx) y (hin y hy) h⟩
theorem others {o : Op28} {n : Nt} (hok : nOk n = true) (he : (run28 o n).e = 0) {p : Pk} (hp : p ∈ n.ps) :
    (gone28 o n p = true ∧ ∀ q ∈ (run28 o n).n.ps, q.num ≠ p.num) ∨ (gone28 o n p = false ∧ p ∈ (run28 o n).n.ps ∧ injN (run28 o n).n.ps) := by
  have hg := nOk_go hok
  have hinj := injN_of hg
  by_cases k3 : kind28 o < 3
  · have hr : run28 o n = ⟨sendS n o.fr o.to (o.bs.take 30001), (sendS n o.fr o.to (o.bs.take 30001)).sent, zPk, 0, sendE n o.fr o.to (o.bs.take 30001)⟩ := by unfold run28; rw [if_pos k3]
    rw [hr] at he ⊢
    simp only at he ⊢
    have hS : (sendS n o.fr o.to (o.bs.take 30001)).ps = n.ps ++ [⟨n.sent + 1, o.fr, o.to, o.bs.take 30001⟩] := by unfold sendS; rw [if_pos he]; rfl
    rw [hS]
    have hgo : gone28 o n p = false := by
      have c6 : ¬ (kind28 o : Int) = 6 := by omega
      have c2 : ¬ (2 : Int) < (kind28 o : Int) := by omega
      simp [gone28, kcut, c6, c2]
    refine .inr ⟨hgo, by simp [hp], fun x hx y hy h => ?_⟩
    have hb := fun q hq => (goP_rise hg).1 q hq
    rcases List.mem_append.1 hx with hx | hx <;> rcases List.mem_append.1 hy with hy | hy
    · exact hinj x hx y hy h
    · simp only [List.mem_singleton] at hy; subst hy; have := hb x hx; simp only at h; omega
    · simp only [List.mem_singleton] at hx; subst hx; have := hb y hy; simp only at h; omega
    · simp only [List.mem_singleton] at hx hy; rw [hx, hy]
  by_cases k5 : kind28 o < 5
  · have hr : run28 o n = ⟨comeS n (numO o n) o.st, 0, comeP n (numO o n), 0, comeE n (numO o n)⟩ := by unfold run28; rw [if_neg k3, if_pos k5]
    rw [hr] at he ⊢
    simp only at he ⊢
    have c6 : ¬ (kind28 o : Int) = 6 := by omega
    have c2 : (2 : Int) < (kind28 o : Int) := by omega
    have c5 : (kind28 o : Int) < 5 := by omega
    have hS : comeS n (numO o n) o.st = comeA n (numO o n) o.st := by unfold comeS; rw [if_pos he]
    have hgo : gone28 o n p = (decide (p.num = numO o n) && !o.st) := by simp [gone28, kcut, c6, c2, c5]
    rw [hS, hgo]
    cases hst : o.st
    · have hf : fnd (numO o n) n.ps = true := by
        unfold comeE comeF at he; rw [if_pos hok] at he
        cases hf : fnd (numO o n) n.ps
        · rw [hf] at he; simp at he
        · rfl
      obtain ⟨p0, h0, hn0⟩ := fnd_get hf
      have := erase_law hg h0 hp
      rw [hn0] at this
      simp only [comeA, Bool.false_eq_true, if_false, Bool.not_false, Bool.and_true, decide_eq_true_eq, decide_eq_false_iff_not]
      exact this
    · simp only [comeA, if_true, Bool.not_true, Bool.and_false]
      exact .inr ⟨trivial, hp, hinj⟩
  by_cases k6 : kind28 o = 5
  · have hr : run28 o n = ⟨comeS n (numO o n) false, 0, zPk, 0, comeE n (numO o n)⟩ := by unfold run28; rw [if_neg k3, if_neg k5, if_pos k6]
    rw [hr] at he ⊢
    simp only at he ⊢
    have hS : comeS n (numO o n) false = comeA n (numO o n) false := by unfold comeS; rw [if_pos he]
    have hgo : gone28 o n p = decide (p.num = numO o n) := by simp [gone28, kcut, k6]
    rw [hS, hgo]
    have hf : fnd (numO o n) n.ps = true := by
      unfold comeE comeF at he; rw [if_pos hok] at he
      cases hf : fnd (numO o n) n.ps
      · rw [hf] at he; simp at he
      · rfl
    obtain ⟨p0, h0, hn0⟩ := fnd_get hf
    have := erase_law hg h0 hp
    rw [hn0] at this
    simp only [comeA, Bool.false_eq_true, if_false, decide_eq_true_eq, decide_eq_false_iff_not]
    exact this
  · have hr : run28 o n = ⟨cutS n o.fr, 0, zPk, cutC n o.fr, cutE n o.fr⟩ := by unfold run28; rw [if_neg k3, if_neg k5, if_neg k6]
    rw [hr] at he ⊢
    simp only at he ⊢
    have hk7 : kind28 o < 7 := by unfold kind28; omega
    have c6 : (kind28 o : Int) = 6 := by omega
    have hS : (cutS n o.fr).ps = n.ps.filter (keepP o.fr) := by unfold cutS; rw [if_pos he]; rfl
    have hgo : gone28 o n p = !keepP o.fr p := by simp [gone28, kcut, c6, keepP]
    rw [hS, hgo]
    cases hk : keepP o.fr p
    · refine .inl ⟨rfl, fun q hq e => ?_⟩
      obtain ⟨h1, h2⟩ := List.mem_filter.1 hq
      have := hinj q h1 p hp e
      subst this; rw [hk] at h2; cases h2
    · exact .inr ⟨rfl, List.mem_filter.2 ⟨hp, hk⟩, fun x hx y hy h => hinj x (List.mem_filter.1 hx).1 y (List.mem_filter.1 hy).1 h⟩
theorem run28_bad {o : Op28} {n : Nt} (he : ¬ (run28 o n).e = 0) : (run28 o n).n = zNt := by
  unfold run28 at he ⊢
  by_cases k3 : kind28 o < 3
  · rw [if_pos k3] at he ⊢; simp only at he ⊢; unfold sendS; rw [if_neg he]
  by_cases k5 : kind28 o < 5
  · rw [if_neg k3, if_pos k5] at he ⊢; simp only at he ⊢; unfold comeS; rw [if_neg he]
  by_cases k6 : kind28 o = 5
  · rw [if_neg k3, if_neg k5, if_pos k6] at he ⊢; simp only at he ⊢; unfold comeS; rw [if_neg he]
  · rw [if_neg k3, if_neg k5, if_neg k6] at he ⊢; simp only at he ⊢; unfold cutS; rw [if_neg he]
theorem run28_len (o : Op28) (n : Nt) : (run28 o n).n.ps.length ≤ n.ps.length + 1 := by
  have hz : zNt.ps.length ≤ n.ps.length + 1 := by simp [zNt]
  unfold run28
  have hc : ∀ num st, (comeS n num st).ps.length ≤ n.ps.length + 1 := fun num st => by
    unfold comeS; split
    · unfold comeA; split
      · omega
      · simp; omega
    · exact hz
  split
  · simp only [sendS]; split
    · simp [sendA]
    · exact hz
  · split
    · exact hc _ _
    · split
      · exact hc _ _
      · simp only [cutS]; split
        · have := List.length_filter_le (keepP o.fr) n.ps; simp only [cutA]; omega
        · exact hz
theorem idx_gone {l : List Pk} {num : Int} (h : ∀ q ∈ l, q.num ≠ num) : idxS (fun q : Pk => decide (q.num = num)) l = -1 := by
  rcases idxS_cases (fun q : Pk => decide (q.num = num)) l with ⟨e, -⟩ | ⟨i, x, -, hx, hd, -⟩
  · exact e
  · exact absurd (by simpa using hd) (h x (List.mem_of_getElem? hx))
theorem idx_there {l : List Pk} {p : Pk} (hp : p ∈ l) (hi : injN l) : ∃ i : Nat, idxS (fun q : Pk => decide (q.num = p.num)) l = (i : Int) ∧ l[i]? = some p := by
  rcases idxS_cases (fun q : Pk => decide (q.num = p.num)) l with ⟨-, h⟩ | ⟨i, x, e, hx, hd, -⟩
  · have := h p hp; simp at this
  · have := hi x (List.mem_of_getElem? hx) p hp (by simpa using hd)
    subst this; exact ⟨i, e, hx⟩
end Go.Proofs.Ytiepahhneagjhaa
