/- Plain law: each key goes as its own records alone. -/
import Derived.Test.YtmkncbddjnaklaaUL
import Derived.Test.YtmkncbddjnaklaaTR
namespace Go.Proofs.Ytmkncbddjnaklaa
open Go.RowKit
open Nat renaming reduceEqDiff → nA, reduceLT → nB, reduceLeDiff → nC, reduceAdd → nD, reduceMul → nE, reduceSub → nF, reduceBEq → nG
open Int renaming reduceToNat → iA, reduceLT → iB, reduceLE → iC, reduceEq → iD
open Bool renaming and_eq_true → bA, or_eq_true → bB, or_eq_false_iff → bC, and_eq_false_iff → bD, not_eq_true' → bE, not_eq_false' → bF, not_true → bG, not_false → bH
set_option linter.all false
set_option maxHeartbeats 4000000
attribute [local irreducible] AW Does ACall tE tS tB tZ

theorem getS_set {T : List KC} (h : Rise T) (r : Rec) (c : CellD) (q : Rec) : getS (setS T r c) q = if cmpR r q = 0 then c else getS T q := by
  have hr := setS_rise h r c
  by_cases hq : cmpR r q = 0
  · rw [if_pos hq]
    rw [cmpR_zero] at hq
    by_cases hc : c = zeroC
    · subst hc
      refine getS_no fun x hx => ?_
      have := ((set_mem0 h r x).1 hx).2
      rw [cmpR_zero] at this ⊢; omega
    · have hm := (set_mem h r hc (newC r c)).2 (.inr rfl)
      exact getS_mem hr hm (by rw [key_new]; exact hq)
  · rw [if_neg hq]
    by_cases hh : ∃ x ∈ T, cmpR (keyS x) q = 0
    · obtain ⟨x, hx, he⟩ := hh
      rw [getS_mem h hx he]
      have hxr : ¬ cmpR (keyS x) r = 0 := by rw [cmpR_zero] at *; omega
      refine getS_mem hr ?_ he
      by_cases hc : c = zeroC
      · subst hc; exact (set_mem0 h r x).2 ⟨hx, hxr⟩
      · exact (set_mem h r hc x).2 (.inl ⟨hx, hxr⟩)
    · rw [getS_no (T := T) fun x hx he => hh ⟨x, hx, he⟩]
      refine getS_no fun x hx he => ?_
      by_cases hc : c = zeroC
      · subst hc; exact hh ⟨x, ((set_mem0 h r x).1 hx).1, he⟩
      · rcases (set_mem h r hc x).1 hx with g | g
        · exact hh ⟨x, g.1, he⟩
        · subst g; rw [key_new] at he; rw [cmpR_zero] at hq; omega
theorem getS_key {T : List KC} {r q : Rec} (h : cmpR r q = 0) : getS T r = getS T q := by
  rw [cmpR_zero] at h
  unfold getS
  have : (fun x : KC => decide (cmpR (keyS x) r = 0)) = fun x => decide (cmpR (keyS x) q = 0) := by
    funext x
    rw [decide_eq_decide, cmpR_zero, cmpR_zero, h.1, h.2]
  rw [this]
def selV (q : Rec) (l : List Rec) : List Int := (l.filter fun r => decide (cmpR r q = 0)).map Rec.v
theorem selV_app (q : Rec) (a b : List Rec) : selV q (a ++ b) = selV q a ++ selV q b := by simp [selV]
theorem selV_len (q : Rec) (l : List Rec) : (selV q l).length ≤ l.length := by
  unfold selV; rw [List.length_map]; exact List.length_filter_le _ _
theorem selV_rec (q r : Rec) (vs : List Int) : selV q (vs.map (recV r)) = if cmpR r q = 0 then vs else [] := by
  have hk : ∀ v, cmpR (recV r v) q = 0 ↔ cmpR r q = 0 := fun v => by rw [cmpR_zero, cmpR_zero]; rfl
  induction vs with
  | nil => simp [selV]
  | cons v vs ih =>
    by_cases hq : cmpR r q = 0
    · rw [if_pos hq] at ih ⊢
      simp only [selV, List.map_cons, List.filter_cons, hk, hq, decide_true, if_true] at ih ⊢
      rw [ih]; rfl
    · rw [if_neg hq] at ih ⊢
      simp only [selV, List.map_cons, List.filter_cons, hk, hq, decide_false, Bool.false_eq_true, if_false] at ih ⊢
      exact ih
theorem runS_ok0 {o : OpD} {c : CellD} {vs : List Int} (h : (runS o c vs).2.2 = 0) : aloneS o = true ∧ fitsS o c = true ∧ (flowS o c vs).2.2 = 0 ∧ runS o c vs = flowS o c vs := by
  have hrun : runS o c vs = if aloneS o = false then (zeroC, [], 180) else if fitsS o c = false then (zeroC, [], 181) else if (flowS o c vs).2.2 ≠ 0 then (zeroC, [], (flowS o c vs).2.2) else ((flowS o c vs).1, (flowS o c vs).2.1, 0) := rfl
  cases ha : aloneS o
  · rw [hrun, ha] at h; simp at h
  cases hf : fitsS o c
  · rw [hrun, ha, hf] at h; simp at h
  by_cases he : (flowS o c vs).2.2 = 0
  · refine ⟨rfl, rfl, he, ?_⟩
    rw [hrun, ha, hf]
    generalize flowS o c vs = F at *
    obtain ⟨a, b, d⟩ := F
    simp only at he
    simp [he]
  · rw [hrun, ha, hf] at h
    simp [he] at h
theorem runA_key (o : OpD) (q : Rec) : ∀ (l : List Rec) (T : List KC) (O : List Rec), Rise T → (runA o T O l).2.2 = 0 →
    ∃ W, flowS o (getS T q) (selV q l) = (getS (runA o T O l).1 q, W, 0) ∧ selV q (runA o T O l).2.1 = selV q O ++ W
  | [], T, O, _, _ => ⟨[], by simp [runA, selV, flowS], by simp [runA]⟩
  | r :: l, T, O, h, he => by
    simp only [runA] at he ⊢
    by_cases h1 : recOk r = false
    · rw [if_pos h1] at he; simp at he
    rw [if_neg h1] at he ⊢
    by_cases h2 : (runS o (getS T r) [r.v]).2.2 = 0
    · rw [if_neg (by simp [h2])] at he ⊢
      obtain ⟨ha, hf, hfl, hrf⟩ := runS_ok0 h2
      rw [hrf] at he ⊢
      obtain ⟨W, i1, i2⟩ := runA_key o q l _ _ (setS_rise h r _) he
      rw [getS_set h] at i1
      rw [selV_app, selV_rec] at i2
      by_cases hq : cmpR r q = 0
      · rw [if_pos hq] at i1 i2
        refine ⟨(flowS o (getS T r) [r.v]).2.1 ++ W, ?_, by rw [i2, List.append_assoc]⟩
        have hs : selV q (r :: l) = [r.v] ++ selV q l := by simp [selV, List.filter_cons, hq]
        rw [hs, ← getS_key hq, flowS_app o _ _ _ hfl, i1]
      · rw [if_neg hq] at i1 i2
        refine ⟨W, ?_, by rw [i2, List.append_nil]⟩
        have hs : selV q (r :: l) = selV q l := by simp [selV, List.filter_cons, hq]
        rw [hs]; exact i1
    · rw [if_pos h2] at he; exact absurd he h2
/-- the law -/
theorem keys_law (o : OpD) (q : Rec) (l : List Rec) (he : (RunD o [] l).2.2 = 0) :
    l.length ≤ 40 ∧ ((l = [] ∧ RunD o [] l = ([], [], 0)) ∨ RunS o zeroC (selV q l) = (getS (RunD o [] l).1 q, selV q (RunD o [] l).2.1, 0)) := by
  have ht : tOk ([] : List KC) = true := rfl
  unfold RunD RunT at he ⊢
  rw [ht] at he ⊢
  simp only [Bool.true_eq_false, if_false] at he ⊢
  by_cases hc : 40 < l.length
  · simp [hc] at he
  simp only [if_neg hc] at he ⊢
  by_cases h0 : (runA o [] [] l).2.2 = 0
  · rw [if_neg (by simp [h0])] at he ⊢
    refine ⟨by omega, ?_⟩
    cases l with
    | nil => exact .inl ⟨rfl, rfl⟩
    | cons r l =>
      right
      obtain ⟨W, h1, h2⟩ := runA_key o q (r :: l) [] [] List.Pairwise.nil h0
      have hf : aloneS o = true ∧ fitsS o zeroC = true := by
        simp only [runA] at h0
        by_cases g1 : recOk r = false
        · rw [if_pos g1] at h0; simp at h0
        rw [if_neg g1] at h0
        by_cases g2 : (runS o (getS [] r) [r.v]).2.2 = 0
        · obtain ⟨a, b, -⟩ := runS_ok0 g2
          exact ⟨a, b⟩
        · rw [if_pos g2] at h0; exact absurd h0 g2
      have hz : getS [] q = zeroC := rfl
      rw [hz] at h1
      rw [h2]
      have hl := selV_len q (r :: l)
      unfold RunS
      rw [if_neg (by omega)]
      have hrun : runS o zeroC (selV q (r :: l)) = if aloneS o = false then (zeroC, [], 180) else if fitsS o zeroC = false then (zeroC, [], 181) else if (flowS o zeroC (selV q (r :: l))).2.2 ≠ 0 then (zeroC, [], (flowS o zeroC (selV q (r :: l))).2.2) else ((flowS o zeroC (selV q (r :: l))).1, (flowS o zeroC (selV q (r :: l))).2.1, 0) := rfl
      rw [hrun, hf.1, hf.2, h1]
      simp [selV]
  · rw [if_pos h0] at he; exact absurd he h0
theorem RunD_err {o : OpD} {T : List KC} {l : List Rec} (h : ¬ (RunD o T l).2.2 = 0) : (RunD o T l).1 = [] ∧ (RunD o T l).2.1 = [] := by
  unfold RunD at *
  split
  · exact ⟨rfl, rfl⟩
  · split
    · exact ⟨rfl, rfl⟩
    · rename_i h1 h2
      rw [if_neg h1, if_neg h2] at h
      exact absurd (by simpa using h2) h
theorem RunS_nil {o : OpD} (h : (RunS o zeroC []).2.2 = 0) : RunS o zeroC [] = (zeroC, [], 0) := by
  unfold RunS at *
  rw [if_neg (by simp)] at *
  obtain ⟨-, -, h1, h2⟩ := runS_ok0 h
  rw [h2]; rfl
/-- as the statement asks -/
theorem keys_law2 (o : OpD) (q : Rec) (l : List Rec) (he : (RunD o [] l).2.2 = 0) :
    l.length ≤ 40 ∧ (¬ (RunS o zeroC (selV q l)).2.2 = 0 → l = []) ∧ ((RunS o zeroC (selV q l)).2.2 = 0 → (RunS o zeroC (selV q l)).1 = getS (RunD o [] l).1 q ∧ (RunS o zeroC (selV q l)).2.1 = selV q (RunD o [] l).2.1) := by
  obtain ⟨h1, ⟨rfl, h2⟩ | h2⟩ := keys_law o q l he
  · refine ⟨h1, fun _ => rfl, fun h => ?_⟩
    have h : (RunS o zeroC []).2.2 = 0 := h
    show (RunS o zeroC []).1 = _ ∧ (RunS o zeroC []).2.1 = _
    rw [RunS_nil h, h2]
    exact ⟨rfl, rfl⟩
  · rw [h2]
    exact ⟨h1, fun h => absurd rfl h, fun _ => ⟨rfl, rfl⟩⟩
theorem RunD_len40 (o : OpD) (l : List Rec) : (RunD o [] l).1.length ≤ 40 ∧ (RunD o [] l).2.1.length ≤ 40 := by
  have hl : ∀ (l : List Rec) (T : List KC) (O : List Rec), (runA o T O l).1.length ≤ T.length + l.length ∧ (runA o T O l).2.1.length ≤ O.length + l.length := by
    intro l
    induction l with
    | nil => intro T O; simp [runA]
    | cons r l ih =>
      intro T O
      have h1 := setS_len T r (runS o (getS T r) [r.v]).1
      have h2 := runS1_len o (getS T r) r.v
      simp only [runA]
      split
      · constructor <;> simp
      · split
        · constructor <;> simp
        · have ih := ih (setS T r (runS o (getS T r) [r.v]).1) (O ++ (runS o (getS T r) [r.v]).2.1.map (recV r))
          simp only [List.length_append, List.length_map] at ih
          simp only [List.length_cons]
          omega
  unfold RunD RunT
  have h := hl l [] []
  split
  · simp
  · by_cases hc : 40 < l.length
    · simp [hc]
    · simp only [if_neg hc]
      split
      · simp
      · simp only [List.length_nil] at h; omega
end Go.Proofs.Ytmkncbddjnaklaa
