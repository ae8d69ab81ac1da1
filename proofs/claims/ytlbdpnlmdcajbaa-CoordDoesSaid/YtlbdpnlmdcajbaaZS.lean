/- What stays true of a table when an op is run: op by op. -/
import Derived.Test.YtlbdpnlmdcajbaaZR
namespace Go.Proofs.Ytlbdpnlmdcajbaa
open Go.RowKit
open Nat renaming reduceEqDiff → nA, reduceLT → nB, reduceLeDiff → nC, reduceAdd → nD, reduceMul → nE, reduceSub → nF, reduceBEq → nG
open Int renaming reduceToNat → iA, reduceLT → iB, reduceLE → iC, reduceEq → iD
open Bool renaming and_eq_true → bA, or_eq_true → bB, or_eq_false_iff → bC, and_eq_false_iff → bD, not_eq_true' → bE, not_eq_false' → bF, not_true → bG, not_false → bH
set_option linter.all false
set_option maxHeartbeats 4000000
attribute [local irreducible] AW Does ACall tE tS tB tZ
set_option maxRecDepth 5000

abbrev nums (c : Cd) : List Int := c.pend.map Pd.num
structure Stp (c t : Cd) (new gone : List Int) : Prop where
  ok : cdOk t = true
  fits : t.fits
  perm : (nums c ++ new).Perm (gone ++ nums t)
theorem fits_of {c : Cd} (h : cdOk c = true) (h0 : 0 ≤ c.counter) (hn : ∀ p ∈ c.pend, 0 ≤ p.num ∧ p.num ≤ 18446744073709551615) : c.fits := by
  have hb := (cdOk_bd h).2
  have hh := ((headOk_iff c).1 ((cdOk_iff c).1 h).1).2.1
  exact ⟨⟨h0, by omega⟩, fun p hp => ⟨hn p hp, by have := (hb p hp).1; unfold maxLen; omega⟩⟩
theorem split_perm {α : Type} (p : α → Bool) : ∀ l : List α, l.Perm (l.filter p ++ l.filter fun x => !p x)
  | [] => List.Perm.refl _
  | x :: l => by
    have ih := split_perm p l
    cases h : p x
    · rw [List.filter_cons_of_neg (by simp [h]), List.filter_cons_of_pos (by simp [h])]
      exact (ih.cons x).trans List.perm_middle.symm
    · rw [List.filter_cons_of_pos (by simp [h]), List.filter_cons_of_neg (by simp [h])]
      exact ih.cons x
theorem erase_perm {α : Type} {x : α} : ∀ {l : List α} {i : Nat}, l[i]? = some x → l.Perm (x :: l.eraseIdx i)
  | [], i, h => by simp at h
  | y :: l, 0, h => by simp only [List.getElem?_cons_zero, Option.some.injEq] at h; subst h; exact List.Perm.refl _
  | y :: l, i + 1, h => by
    simp only [List.getElem?_cons_succ] at h
    rw [List.eraseIdx_cons_succ]
    exact ((erase_perm h).cons y).trans (List.Perm.swap x y _)
theorem fndS_num {l : List Pd} {n : Int} {i : Nat} {p : Pd} (h : fndS l n = (i : Int)) (hp : l[i]? = some p) : p.num = n := by
  unfold fndS at h
  rcases idxS_cases (fun p : Pd => decide (p.num = n)) l with ⟨h1, -⟩ | ⟨j, x, h1, h2, h3, -⟩
  · omega
  · have : j = i := by omega
    subst this
    rw [h2] at hp
    cases hp
    simpa using h3
section
variable {c : Cd} (h : cdOk c = true) (hf : c.fits)
include h
theorem num_le (hf : c.fits) {p : Pd} (hp : p ∈ c.pend) : p.num ≤ numS c.epoch c.counter := by
  obtain ⟨h1, h2⟩ := (cdOk_iff c).1 h
  have h3 := (headOk_iff c).1 h1
  obtain ⟨g1, g2, -, -⟩ := pdGo_mem h2 p hp
  obtain ⟨k1, k2⟩ := splS_num (hf.2 p hp).1.1 h3.1.1 g1
  have hk : numOkS c.epoch c.counter = true := by unfold numOkS; simp only [Bool.and_eq_true, decide_eq_true_eq]; omega
  rw [(splS_numS hk).2]; omega
theorem sub_stp (hf : c.fits) {l' : List Pd} (s : List.Sublist l' c.pend) {new gone : List Int} (hp : (nums c ++ new).Perm (gone ++ l'.map Pd.num)) : Stp c { c with pend := l' } new gone := by
  obtain ⟨h1, h2⟩ := (cdOk_iff c).1 h
  have hok : cdOk { c with pend := l' } = true := by
    rw [cdOk_iff]
    refine ⟨?_, ?_⟩
    · rw [headOk_iff] at h1 ⊢
      have := s.length_le
      exact ⟨h1.1, h1.2.1, h1.2.2.1, h1.2.2.2.1, h1.2.2.2.2.1, by have := h1.2.2.2.2.2; show l'.length ≤ 2; omega⟩
    · have := pdGo_sub s (Int.le_refl 0) (Int.le_refl 0) h2
      exact pdGo_up (c := c) (c' := { c with pend := l' }) rfl (Int.le_refl _) rfl this
  exact ⟨hok, fits_of hok hf.1.1 (fun p hq => (hf.2 p (s.subset hq)).1), hp⟩
theorem trig_ok (hf : c.fits) {now : Int} (save : Bool) (ht : trigE c now = 0) : Stp c (trigC c now save) [numS c.epoch (c.counter + 1)] [] ∧ numS c.epoch c.counter < numS c.epoch (c.counter + 1) := by
  obtain ⟨h1, h2⟩ := (cdOk_iff c).1 h
  have h3 := (headOk_iff c).1 h1
  unfold trigE at ht
  by_cases c1 : (decide (0 ≤ now) && decide (now ≤ 1099511627776)) = false
  · rw [if_pos c1] at ht; omega
  rw [if_neg c1] at ht
  by_cases c2 : lateB c.pend now = true
  · rw [if_pos c2] at ht; omega
  rw [if_neg c2] at ht
  by_cases c3 : c.pend.length = 2 ∨ c.counter = 2147483647
  · rw [if_pos c3] at ht; omega
  clear ht
  simp only [Bool.not_eq_false, Bool.and_eq_true, decide_eq_true_eq] at c1
  have hct := hf.1.1
  have hk : numOkS c.epoch (c.counter + 1) = true := by unfold numOkS; simp only [Bool.and_eq_true, decide_eq_true_eq]; omega
  obtain ⟨e1, e2⟩ := splS_numS hk
  have hlt : numS c.epoch c.counter < numS c.epoch (c.counter + 1) := by
    by_cases z : c.counter = 0
    · have e0 : numS c.epoch c.counter = 0 := by
        unfold numS numOkS; rw [if_neg]; rw [z]; simp
      rw [e0, e2]; omega
    · have hk0 : numOkS c.epoch c.counter = true := by unfold numOkS; simp only [Bool.and_eq_true, decide_eq_true_eq]; omega
      rw [e2, (splS_numS hk0).2]; omega
  have hb : ∀ p ∈ c.pend, p.begun ≤ now := by
    unfold lateB at c2
    cases hl : c.pend.getLast? with
    | none => intro p hp; rw [List.getLast?_eq_none_iff.1 hl] at hp; cases hp
    | some q =>
      rw [hl] at c2
      simp only [decide_eq_true_eq] at c2
      intro p hp
      have := pdGo_last h2 hl p hp
      omega
  have hok : cdOk (trigC c now save) = true := by
    rw [cdOk_iff]
    refine ⟨?_, ?_⟩
    · rw [headOk_iff]
      simp only [trigC, List.length_append, List.length_singleton]
      omega
    · show pdGo (trigC c now save) 0 0 (c.pend ++ [⟨numS c.epoch (c.counter + 1), now, save, []⟩]) = true
      refine pdGo_snoc (by rw [e1]; rfl) (by rw [e1]; exact Int.le_refl _) c1.2 rfl ?_ c1.1 ?_ ?_
      · show 0 < numS c.epoch (c.counter + 1); rw [e2]; omega
      · intro p hp
        have := num_le h hf hp
        exact ⟨by show p.num < numS c.epoch (c.counter + 1); omega, hb p hp⟩
      · refine pdGo_up (c := c) (c' := trigC c now save) rfl ?_ rfl h2
        show c.counter ≤ c.counter + 1
        omega
  refine ⟨⟨hok, fits_of hok (by show 0 ≤ c.counter + 1; omega) ?_, ?_⟩, hlt⟩
  · intro p hp
    rcases List.mem_append.1 hp with hp | hp
    · exact (hf.2 p hp).1
    · simp only [List.mem_singleton] at hp
      subst hp
      have := numS_bd c.epoch (c.counter + 1)
      show 0 ≤ numS c.epoch (c.counter + 1) ∧ numS c.epoch (c.counter + 1) ≤ _
      omega
  · simp only [nums, trigC, List.map_append, List.nil_append]
    exact List.Perm.refl _
theorem ack_ok (hf : c.fits) {n at_ : Int} {a : Ak} (he : ackE c n at_ a = 0) : Stp c (ackC c n a) [] [] := by
  obtain ⟨h1, h2⟩ := (cdOk_iff c).1 h
  have h3 := (headOk_iff c).1 h1
  unfold ackE at he
  by_cases c1 : ¬ oursE c n at_ = 0
  · rw [if_pos c1] at he; exact absurd he c1
  rw [if_neg c1] at he
  by_cases c2 : (decide (0 ≤ a.task) && decide (a.task ≤ c.tasks - 1)) = false
  · rw [if_pos c2] at he; omega
  rw [if_neg c2] at he
  by_cases c3 : 3000 < a.bytes.length
  · rw [if_pos c3] at he; omega
  rw [if_neg c3] at he
  by_cases c4 : ackHas (pdAt c n).acks a.task = true
  · rw [if_pos c4] at he; omega
  clear he
  simp only [Bool.not_eq_false, Bool.and_eq_true, decide_eq_true_eq] at c2
  obtain ⟨i, hi, hp⟩ := oursE_at (Classical.not_not.1 c1)
  have hac : akGo c.tasks (-1) (pdAt c n).acks = true := pdGo_all c c.pend 0 0 h2 _ (List.mem_of_getElem? hp)
  have hput := putAk_ok (a := a) (ts := c.tasks) (by omega) (by omega) (by omega) hac (by simpa using c4)
  have e : ackC c n a = { c with pend := c.pend.set i { pdAt c n with acks := putAk (pdAt c n).acks a } } := by
    unfold ackC; rw [hi]; rfl
  have hok : cdOk (ackC c n a) = true := by
    rw [e, cdOk_iff]
    refine ⟨?_, ?_⟩
    · rw [headOk_iff]
      simp only [List.length_set]
      exact h3
    · refine pdGo_up (c := c) (c' := { c with pend := c.pend.set i { pdAt c n with acks := putAk (pdAt c n).acks a } }) rfl (Int.le_refl _) rfl ?_
      exact pdGo_set (p := pdAt c n) (p' := { pdAt c n with acks := putAk (pdAt c n).acks a }) rfl rfl hput hp h2
  have hn : nums (ackC c n a) = nums c := by
    rw [e]
    simp only [nums, List.map_set]
    apply List.ext_getElem?
    intro j
    rw [List.getElem?_set]
    by_cases hj : i = j
    · subst hj
      have hlt : i < (c.pend.map Pd.num).length := by rw [List.length_map]; exact (List.getElem?_eq_some_iff.1 hp).1
      rw [if_pos rfl, if_pos hlt, List.getElem?_map, hp]; rfl
    · rw [if_neg hj]
  refine ⟨hok, fits_of hok (by rw [e]; exact hf.1.1) ?_, by rw [hn]; simp⟩
  intro p hp'
  have : p.num ∈ nums (ackC c n a) := List.mem_map_of_mem hp'
  rw [hn] at this
  obtain ⟨q, hq, e⟩ := List.mem_map.1 this
  rw [← e]
  exact (hf.2 q hq).1
theorem dec_ok (hf : c.fits) {n at_ : Int} (he : oursE c n at_ = 0) : Stp c (decC c n) [] [n] := by
  obtain ⟨i, hi, hp⟩ := oursE_at he
  have e : (fndS c.pend n).toNat = i := by omega
  refine sub_stp h hf (List.eraseIdx_sublist _ _) ?_
  rw [List.append_nil, e]
  have := (erase_perm hp).map Pd.num
  rw [List.map_cons, fndS_num hi hp] at this
  exact this
theorem tick_ok (hf : c.fits) (now : Int) : Stp c { c with pend := c.pend.filter fun p => !lateP c now p } [] ((c.pend.filter (lateP c now)).map Pd.num) := by
  refine sub_stp h hf List.filter_sublist ?_
  rw [List.append_nil, ← List.map_append]
  exact (split_perm (lateP c now) c.pend).map Pd.num
theorem comp_ok (hf : c.fits) {n : Int} (he : compE c n = 0) : Stp c (compC c n) [] (((rest22 c n).filter (ltP n)).map Pd.num ++ [n]) := by
  have h0 : ¬ fndS c.pend n < 0 := fun hl => by unfold compE at he; rw [if_pos hl] at he; omega
  obtain ⟨i, hi, hp⟩ := fndS_at h0
  have e : (fndS c.pend n).toNat = i := by omega
  refine sub_stp h hf (List.filter_sublist.trans (List.eraseIdx_sublist _ _)) ?_
  rw [List.append_nil]
  have := (erase_perm hp).map Pd.num
  rw [List.map_cons, fndS_num hi hp] at this
  refine this.trans ?_
  have h2 := (split_perm (ltP n) (rest22 c n)).map Pd.num
  rw [List.map_append] at h2
  have e2 : c.pend.eraseIdx i = rest22 c n := by unfold rest22; rw [e]
  rw [e2]
  refine (h2.cons n).trans ?_
  rw [List.append_assoc]
  exact List.perm_middle.symm
theorem rest_ok (hf : c.fits) {ts at_ : Int} (he : restE c ts at_ = 0) : Stp c (restC c ts at_) [] (nums c) := by
  obtain ⟨h1, h2⟩ := (cdOk_iff c).1 h
  have h3 := (headOk_iff c).1 h1
  unfold restE at he
  by_cases c1 : (decide (1 ≤ ts) && decide (ts ≤ 16)) = false
  · rw [if_pos c1] at he; omega
  rw [if_neg c1] at he
  by_cases c2 : (decide (1 ≤ at_) && decide (at_ ≤ 1048576)) = false
  · rw [if_pos c2] at he; omega
  simp only [Bool.not_eq_false, Bool.and_eq_true, decide_eq_true_eq] at c1 c2
  have hok : cdOk (restC c ts at_) = true := by
    rw [cdOk_iff, headOk_iff]
    exact ⟨⟨h3.1, h3.2.1, c1, c2, h3.2.2.2.2.1, Nat.zero_le _⟩, rfl⟩
  exact ⟨hok, fits_of hok hf.1.1 (fun p hp => by cases hp), by simp [nums, restC]⟩
end
/-- the numbers given by an op, and those that are over by it -/
def newO (o : Op22) (c : Cd) : List Int := if kdS o < 2 then [(runS o c).number] else []
def overO (o : Op22) (c : Cd) : Bool := decide (kdS o = 5) || decide (kdS o = 7) || decide (kdS o = 8)
def goneO (o : Op22) (c : Cd) : List Int := (runS o c).gone ++ if overO o c = true then [numO o c] else []
theorem run_ok {c : Cd} (h : cdOk c = true) (hf : c.fits) (o : Op22) (he : (runS o c).e = 0) : Stp c (runS o c).c (newO o c) (goneO o c) ∧
    (kdS o < 2 → numS c.epoch c.counter < (runS o c).number ∧ (runS o c).number = numS (runS o c).c.epoch (runS o c).c.counter ∧ (runS o c).gone = [] ∧ overO o c = false) ∧ (¬ kdS o < 2 → numS c.epoch c.counter = numS (runS o c).c.epoch (runS o c).c.counter) := by
  have hnf : ¬ cdOk c = false := by rw [h]; decide
  unfold newO goneO overO
  unfold runS at he ⊢
  by_cases h2 : kdS o < 2
  · simp only [if_pos h2] at he ⊢
    unfold trigR at he ⊢
    rw [if_neg hnf] at he ⊢
    by_cases ht : trigE c o.now = 0
    · simp only [if_pos ht] at he ⊢
      obtain ⟨s1, s2⟩ := trig_ok h hf o.save ht
      have hb : (decide (kdS o = 5) || decide (kdS o = 7) || decide (kdS o = 8)) = false := by simp; omega
      rw [hb]
      exact ⟨s1, fun _ => ⟨s2, rfl, trivial, rfl⟩, fun h => absurd h2 h⟩
    · simp only [if_neg ht] at he; exact absurd he ht
  simp only [if_neg h2] at he ⊢
  refine and_assoc.1 ⟨⟨?_, fun h => absurd h h2⟩, fun _ => ?_⟩
  all_goals
    by_cases h5 : kdS o < 5
    · simp only [if_pos h5] at he ⊢
      unfold ackR at he ⊢
      rw [if_neg hnf] at he ⊢
      by_cases ht : ackE c (numO o c) o.attempt (opAck o) = 0
      · simp only [if_pos ht] at he ⊢
        all_goals first
          | (have hb : (decide (kdS o = 5) || decide (kdS o = 7) || decide (kdS o = 8)) = false := by simp; omega
             rw [hb]
             exact ack_ok h hf ht)
          | rfl
      · simp only [if_neg ht] at he; exact absurd he ht
    simp only [if_neg h5] at he ⊢
    by_cases h6 : kdS o < 6
    · simp only [if_pos h6] at he ⊢
      unfold decR wRes at he ⊢
      rw [if_neg hnf] at he ⊢
      by_cases ht : oursE c (numO o c) o.attempt = 0
      · simp only [if_pos ht] at he ⊢
        all_goals first
          | (have hb : (decide (kdS o = 5) || decide (kdS o = 7) || decide (kdS o = 8)) = true := by simp; omega
             rw [hb]
             exact dec_ok h hf ht)
          | rfl
      · simp only [if_neg ht] at he; exact absurd he ht
    simp only [if_neg h6] at he ⊢
    by_cases h7 : kdS o < 7
    · simp only [if_pos h7] at he ⊢
      unfold tickR at he ⊢
      rw [if_neg hnf] at he ⊢
      by_cases ht : tickE o.now = 0
      · simp only [if_pos ht] at he ⊢
        all_goals first
          | (have hb : (decide (kdS o = 5) || decide (kdS o = 7) || decide (kdS o = 8)) = false := by simp; omega
             rw [hb]
             simp only [Bool.false_eq_true, if_false, List.append_nil]
             exact tick_ok h hf _)
          | rfl
      · simp only [if_neg ht] at he; exact absurd he ht
    simp only [if_neg h7] at he ⊢
    by_cases h9 : kdS o < 9
    · simp only [if_pos h9] at he ⊢
      unfold compR at he ⊢
      rw [if_neg hnf] at he ⊢
      by_cases ht : compE c (numO o c) = 0
      · simp only [if_pos ht] at he ⊢
        all_goals first
          | (have hb : (decide (kdS o = 5) || decide (kdS o = 7) || decide (kdS o = 8)) = true := by simp; omega
             rw [hb]
             exact comp_ok h hf ht)
          | rfl
      · simp only [if_neg ht] at he; exact absurd he ht
    simp only [if_neg h9] at he ⊢
    unfold restR at he ⊢
    rw [if_neg hnf] at he ⊢
    by_cases ht : restE c o.tasks o.attempt = 0
    · simp only [if_pos ht] at he ⊢
      all_goals first
        | (have hb : (decide (kdS o = 5) || decide (kdS o = 7) || decide (kdS o = 8)) = false := by
             have := kdS_bd o
             simp; omega
           rw [hb]
           simp only [Bool.false_eq_true, if_false, List.append_nil]
           exact rest_ok h hf ht)
        | rfl
    · simp only [if_neg ht] at he; exact absurd he ht
end Go.Proofs.Ytlbdpnlmdcajbaa
