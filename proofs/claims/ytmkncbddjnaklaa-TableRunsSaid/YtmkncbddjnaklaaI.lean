/- Walks: what the document says of Do and Run; the layer does something. -/
import Derived.Test.YtmkncbddjnaklaaH
import Derived.Test.YtmkncbddjnaklaaC2
namespace Go.Proofs.Ytmkncbddjnaklaa
open Go.RowKit
open Nat renaming reduceEqDiff → nA, reduceLT → nB, reduceLeDiff → nC, reduceAdd → nD, reduceMul → nE, reduceSub → nF, reduceBEq → nG
open Int renaming reduceToNat → iA, reduceLT → iB, reduceLE → iC, reduceEq → iD
open Bool renaming and_eq_true → bA, or_eq_true → bB, or_eq_false_iff → bC, and_eq_false_iff → bD, not_eq_true' → bE, not_eq_false' → bF, not_true → bG, not_false → bH
set_option linter.all false
set_option maxHeartbeats 4000000
attribute [local irreducible] AW Does ACall tE tS tB tZ
def dLI0 : List En := [(0, false, []), (1, false, []), (2, false, []), (3, true, []), (4, false, []), (5, false, []), (6, true, []), (7, false, []), (9, false, [3, 6, 8]), (8, false, []), (10, false, []), (11, false, [])]
def dAI0 : List (List Nat) := [[], [], [], [2], [1, 2, 3], [], [5], [1, 2, 3, 4, 5, 6], [1, 2, 3, 4, 5, 6, 7], [0], [0, 1, 2, 3, 4, 5, 6, 7, 8, 9], [0, 1, 2, 3, 4, 5, 6, 7, 8, 9, 10]]
attribute [push_cast] dLI0
def dLI1 : List En := [(0, false, []), (1, false, []), (2, false, []), (4, false, []), (5, true, []), (3, false, [5]), (6, false, [])]
def dAI1 : List (List Nat) := [[], [], [1], [0, 1, 2], [], [4], [0, 1, 2, 3, 4, 5]]
attribute [push_cast] dLI1
def dLI2 : List En := [(0, false, []), (1, false, []), (2, true, []), (4, false, [2, 3]), (3, false, []), (5, false, []), (6, false, [])]
def dAI2 : List (List Nat) := [[], [], [1], [1, 2], [0], [0, 1, 2, 3, 4], [0, 1, 2, 3, 4, 5]]
attribute [push_cast] dLI2

theorem runS_one (o : OpD) (c : CellD) (v : Int) (ha : aloneS o = true) (hf : fitsS o c = true) : runS o c [v] = if c.count = 9223372036854775807 then (zeroC, [], 6) else ((stepS o c v).1, if (stepS o c v).2.2 then [(stepS o c v).2.1] else [], 0) := by
  have hfl : flowS o c [v] = if c.count = 9223372036854775807 then (c, [], 6) else ((stepS o c v).1, if (stepS o c v).2.2 then [(stepS o c v).2.1] else [], 0) := by
    show fstep o (c, [], 0) v = _
    unfold fstep; simp
  unfold runS
  rw [ha, hf, hfl]
  by_cases hm : c.count = 9223372036854775807 <;> simp [hm]
theorem fits5 {o : OpD} {c : CellD} (h : o.tag = 5) (hf : fitsS o c = true) : 0 ≤ c.count ∧ c.count < o.A := by
  unfold fitsS soundS at hf
  rw [if_neg (by omega), if_pos h] at hf
  simp only [Bool.and_eq_true, Bool.or_eq_true, decide_eq_true_eq] at hf
  rcases hf with ⟨h1 | h1, h2⟩
  · omega
  · rw [h1] at h2 ⊢; exact ⟨by show (0 : Int) ≤ 0; omega, h2⟩
theorem refDo_p (o : OpD) (c : CellD) (v : Int) (hlO : o.ins.length ≤ maxLen) (hA : o.A ≤ 9223372036854775807) :
    Pure Try.prog 26 [.g (OpD.av o), .g (CellD.av c), .c (.int .i64 v)] (.t [.g (CellD.av (runS o c [v]).1), .l 1 ((runS o c [v]).2.1.map i1), .c (.int .i64 (runS o c [v]).2.2)]) := by
  intro H
  have hri := Right_p o hlO
  have hfi := rfits_p o c
  have hone := runS_one o c v
  have hrun : runS o c [v] = if aloneS o = false then (zeroC, [], 180) else if fitsS o c = false then (zeroC, [], 181) else if (flowS o c [v]).2.2 ≠ 0 then (zeroC, [], (flowS o c [v]).2.2) else ((flowS o c [v]).1, (flowS o c [v]).2.1, 0) := rfl
  cases ha : aloneS o
  · rw [ha] at hri hrun
    rw [if_pos rfl] at hrun
    rw [hrun]
    clear hrun hone ha hfi
    obtain ⟨t, w, l, A, B⟩ := o
    obtain ⟨cn, cs⟩ := c
    simp only [OpD.av, CellD.av, zeroC, List.map_nil] at hri ⊢
    refine ACall_of' Try.func26 rfl (Ent_of Try.func26 (by kernel_rfl) rfl) (by simp [Try.ntmps26]) ?_; simp only [Try.ntmps26, Try.results26]
    repeat' (first
    | refine AW_seq_kn fun K hK => ?_
    | refine AW_block ?_
    | (refine does_call rfl rfl ?_; simp only [push_cast, seval, *]; refine ACall.monoP (hri _) ?_; (try simp only [push_cast, seval, *]))
    | (refine does_call rfl rfl ?_; simp only [push_cast, seval, *]; refine ACall.monoP (Right_p ⟨_, _, _, _, _⟩ (by assumption) _) ?_; (try simp only [push_cast, seval, *]))
    | (refine does_call rfl rfl ?_; simp only [push_cast, seval, *]; refine ACall.monoP (rfits_p ⟨_, _, _, _, _⟩ ⟨_, _⟩ _) ?_; (try simp only [push_cast, seval, *]))
    | ((first
      | refine AW_region_draw (id := 9) E0 (fun f => [].contains f) dLI0 dAI0 mixed (by kernel_rfl) ?_
      | refine AW_region_draw (id := 11) E0 (fun f => [].contains f) dLI1 dAI1 mixed (by kernel_rfl) ?_
      | refine AW_region_draw (id := 15) E0 (fun f => [].contains f) dLI2 dAI2 mixed (by kernel_rfl) ?_
      | refine AW_region_draw (id := 19) E0 (fun f => [].contains f) dLI2 dAI2 mixed (by kernel_rfl) ?_
      | refine AW_region E0 ?_ | refine AW_ret ?_ | refine AW_exit ?_ | refine AW_skip ?_ | unfold retQ); try simp only [push_cast, seval, *])
    | (apply AW_cond; (case hc => (simp only [push_cast, seval]; rfl)); all_goals (intro hc; first | (exfalso; simp only [push_cast, seval, *] at hc; done) | (exact absurd hc (by decide)) | ((try first | rw [Bool.not_true] at hc | rw [Bool.not_false] at hc); first | (with_reducible replace hc := tTT hc); clear hc | (with_reducible replace hc := tFF hc); clear hc | (have hp := hc; try simp only [decide_eq_true_eq, decide_eq_false_iff_not, bA, bB, bC, bD, bE, bF, bG, bH] at hp))))
    | (refine Kn.go hK ?_; clear hK K)
    | refine Kn.go (by assumption) ?_
    | (intro n hn; (try simp only [upd_none2, join_none_iff, ite_none, ne_eq] at hn); (try simp only [push_cast, seval, *]))
    | (intro hc)
    | fail)
    refine ⟨_, _, Weak.imp (fun F => Imp.t (Imps.cons (Imp.refl (Mem.le.refl F) _) id (Imps.cons (Imp.nil_l 1) (fun _ => rfl) (Imps.cons (Imp.refl (Mem.le.refl F) _) id Imps.nil)))) (by (simp only [push_cast, seval, *])), rfl, rfl⟩
  cases hf : fitsS o c
  · rw [ha] at hri
    rw [hf] at hfi
    rw [ha, hf, if_neg (by simp), if_pos rfl] at hrun
    rw [hrun]
    clear hrun hone ha hf
    obtain ⟨t, w, l, A, B⟩ := o
    obtain ⟨cn, cs⟩ := c
    simp only [OpD.av, CellD.av, zeroC, List.map_nil] at hri hfi ⊢
    refine ACall_of' Try.func26 rfl (Ent_of Try.func26 (by kernel_rfl) rfl) (by simp [Try.ntmps26]) ?_; simp only [Try.ntmps26, Try.results26]
    repeat' (first
    | refine AW_seq_kn fun K hK => ?_
    | refine AW_block ?_
    | (refine does_call rfl rfl ?_; simp only [push_cast, seval, *]; refine ACall.monoP (hri _) ?_; (try simp only [push_cast, seval, *]))
    | (refine does_call rfl rfl ?_; simp only [push_cast, seval, *]; refine ACall.monoP (hfi _) ?_; (try simp only [push_cast, seval, *]))
    | (refine does_call rfl rfl ?_; simp only [push_cast, seval, *]; refine ACall.monoP (Right_p ⟨_, _, _, _, _⟩ (by assumption) _) ?_; (try simp only [push_cast, seval, *]))
    | (refine does_call rfl rfl ?_; simp only [push_cast, seval, *]; refine ACall.monoP (rfits_p ⟨_, _, _, _, _⟩ ⟨_, _⟩ _) ?_; (try simp only [push_cast, seval, *]))
    | ((first
      | refine AW_region_draw (id := 9) E0 (fun f => [].contains f) dLI0 dAI0 mixed (by kernel_rfl) ?_
      | refine AW_region_draw (id := 11) E0 (fun f => [].contains f) dLI1 dAI1 mixed (by kernel_rfl) ?_
      | refine AW_region_draw (id := 15) E0 (fun f => [].contains f) dLI2 dAI2 mixed (by kernel_rfl) ?_
      | refine AW_region_draw (id := 19) E0 (fun f => [].contains f) dLI2 dAI2 mixed (by kernel_rfl) ?_
      | refine AW_region E0 ?_ | refine AW_ret ?_ | refine AW_exit ?_ | refine AW_skip ?_ | unfold retQ); try simp only [push_cast, seval, *])
    | (apply AW_cond; (case hc => (simp only [push_cast, seval]; rfl)); all_goals (intro hc; first | (exfalso; simp only [push_cast, seval, *] at hc; done) | (exact absurd hc (by decide)) | ((try first | rw [Bool.not_true] at hc | rw [Bool.not_false] at hc); first | (with_reducible replace hc := tTT hc); clear hc | (with_reducible replace hc := tFF hc); clear hc | (have hp := hc; try simp only [decide_eq_true_eq, decide_eq_false_iff_not, bA, bB, bC, bD, bE, bF, bG, bH] at hp))))
    | (refine Kn.go hK ?_; clear hK K)
    | refine Kn.go (by assumption) ?_
    | (intro n hn; (try simp only [upd_none2, join_none_iff, ite_none, ne_eq] at hn); (try simp only [push_cast, seval, *]))
    | (intro hc)
    | fail)
    refine ⟨_, _, Weak.imp (fun F => Imp.t (Imps.cons (Imp.refl (Mem.le.refl F) _) id (Imps.cons (Imp.nil_l 1) (fun _ => rfl) (Imps.cons (Imp.refl (Mem.le.refl F) _) id Imps.nil)))) (by (simp only [push_cast, seval, *])), rfl, rfl⟩
  have hone := hone ha hf
  have h5 := fits5 (o := o) (c := c) (hf := hf)
  have htag := alone_tag o ha
  rw [ha] at hri
  rw [hf] at hfi
  rw [hone]
  clear hone hrun ha hf
  by_cases hm : c.count = 9223372036854775807
  · rw [if_pos hm]
    have hmT : (c.count = 9223372036854775807) = True := by simp [hm]
    clear hm h5 htag
    obtain ⟨t, w, l, A, B⟩ := o
    obtain ⟨cn, cs⟩ := c
    simp only [OpD.av, CellD.av, zeroC, List.map_nil] at hri hfi hmT ⊢
    refine ACall_of' Try.func26 rfl (Ent_of Try.func26 (by kernel_rfl) rfl) (by simp [Try.ntmps26]) ?_; simp only [Try.ntmps26, Try.results26]
    repeat' (first
    | refine AW_seq_kn fun K hK => ?_
    | refine AW_block ?_
    | (refine does_call rfl rfl ?_; simp only [push_cast, seval, *]; refine ACall.monoP (hri _) ?_; (try simp only [push_cast, seval, *]))
    | (refine does_call rfl rfl ?_; simp only [push_cast, seval, *]; refine ACall.monoP (hfi _) ?_; (try simp only [push_cast, seval, *]))
    | (refine does_call rfl rfl ?_; simp only [push_cast, seval, *]; refine ACall.monoP (Right_p ⟨_, _, _, _, _⟩ (by assumption) _) ?_; (try simp only [push_cast, seval, *]))
    | (refine does_call rfl rfl ?_; simp only [push_cast, seval, *]; refine ACall.monoP (rfits_p ⟨_, _, _, _, _⟩ ⟨_, _⟩ _) ?_; (try simp only [push_cast, seval, *]))
    | ((first
      | refine AW_region_draw (id := 9) E0 (fun f => [].contains f) dLI0 dAI0 mixed (by kernel_rfl) ?_
      | refine AW_region_draw (id := 11) E0 (fun f => [].contains f) dLI1 dAI1 mixed (by kernel_rfl) ?_
      | refine AW_region_draw (id := 15) E0 (fun f => [].contains f) dLI2 dAI2 mixed (by kernel_rfl) ?_
      | refine AW_region_draw (id := 19) E0 (fun f => [].contains f) dLI2 dAI2 mixed (by kernel_rfl) ?_
      | refine AW_region E0 ?_ | refine AW_ret ?_ | refine AW_exit ?_ | refine AW_skip ?_ | unfold retQ); try simp only [push_cast, seval, *])
    | (apply AW_cond; (case hc => (simp only [push_cast, seval]; rfl)); all_goals (intro hc; first | (exfalso; simp only [push_cast, seval, *] at hc; done) | (exact absurd hc (by decide)) | ((try first | rw [Bool.not_true] at hc | rw [Bool.not_false] at hc); first | (with_reducible replace hc := tTT hc); clear hc | (with_reducible replace hc := tFF hc); clear hc | (have hp := hc; try simp only [decide_eq_true_eq, decide_eq_false_iff_not, bA, bB, bC, bD, bE, bF, bG, bH] at hp))))
    | (refine Kn.go hK ?_; clear hK K)
    | refine Kn.go (by assumption) ?_
    | (intro n hn; (try simp only [upd_none2, join_none_iff, ite_none, ne_eq] at hn); (try simp only [push_cast, seval, *]))
    | (intro hc)
    | fail)
    refine ⟨_, _, Weak.imp (fun F => Imp.t (Imps.cons (Imp.refl (Mem.le.refl F) _) id (Imps.cons (Imp.nil_l 1) (fun _ => rfl) (Imps.cons (Imp.refl (Mem.le.refl F) _) id Imps.nil)))) (by (simp only [push_cast, seval, *])), rfl, rfl⟩
  rw [if_neg hm]
  have h8 := tags o.tag
  have hmo := Mod8_p v o.A hA
  obtain ⟨t, w, l, A, B⟩ := o
  obtain ⟨cn, cs⟩ := c
  simp only at h8 h5 htag hm hmo
  obtain ⟨T, hT⟩ : ∃ T, T = stepS ⟨t, w, l, A, B⟩ ⟨cn, cs⟩ v := ⟨_, rfl⟩
  rw [← hT]
  unfold stepS at hT
  simp only at hT
  have hwr : ∀ x, wrap64 x = IntKind.i64.wrap x := fun _ => rfl
  simp only [hwr] at hT
  simp only [OpD.av, CellD.av] at hri hfi ⊢
  have h9 : t = 1 ∨ t = 2 ∨ (t = 3 ∧ (modS v A = B) = True ∧ (modS v A == B) = true) ∨ (t = 3 ∧ (modS v A = B) = False ∧ (modS v A == B) = false) ∨ t = 4 ∨ (t = 5 ∧ IntKind.i64.wrap (cn + 1) = cn + 1 ∧ (cn + 1 = A) = True ∧ ¬ cn + 1 < A) ∨ (t = 5 ∧ IntKind.i64.wrap (cn + 1) = cn + 1 ∧ (cn + 1 = A) = False ∧ cn + 1 < A) ∨ t = 6 ∨ t = 7 := by
    rcases h8 with e | e | e | e | e | e | e | e
    · exact .inl e
    · exact .inr (.inl e)
    · by_cases q : modS v A = B
      · exact .inr (.inr (.inl ⟨e, by simp [q], by simp [q]⟩))
      · exact .inr (.inr (.inr (.inl ⟨e, by simp [q], by simp [q]⟩)))
    · exact .inr (.inr (.inr (.inr (.inl e))))
    · have h51 := h5 e
      simp only at h51 hA
      have hcw : IntKind.i64.wrap (cn + 1) = cn + 1 := wrap_i64 (by omega) (by omega)
      by_cases q : cn + 1 = A
      · exact .inr (.inr (.inr (.inr (.inr (.inl ⟨e, hcw, by simp [q], by omega⟩)))))
      · exact .inr (.inr (.inr (.inr (.inr (.inr (.inl ⟨e, hcw, by simp [q], by omega⟩))))))
    · exact .inr (.inr (.inr (.inr (.inr (.inr (.inr (.inl e)))))))
    · exact .inr (.inr (.inr (.inr (.inr (.inr (.inr (.inr e)))))))
    · omega
  clear h8
  rcases h9 with rfl | rfl | ⟨rfl, q1, q2⟩ | ⟨rfl, q1, q2⟩ | rfl | ⟨rfl, q1, q2, q3⟩ | ⟨rfl, q1, q2, q3⟩ | rfl | rfl
  all_goals
    clear h5 htag
    simp [*] at hT
    subst hT
    refine ACall_of' Try.func26 rfl (Ent_of Try.func26 (by kernel_rfl) rfl) (by simp [Try.ntmps26]) ?_; simp only [Try.ntmps26, Try.results26]
    repeat' (first
    | refine AW_seq_kn fun K hK => ?_
    | refine AW_block ?_
    | (refine does_call rfl rfl ?_; simp only [push_cast, seval, *]; refine ACall.monoP (hri _) ?_; (try simp only [push_cast, seval, *]))
    | (refine does_call rfl rfl ?_; simp only [push_cast, seval, *]; refine ACall.monoP (hfi _) ?_; (try simp only [push_cast, seval, *]))
    | (refine does_call rfl rfl ?_; simp only [push_cast, seval, *]; refine ACall.monoP (hmo _) ?_; (try simp only [push_cast, seval, *]))
    | (refine does_call rfl rfl ?_; simp only [push_cast, seval, *]; refine ACall.monoP (Right_p ⟨_, _, _, _, _⟩ (by assumption) _) ?_; (try simp only [push_cast, seval, *]))
    | (refine does_call rfl rfl ?_; simp only [push_cast, seval, *]; refine ACall.monoP (rfits_p ⟨_, _, _, _, _⟩ ⟨_, _⟩ _) ?_; (try simp only [push_cast, seval, *]))
    | ((first
      | refine AW_region_draw (id := 9) E0 (fun f => [].contains f) dLI0 dAI0 mixed (by kernel_rfl) ?_
      | refine AW_region_draw (id := 11) E0 (fun f => [].contains f) dLI1 dAI1 mixed (by kernel_rfl) ?_
      | refine AW_region_draw (id := 15) E0 (fun f => [].contains f) dLI2 dAI2 mixed (by kernel_rfl) ?_
      | refine AW_region_draw (id := 19) E0 (fun f => [].contains f) dLI2 dAI2 mixed (by kernel_rfl) ?_
      | refine AW_region E0 ?_ | refine AW_ret ?_ | refine AW_exit ?_ | refine AW_skip ?_ | unfold retQ); try simp only [push_cast, seval, *])
    | (apply AW_cond; (case hc => (simp only [push_cast, seval]; rfl)); all_goals (intro hc; first | (exfalso; simp only [push_cast, seval, *] at hc; done) | (exact absurd hc (by decide)) | ((try first | rw [Bool.not_true] at hc | rw [Bool.not_false] at hc); first | (with_reducible replace hc := tTT hc); clear hc | (with_reducible replace hc := tFF hc); clear hc | (have hp := hc; try simp only [decide_eq_true_eq, decide_eq_false_iff_not, bA, bB, bC, bD, bE, bF, bG, bH] at hp))))
    | (refine Kn.go hK ?_; clear hK K)
    | refine Kn.go (by assumption) ?_
    | (intro n hn; (try simp only [upd_none2, join_none_iff, ite_none, ne_eq] at hn); (try simp only [push_cast, seval, *]))
    | (intro hc)
    | fail)
    first
      | (refine ⟨_, _, ?_, rfl, rfl⟩; (refine Weak.frzK n (by simp only [upd_get, del_get, if_true, if_false, reduceIte, *]; rfl) ?_; simp only [push_cast, frz, frzL, frzR, List.getElem?_cons_zero, List.length_cons, List.length_nil, List.drop_zero, and_self, and_true, true_and, and_false, false_and, if_true, if_false, reduceIte, Nat.reduceLeDiff, Nat.reduceAdd, Nat.reduceEqDiff, List.take_succ_cons, List.take_zero, List.take_nil, *]); exact Weak.less (by (simp only [push_cast, seval, *])))
      | exact ⟨_, _, Weak.imp (fun F => Imp.t (Imps.cons (Imp.refl (Mem.le.refl F) _) id (Imps.cons (Imp.nil_l 1) (fun _ => rfl) (Imps.cons (Imp.refl (Mem.le.refl F) _) id Imps.nil)))) (by (simp only [push_cast, seval, *])), rfl, rfl⟩

end Go.Proofs.Ytmkncbddjnaklaa
