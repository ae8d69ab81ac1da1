/- Walks: steps. -/
import Derived.Test.YtmkncbddjnaklaaC
namespace Go.Proofs.Ytmkncbddjnaklaa
open Go.RowKit
open Nat renaming reduceEqDiff → nA, reduceLT → nB, reduceLeDiff → nC, reduceAdd → nD, reduceMul → nE, reduceSub → nF, reduceBEq → nG
open Int renaming reduceToNat → iA, reduceLT → iB, reduceLE → iC, reduceEq → iD
open Bool renaming and_eq_true → bA, or_eq_true → bB, or_eq_false_iff → bC, and_eq_false_iff → bD, not_eq_true' → bE, not_eq_false' → bF, not_true → bG, not_false → bH
set_option linter.all false
set_option maxHeartbeats 4000000
attribute [local irreducible] AW Does ACall tE tS tB tZ
def dLD0 : List En := [(0, false, []), (1, false, []), (2, true, []), (3, false, [2]), (4, false, []), (5, false, [])]
def dAD0 : List (List Nat) := [[], [], [1], [0], [0, 1, 2, 3], [0, 1, 2, 3, 4]]
attribute [push_cast] dLD0

theorem add_p (n s v : Int) : Pure Try.prog 135 [.g [.c (.int .i64 n), .c (.int .i64 s)], .c (.int .i64 v)] (.g [.c (.int .i64 (wrap64 (n + 1))), .c (.int .i64 (wrap64 (s + v)))]) := by
  intro H
  have h1 : wrap64 (n + 1) = IntKind.i64.wrap (n + 1) := rfl
  have h2 : wrap64 (s + v) = IntKind.i64.wrap (s + v) := rfl
  rw [h1, h2]
  refine ACall_of' Try.func135 rfl (Ent_of Try.func135 (by kernel_rfl) rfl) (by simp [Try.ntmps135]) ?_; simp only [Try.ntmps135, Try.results135]
  repeat' (first
    | refine AW_seq_kn fun K hK => ?_
    | refine AW_block ?_
    | ((first
      | refine AW_region E0 ?_ | refine AW_ret ?_ | refine AW_exit ?_ | refine AW_skip ?_ | unfold retQ); try simp only [push_cast, seval, *])
    | (apply AW_cond; (case hc => (simp only [push_cast, seval]; rfl)); all_goals (intro hc; first | (exfalso; simp only [push_cast, seval, *] at hc; done) | (exact absurd hc (by decide)) | ((try first | rw [Bool.not_true] at hc | rw [Bool.not_false] at hc); first | (with_reducible replace hc := tTT hc); clear hc | (with_reducible replace hc := tFF hc); clear hc | (have hp := hc; try simp only [decide_eq_true_eq, decide_eq_false_iff_not, bA, bB, bC, bD, bE, bF, bG, bH] at hp))))
    | (refine Kn.go hK ?_; clear hK K)
    | refine Kn.go (by assumption) ?_
    | (intro n hn; (try simp only [upd_none2, join_none_iff, ite_none, ne_eq] at hn); (try simp only [push_cast, seval, *]))
    | (intro hc)
    | fail)
  exact ⟨_, _, Weak.less (by (simp only [push_cast, seval, *])), rfl, rfl⟩
/-- what a step answers -/
def stA (o : OpD) (c : CellD) (v : Int) : AV := .t [.g (CellD.av (stepS o c v).1), .c (.int .i64 (stepS o c v).2.1), .c (.bool (stepS o c v).2.2)]
theorem step1_p (o : OpD) (c : CellD) (v : Int) (h2 : ¬ o.tag = 2) (h3 : ¬ o.tag = 3) (h4 : ¬ o.tag = 4) (h5 : ¬ o.tag = 5) : Pure Try.prog 134 [.g (OpD.av o), .g (CellD.av c), .c (.int .i64 v)] (stA o c v) := by
  intro H
  have hs : stepS o c v = (c, v, true) := by unfold stepS; rw [if_neg h2, if_neg h3, if_neg h4, if_neg h5]
  unfold stA
  rw [hs]
  obtain ⟨t, w, l, A, B⟩ := o
  obtain ⟨n, s⟩ := c
  simp only [OpD.av, CellD.av]
  clear hs h2 h3 h4 h5
  refine ACall_of' Try.func134 rfl (Ent_of Try.func134 (by kernel_rfl) rfl) (by simp [Try.ntmps134]) ?_; simp only [Try.ntmps134, Try.results134]
  repeat' (first
    | refine AW_seq_kn fun K hK => ?_
    | refine AW_block ?_
    | ((first
      | refine AW_region E0 ?_ | refine AW_ret ?_ | refine AW_exit ?_ | refine AW_skip ?_ | unfold retQ); try simp only [push_cast, seval, *])
    | (apply AW_cond; (case hc => (simp only [push_cast, seval]; rfl)); all_goals (intro hc; first | (exfalso; simp only [push_cast, seval, *] at hc; done) | (exact absurd hc (by decide)) | ((try first | rw [Bool.not_true] at hc | rw [Bool.not_false] at hc); first | (with_reducible replace hc := tTT hc); clear hc | (with_reducible replace hc := tFF hc); clear hc | (have hp := hc; try simp only [decide_eq_true_eq, decide_eq_false_iff_not, bA, bB, bC, bD, bE, bF, bG, bH] at hp))))
    | (refine Kn.go hK ?_; clear hK K)
    | refine Kn.go (by assumption) ?_
    | (intro n hn; (try simp only [upd_none2, join_none_iff, ite_none, ne_eq] at hn); (try simp only [push_cast, seval, *]))
    | (intro hc)
    | fail)
  exact ⟨_, _, Weak.less (by (simp only [push_cast, seval, *])), rfl, rfl⟩
theorem step3_p (o : OpD) (c : CellD) (v : Int) (h2 : o.tag = 2) : Pure Try.prog 136 [.g (OpD.av o), .g (CellD.av c), .c (.int .i64 v)] (stA o c v) := by
  intro H
  have hs : stepS o c v = (c, IntKind.i64.wrap (IntKind.i64.wrap (v * o.A) + o.B), true) := by unfold stepS; rw [if_pos h2]; rfl
  unfold stA
  rw [hs]
  obtain ⟨t, w, l, A, B⟩ := o
  obtain ⟨n, s⟩ := c
  simp only [OpD.av, CellD.av]
  clear hs h2
  refine ACall_of' Try.func136 rfl (Ent_of Try.func136 (by kernel_rfl) rfl) (by simp [Try.ntmps136]) ?_; simp only [Try.ntmps136, Try.results136]
  repeat' (first
    | refine AW_seq_kn fun K hK => ?_
    | refine AW_block ?_
    | ((first
      | refine AW_region_draw (id := 1) E0 (fun f => [].contains f) [(0, false, []), (1, false, []), (2, false, []), (3, true, []), (4, false, []), (5, false, []), (6, true, []), (7, false, []), (8, false, [3, 6]), (9, false, []), (10, false, [])] [[], [], [], [2], [1, 2, 3], [], [5], [1, 2, 3, 4, 5, 6], [0], [0, 1, 2, 3, 4, 5, 6, 7, 8], [0, 1, 2, 3, 4, 5, 6, 7, 8, 9]] mixed (by kernel_rfl) ?_
      | refine AW_region E0 ?_ | refine AW_ret ?_ | refine AW_exit ?_ | refine AW_skip ?_ | unfold retQ); try simp only [push_cast, seval, *])
    | (apply AW_cond; (case hc => (simp only [push_cast, seval]; rfl)); all_goals (intro hc; first | (exfalso; simp only [push_cast, seval, *] at hc; done) | (exact absurd hc (by decide)) | ((try first | rw [Bool.not_true] at hc | rw [Bool.not_false] at hc); first | (with_reducible replace hc := tTT hc); clear hc | (with_reducible replace hc := tFF hc); clear hc | (have hp := hc; try simp only [decide_eq_true_eq, decide_eq_false_iff_not, bA, bB, bC, bD, bE, bF, bG, bH] at hp))))
    | (refine Kn.go hK ?_; clear hK K)
    | refine Kn.go (by assumption) ?_
    | (intro n hn; (try simp only [upd_none2, join_none_iff, ite_none, ne_eq] at hn); (try simp only [push_cast, seval, *]))
    | (intro hc)
    | fail)
  exact ⟨_, _, Weak.less (by (simp only [push_cast, seval, *])), rfl, rfl⟩
theorem step4_p (o : OpD) (c : CellD) (v : Int) (h3 : o.tag = 3) (hA : o.A ≤ 9223372036854775807) : Pure Try.prog 137 [.g (OpD.av o), .g (CellD.av c), .c (.int .i64 v)] (stA o c v) := by
  intro H
  have hs : stepS o c v = (c, v, decide (modS v o.A = o.B)) := by unfold stepS; rw [if_neg (by omega), if_pos h3]; rfl
  unfold stA
  rw [hs]
  have hm := Mod_p v o.A hA
  obtain ⟨t, w, l, A, B⟩ := o
  obtain ⟨n, s⟩ := c
  simp only [OpD.av, CellD.av] at hm ⊢
  clear hs h3
  generalize modS v A = m at *
  refine ACall_of' Try.func137 rfl (Ent_of Try.func137 (by kernel_rfl) rfl) (by simp [Try.ntmps137]) ?_; simp only [Try.ntmps137, Try.results137]
  repeat' (first
    | refine AW_seq_kn fun K hK => ?_
    | refine AW_block ?_
    | (refine does_call rfl rfl ?_; simp only [push_cast, seval, *]; refine ACall.monoP (hm _) ?_; (try simp only [push_cast, seval, *]))
    | ((first
      | refine AW_region_draw (id := 1) E0 (fun f => [].contains f) [(0, true, []), (1, false, []), (2, false, []), (3, false, []), (4, false, []), (6, false, []), (7, true, []), (5, false, [0, 7]), (8, false, []), (9, false, [7]), (10, false, []), (11, false, [])] [[], [], [], [], [3], [2, 3, 4], [], [6], [2, 3, 4, 5, 6, 7], [0, 2, 3, 4, 5], [0, 1, 2, 3, 4, 5, 9], [0, 1, 2, 3, 4, 5, 6, 7, 8, 9, 10]] mixed (by kernel_rfl) ?_
      | refine AW_region E0 ?_ | refine AW_ret ?_ | refine AW_exit ?_ | refine AW_skip ?_ | unfold retQ); try simp only [push_cast, seval, *])
    | (apply AW_cond; (case hc => (simp only [push_cast, seval]; rfl)); all_goals (intro hc; first | (exfalso; simp only [push_cast, seval, *] at hc; done) | (exact absurd hc (by decide)) | ((try first | rw [Bool.not_true] at hc | rw [Bool.not_false] at hc); first | (with_reducible replace hc := tTT hc); clear hc | (with_reducible replace hc := tFF hc); clear hc | (have hp := hc; try simp only [decide_eq_true_eq, decide_eq_false_iff_not, bA, bB, bC, bD, bE, bF, bG, bH] at hp))))
    | (refine Kn.go hK ?_; clear hK K)
    | refine Kn.go (by assumption) ?_
    | (intro n hn; (try simp only [upd_none2, join_none_iff, ite_none, ne_eq] at hn); (try simp only [push_cast, seval, *]))
    | (intro hc)
    | fail)
  exact ⟨_, _, Weak.less (by (simp only [push_cast, seval, *])), rfl, rfl⟩
abbrev addF : AV := .q [.c (.func (.func 135) #[] #[])] 0
theorem step5_p (o : OpD) (c : CellD) (v : Int) (h4 : o.tag = 4) : Pure Try.prog 138 [.g (OpD.av o), .g (CellD.av c), .c (.int .i64 v), addF] (stA o c v) := by
  intro H
  have hs : stepS o c v = (⟨wrap64 (c.count + 1), wrap64 (c.sum + v)⟩, wrap64 (c.sum + v), true) := by unfold stepS; rw [if_neg (by omega), if_neg (by omega), if_pos h4]
  unfold stA
  rw [hs]
  obtain ⟨t, w, l, A, B⟩ := o
  obtain ⟨n, s⟩ := c
  simp only [OpD.av, CellD.av]
  have ha := add_p n s v
  generalize wrap64 (n + 1) = n' at *
  generalize wrap64 (s + v) = s' at *
  clear hs h4
  refine ACall_of' Try.func138 rfl (Ent_of Try.func138 (by kernel_rfl) rfl) (by simp [Try.ntmps138]) ?_; simp only [Try.ntmps138, Try.results138]
  repeat' (first
    | refine AW_seq_kn fun K hK => ?_
    | refine AW_block ?_
    | (refine does_call rfl (by first | rfl | (simp only [push_cast, seval]; rfl)) ?_; simp only [push_cast, seval, *]; refine (ha _).mono ?_; (rintro _ _ ⟨rfl, e2⟩; have e3 := e2.symm; clear e2; subst e3); (try simp only [push_cast, seval, *]))
    | ((first
      | refine AW_region_draw (id := 2) E0 (fun f => [].contains f) dLD0 dAD0 mixed (by kernel_rfl) ?_
      | refine AW_region E0 ?_ | refine AW_ret ?_ | refine AW_exit ?_ | refine AW_skip ?_ | unfold retQ); try simp only [push_cast, seval, *])
    | (apply AW_cond; (case hc => (simp only [push_cast, seval]; rfl)); all_goals (intro hc; first | (exfalso; simp only [push_cast, seval, *] at hc; done) | (exact absurd hc (by decide)) | ((try first | rw [Bool.not_true] at hc | rw [Bool.not_false] at hc); first | (with_reducible replace hc := tTT hc); clear hc | (with_reducible replace hc := tFF hc); clear hc | (have hp := hc; try simp only [decide_eq_true_eq, decide_eq_false_iff_not, bA, bB, bC, bD, bE, bF, bG, bH] at hp))))
    | (refine Kn.go hK ?_; clear hK K)
    | refine Kn.go (by assumption) ?_
    | (intro n hn; (try simp only [upd_none2, join_none_iff, ite_none, ne_eq] at hn); (try simp only [push_cast, seval, *]))
    | (intro hc)
    | fail)
  exact ⟨_, _, Weak.less (by (simp only [push_cast, seval, *])), rfl, rfl⟩
theorem step6_p (o : OpD) (c : CellD) (v : Int) (h5 : o.tag = 5) : Pure Try.prog 139 [.g (OpD.av o), .g (CellD.av c), .c (.int .i64 v), addF] (stA o c v) := by
  intro H
  have hs : stepS o c v = (if wrap64 (c.count + 1) < o.A then (⟨wrap64 (c.count + 1), wrap64 (c.sum + v)⟩, 0, false) else (⟨0, 0⟩, wrap64 (c.sum + v), true)) := by unfold stepS; rw [if_neg (by omega), if_neg (by omega), if_neg (by omega), if_pos h5]
  unfold stA
  rw [hs]
  obtain ⟨t, w, l, A, B⟩ := o
  obtain ⟨n, s⟩ := c
  have ha := add_p n s v
  simp only [OpD.av]
  generalize wrap64 (n + 1) = n' at *
  generalize wrap64 (s + v) = s' at *
  clear hs h5
  by_cases c1 : n' < A
  · rw [if_pos c1]
    simp only [CellD.av]
    refine ACall_of' Try.func139 rfl (Ent_of Try.func139 (by kernel_rfl) rfl) (by simp [Try.ntmps139]) ?_; simp only [Try.ntmps139, Try.results139]
    repeat' (first
    | refine AW_seq_kn fun K hK => ?_
    | refine AW_block ?_
    | (refine does_call rfl (by first | rfl | (simp only [push_cast, seval]; rfl)) ?_; simp only [push_cast, seval, *]; refine (ha _).mono ?_; (rintro _ _ ⟨rfl, e2⟩; have e3 := e2.symm; clear e2; subst e3); (try simp only [push_cast, seval, *]))
    | ((first
      | refine AW_region_draw (id := 4) E0 (fun f => [].contains f) dLD0 dAD0 mixed (by kernel_rfl) ?_
      | refine AW_region E0 ?_ | refine AW_ret ?_ | refine AW_exit ?_ | refine AW_skip ?_ | unfold retQ); try simp only [push_cast, seval, *])
    | (apply AW_cond; (case hc => (simp only [push_cast, seval]; rfl)); all_goals (intro hc; first | (exfalso; simp only [push_cast, seval, *] at hc; done) | (exact absurd hc (by decide)) | ((try first | rw [Bool.not_true] at hc | rw [Bool.not_false] at hc); first | (with_reducible replace hc := tTT hc); clear hc | (with_reducible replace hc := tFF hc); clear hc | (have hp := hc; try simp only [decide_eq_true_eq, decide_eq_false_iff_not, bA, bB, bC, bD, bE, bF, bG, bH] at hp))))
    | (refine Kn.go hK ?_; clear hK K)
    | refine Kn.go (by assumption) ?_
    | (intro n hn; (try simp only [upd_none2, join_none_iff, ite_none, ne_eq] at hn); (try simp only [push_cast, seval, *]))
    | (intro hc)
    | fail)
    exact ⟨_, _, Weak.less (by (simp only [push_cast, seval, *])), rfl, rfl⟩
  · rw [if_neg c1]
    simp only [CellD.av]
    refine ACall_of' Try.func139 rfl (Ent_of Try.func139 (by kernel_rfl) rfl) (by simp [Try.ntmps139]) ?_; simp only [Try.ntmps139, Try.results139]
    repeat' (first
    | refine AW_seq_kn fun K hK => ?_
    | refine AW_block ?_
    | (refine does_call rfl (by first | rfl | (simp only [push_cast, seval]; rfl)) ?_; simp only [push_cast, seval, *]; refine (ha _).mono ?_; (rintro _ _ ⟨rfl, e2⟩; have e3 := e2.symm; clear e2; subst e3); (try simp only [push_cast, seval, *]))
    | ((first
      | refine AW_region_draw (id := 4) E0 (fun f => [].contains f) dLD0 dAD0 mixed (by kernel_rfl) ?_
      | refine AW_region E0 ?_ | refine AW_ret ?_ | refine AW_exit ?_ | refine AW_skip ?_ | unfold retQ); try simp only [push_cast, seval, *])
    | (apply AW_cond; (case hc => (simp only [push_cast, seval]; rfl)); all_goals (intro hc; first | (exfalso; simp only [push_cast, seval, *] at hc; done) | (exact absurd hc (by decide)) | ((try first | rw [Bool.not_true] at hc | rw [Bool.not_false] at hc); first | (with_reducible replace hc := tTT hc); clear hc | (with_reducible replace hc := tFF hc); clear hc | (have hp := hc; try simp only [decide_eq_true_eq, decide_eq_false_iff_not, bA, bB, bC, bD, bE, bF, bG, bH] at hp))))
    | (refine Kn.go hK ?_; clear hK K)
    | refine Kn.go (by assumption) ?_
    | (intro n hn; (try simp only [upd_none2, join_none_iff, ite_none, ne_eq] at hn); (try simp only [push_cast, seval, *]))
    | (intro hc)
    | fail)
    exact ⟨_, _, Weak.less (by (simp only [push_cast, seval, *])), rfl, rfl⟩
abbrev fn0 (f : FuncId) : AV := .c (.func (.func f) #[] #[])
abbrev fnv (f : FuncId) (caps : List AV) : AV := .f (.func f) [] caps
theorem steps_p : Pure Try.prog 126 [] (.g [.c .nilFunc, fn0 134, fn0 136, fn0 137, fnv 138 [addF], fnv 139 [addF], fn0 134, fn0 134]) := by
  intro H
  refine ACall_of' Try.func126 rfl (Ent_of Try.func126 (by kernel_rfl) rfl) (by simp [Try.ntmps126]) ?_; simp only [Try.ntmps126, Try.results126]
  repeat' (first
    | refine AW_seq_kn fun K hK => ?_
    | refine AW_block ?_
    | ((first
      | refine AW_region E0 ?_ | refine AW_ret ?_ | refine AW_exit ?_ | refine AW_skip ?_ | unfold retQ); try simp only [push_cast, seval, *])
    | (apply AW_cond; (case hc => (simp only [push_cast, seval]; rfl)); all_goals (intro hc; first | (exfalso; simp only [push_cast, seval, *] at hc; done) | (exact absurd hc (by decide)) | ((try first | rw [Bool.not_true] at hc | rw [Bool.not_false] at hc); first | (with_reducible replace hc := tTT hc); clear hc | (with_reducible replace hc := tFF hc); clear hc | (have hp := hc; try simp only [decide_eq_true_eq, decide_eq_false_iff_not, bA, bB, bC, bD, bE, bF, bG, bH] at hp))))
    | (refine Kn.go hK ?_; clear hK K)
    | refine Kn.go (by assumption) ?_
    | (intro n hn; (try simp only [upd_none2, join_none_iff, ite_none, ne_eq] at hn); (try simp only [push_cast, seval, *]))
    | (intro hc)
    | fail)
  refine ⟨_, _, ?_, rfl, rfl⟩
  (refine Weak.frzK n (by simp only [upd_get, del_get, if_true, if_false, reduceIte, *]; rfl) ?_; simp only [push_cast, frz, frzL, frzR, List.getElem?_cons_zero, List.length_cons, List.length_nil, List.drop_zero, and_self, and_true, true_and, and_false, false_and, if_true, if_false, reduceIte, Nat.reduceLeDiff, Nat.reduceAdd, Nat.reduceEqDiff, List.take_succ_cons, List.take_zero, List.take_nil, *])
  exact Weak.less (by (simp only [push_cast, seval, *]))
end Go.Proofs.Ytmkncbddjnaklaa
