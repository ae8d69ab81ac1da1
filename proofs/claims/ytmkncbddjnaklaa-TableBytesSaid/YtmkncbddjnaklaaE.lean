/- Walks: flow and its iterator. -/
import Derived.Test.YtmkncbddjnaklaaD
namespace Go.Proofs.Ytmkncbddjnaklaa
open Go.RowKit
open Nat renaming reduceEqDiff → nA, reduceLT → nB, reduceLeDiff → nC, reduceAdd → nD, reduceMul → nE, reduceSub → nF, reduceBEq → nG
open Int renaming reduceToNat → iA, reduceLT → iB, reduceLE → iC, reduceEq → iD
open Bool renaming and_eq_true → bA, or_eq_true → bB, or_eq_false_iff → bC, and_eq_false_iff → bD, not_eq_true' → bE, not_eq_false' → bF, not_true → bG, not_false → bH
set_option linter.all false
set_option maxHeartbeats 4000000
attribute [local irreducible] AW Does ACall tE tS tB tZ
def dLE0 : List En := [(0, false, []), (1, false, []), (2, false, []), (3, false, []), (4, false, []), (5, false, []), (6, false, [11]), (7, false, []), (8, false, []), (9, false, []), (10, false, []), (11, false, []), (12, false, []), (13, false, []), (14, false, [])]
def dAE0 : List (List Nat) := [[], [], [], [2], [2, 3], [], [0, 1, 2, 3, 4, 5], [0, 1, 2, 3, 4, 5, 6], [0, 1, 2, 3, 4, 5, 6, 7], [0, 1, 2, 3, 4, 5, 6, 7], [0, 1, 2, 3, 4, 5, 6, 7], [], [0, 1, 2, 3, 4, 5, 6, 7, 8, 11], [0, 1, 2, 3, 4, 5, 6, 7, 8, 9, 11, 12], [0, 1, 2, 3, 4, 5, 6, 7, 8, 9, 10, 11, 12, 13]]
attribute [push_cast] dLE0

theorem frzR_i1 (n sz : Nat) (rows : List (List AV)) (l : List Int) : frzR n sz rows (l.map i1) = l.map i1 := frzR_none (fun _ => by simp [i1, frzL, frz]) l
attribute [push_cast] frzR_i1
abbrev flowCaps (o : OpD) (vs : List Int) (mc me : Nat) : List AV := [.q (OpD.av o) 0, .q [.l 1 (vs.map i1)] 0, .q [.p mc 2 0 0] 0, .q [.p me 1 0 0] 0]
theorem flow_p (o : OpD) (vs : List Int) (mc me : Nat) (H : Heap) (bc be : Blk) (hc : H mc = some bc) (he : H me = some be) : ACall Try.prog 106 [.g (OpD.av o), .p mc 2 0 0, .p me 1 0 0, .l 1 (vs.map i1)] H fun r H' => r = .f (.func 125) [] (flowCaps o vs mc me) ∧ H' = H := by
  obtain ⟨t, w, l, A, B⟩ := o
  simp only [OpD.av]
  have hne1 := ne_old hc
  have hne2 := ne_old he
  refine ACall_of' Try.func106 rfl (Ent_of Try.func106 (by kernel_rfl) rfl) (by simp [Try.ntmps106]) ?_; simp only [Try.ntmps106, Try.results106]
  repeat' (first
    | refine AW_seq_kn fun K hK => ?_
    | refine AW_block ?_
    | ((first
      | refine AW_region E0 ?_ | refine AW_ret ?_ | refine AW_exit ?_ | refine AW_skip ?_ | unfold retQ); try simp only [push_cast, seval, *])
    | (apply AW_cond; (case hc => (simp only [push_cast, seval]; rfl)); all_goals (intro hc; first | (exfalso; simp only [push_cast, seval, *] at hc; done) | (exact absurd hc (by decide)) | ((try first | rw [Bool.not_true] at hc | rw [Bool.not_false] at hc); first | (with_reducible replace hc := tTT hc); clear hc | (with_reducible replace hc := tFF hc); clear hc | (have hp := hc; try simp only [decide_eq_true_eq, decide_eq_false_iff_not, bA, bB, bC, bD, bE, bF, bG, bH] at hp))))
    | (refine Kn.go hK ?_; clear hK K)
    | refine Kn.go (by assumption) ?_
    | (intro n hn; (try simp only [upd_none2, join_none_iff, ite_none, ne_eq] at hn); (try simp only [push_cast, seval, *]))
    | (intro hc)
    | fail)
  rename_i n1 h1 n2 h2 n3 h3
  refine ⟨_, _, ?_, rfl, rfl⟩
  (refine Weak.frzK n (by simp only [upd_get, del_get, if_true, if_false, reduceIte, *]; rfl) ?_; simp only [push_cast, frz, frzL, frzR, List.getElem?_cons_zero, List.length_cons, List.length_nil, List.drop_zero, and_self, and_true, true_and, and_false, false_and, if_true, if_false, reduceIte, Nat.reduceLeDiff, Nat.reduceAdd, Nat.reduceEqDiff, List.take_succ_cons, List.take_zero, List.take_nil, *])
  (refine Weak.frzK n3 (by simp only [upd_get, del_get, if_true, if_false, reduceIte, *]; rfl) ?_; simp only [push_cast, frz, frzL, frzR, List.getElem?_cons_zero, List.length_cons, List.length_nil, List.drop_zero, and_self, and_true, true_and, and_false, false_and, if_true, if_false, reduceIte, Nat.reduceLeDiff, Nat.reduceAdd, Nat.reduceEqDiff, List.take_succ_cons, List.take_zero, List.take_nil, *])
  (refine Weak.frzK n2 (by simp only [upd_get, del_get, if_true, if_false, reduceIte, *]; rfl) ?_; simp only [push_cast, frz, frzL, frzR, List.getElem?_cons_zero, List.length_cons, List.length_nil, List.drop_zero, and_self, and_true, true_and, and_false, false_and, if_true, if_false, reduceIte, Nat.reduceLeDiff, Nat.reduceAdd, Nat.reduceEqDiff, List.take_succ_cons, List.take_zero, List.take_nil, *])
  (refine Weak.frzK n1 (by simp only [upd_get, del_get, if_true, if_false, reduceIte, *]; rfl) ?_; simp only [push_cast, frz, frzL, frzR, List.getElem?_cons_zero, List.length_cons, List.length_nil, List.drop_zero, and_self, and_true, true_and, and_false, false_and, if_true, if_false, reduceIte, Nat.reduceLeDiff, Nat.reduceAdd, Nat.reduceEqDiff, List.take_succ_cons, List.take_zero, List.take_nil, *])
  exact Weak.less (by (simp only [push_cast, seval, *]))
theorem le_two {mc me : Nat} {x y : Blk} {A : Heap} (hx : A mc = some x) (hy : A me = some y) : Heap.le (upd (upd (fun _ => none) mc x) me y) A := fun q b hq => by
  by_cases e1 : q = me
  · subst e1; rw [upd_same] at hq; rw [hy]; exact hq
  by_cases e2 : q = mc
  · subst e2; rw [upd_ne e1, upd_same] at hq; rw [hx]; exact hq
  · rw [upd_ne e1, upd_ne e2] at hq; cases hq
theorem take_succ {α : Type} {l : List α} {k : Nat} {x : α} (hx : l[k]? = some x) : l.take (k + 1) = l.take k ++ [x] := by
  obtain ⟨hk, rfl⟩ := List.getElem?_eq_some_iff.1 hx
  rw [List.take_succ_eq_append_getElem hk]
/-- what 'do' may be -/
def DoV (o : OpD) (d : AV) : Prop := (∃ f, d = fn0 f ∧ ∀ c v, Pure Try.prog f [.g (OpD.av o), .g (CellD.av c), .c (.int .i64 v)] (stA o c v)) ∨ (∃ f, d = fnv f [addF] ∧ ∀ c v, Pure Try.prog f [.g (OpD.av o), .g (CellD.av c), .c (.int .i64 v), addF] (stA o c v))
def bcel (c : CellD) : Blk := .r 26 2 1 [[.c (.int .i64 c.count), .c (.int .i64 c.sum)]]
def berr (e : Int) : Blk := .r 33 1 1 [[.c (.int .i64 e)]]
attribute [push_cast] bcel berr
theorem flow_i (o : OpD) (c0 : CellD) (vs : List Int) (mc me : Nat) (hne : ¬ mc = me) (ht1 : 1 ≤ o.tag) (ht7 : o.tag ≤ 7) (hA : o.A ≤ 9223372036854775807) (hl : vs.length ≤ 1000) :
    AIter Try.prog 125 (flowCaps o vs mc me) ((flowS o c0 vs).2.1.map i1) (upd (upd (fun _ => none) mc (bcel c0)) me (berr 0))
      (fun A' => A' = upd (upd (fun _ => none) mc (bcel (flowS o c0 vs).1)) me (berr (flowS o c0 vs).2.2)) (fun _ => True) := by
  refine ⟨Ent_of Try.func125 (by kernel_rfl) rfl, ?_⟩
  intro lp J Jx hr B hap hJ
  have hen : ¬ me = mc := fun e => hne e.symm
  have hBc : B mc = none := hap.right (m := mc) (k := bcel c0) (by rw [upd_ne hne, upd_same])
  have hBe : B me = none := hap.right (m := me) (k := berr 0) (by rw [upd_same])
  clear hap
  refine ACall_of' Try.func125 rfl (Ent_of Try.func125 (by kernel_rfl) rfl) (by simp [Try.ntmps125]) ?_; simp only [Try.ntmps125, Try.results125]
  refine AW_seqX (σ := AV) (fun d => DoV o d) (fun d => [(0, .c (.func (.yield lp) #[] #[])), (1, .q (OpD.av o) 0), (2, .q [.l 1 (vs.map i1)] 0), (3, .q [.p mc 2 0 0] 0), (4, .q [.p me 1 0 0] 0), (6, d)]) (fun _ => join (upd (upd (fun _ => none) mc (bcel c0)) me (berr 0)) B) ?_ ?_
  · have h7 := tags o.tag
    have hs1 := step1_p o
    have hs3 := step3_p o
    have hs4 := step4_p o
    have hs5 := step5_p o
    have hs6 := step6_p o
    replace hr := Lib.hid hr
    obtain ⟨t, w, l, A, B'⟩ := o
    simp only at ht1 ht7 hA h7 hs1 hs3 hs4 hs5 hs6
    have hst := steps_p
    rcases h7 with rfl | rfl | rfl | rfl | rfl | rfl | rfl | h
    rotate_right
    · exfalso; omega
    · have hd : DoV ⟨1, w, l, A, B'⟩ (fn0 134) := .inl ⟨_, rfl, fun c v => hs1 c v (by decide) (by decide) (by decide) (by decide)⟩
      replace hd := Lib.hid hd
      clear hs1 hs3 hs4 hs5 hs6
      repeat' (first
    | refine AW_seq_kn fun K hK => ?_
    | refine AW_block ?_
    | (refine does_call rfl rfl ?_; simp only [push_cast, seval, *]; refine ACall.monoP (hst _) ?_; (try simp only [push_cast, seval, *]))
    | ((first
      | refine AW_region_draw (id := 0) E0 (fun f => [].contains f) [(1, false, []), (2, true, []), (0, false, [2]), (3, false, []), (4, false, [])] [[], [], [1], [0, 1, 2], [0, 1, 2, 3]] mixed (by kernel_rfl) ?_
      | refine AW_region_draw (id := 6) E0 (fun f => [].contains f) dLE0 dAE0 mixed (by kernel_rfl) ?_
      | refine AW_region E0 ?_ | refine AW_ret ?_ | refine AW_exit ?_ | refine AW_skip ?_ | unfold retQ); try simp only [push_cast, seval, *])
    | ((first | (apply AW_cond; (case hc => (simp only [push_cast, seval]; rfl))) | (apply ER_guard; (case hb => (simp only [push_cast, seval]; rfl)))); all_goals ((intro hc; first | (exfalso; simp only [push_cast, seval, *] at hc; done) | (exact absurd hc (by decide)) | ((try first | rw [Bool.not_true] at hc | rw [Bool.not_false] at hc); first | (with_reducible replace hc := tTT hc); clear hc | (with_reducible replace hc := tFF hc); clear hc | (have hp := hc; try simp only [decide_eq_true_eq, decide_eq_false_iff_not, bA, bB, bC, bD, bE, bF, bG, bH] at hp))) <;> try simp only [push_cast, seval, *]))
    | (refine Kn.go hK ?_; clear hK K)
    | refine Kn.go (by assumption) ?_
    | (intro n hn; (try simp only [upd_none2, join_none_iff, ite_none, ne_eq] at hn); (try simp only [push_cast, seval, *]))
    | (intro hc)
    | (apply ER_blk; (case hp => rfl); (case hb => (simp only [push_cast, seval]; rfl)); (case hd => (simp only [push_cast, seval]; done)); (case h => (intro hc; simp only [push_cast, seval, *]; rfl)); simp only [push_cast, seval, *])
    | fail)
      exact ⟨_, unhid hd, by (first | trivial | (simp only [push_cast, seval, *]; done)), by (first | trivial | ((simp only [push_cast, seval, *]); repeat' (first | rfl | exact Heap.le_refl _ | refine And.intro ?_ ?_)) | rfl | exact ⟨rfl, rfl⟩ | exact ⟨rfl, rfl, rfl⟩ | exact Heap.le_refl _)⟩
    · have hd : DoV ⟨2, w, l, A, B'⟩ (fn0 136) := .inl ⟨_, rfl, fun c v => hs3 c v rfl⟩
      replace hd := Lib.hid hd
      clear hs1 hs3 hs4 hs5 hs6
      repeat' (first
    | refine AW_seq_kn fun K hK => ?_
    | refine AW_block ?_
    | (refine does_call rfl rfl ?_; simp only [push_cast, seval, *]; refine ACall.monoP (hst _) ?_; (try simp only [push_cast, seval, *]))
    | ((first
      | refine AW_region_draw (id := 0) E0 (fun f => [].contains f) [(1, false, []), (2, true, []), (0, false, [2]), (3, false, []), (4, false, [])] [[], [], [1], [0, 1, 2], [0, 1, 2, 3]] mixed (by kernel_rfl) ?_
      | refine AW_region_draw (id := 6) E0 (fun f => [].contains f) dLE0 dAE0 mixed (by kernel_rfl) ?_
      | refine AW_region E0 ?_ | refine AW_ret ?_ | refine AW_exit ?_ | refine AW_skip ?_ | unfold retQ); try simp only [push_cast, seval, *])
    | ((first | (apply AW_cond; (case hc => (simp only [push_cast, seval]; rfl))) | (apply ER_guard; (case hb => (simp only [push_cast, seval]; rfl)))); all_goals ((intro hc; first | (exfalso; simp only [push_cast, seval, *] at hc; done) | (exact absurd hc (by decide)) | ((try first | rw [Bool.not_true] at hc | rw [Bool.not_false] at hc); first | (with_reducible replace hc := tTT hc); clear hc | (with_reducible replace hc := tFF hc); clear hc | (have hp := hc; try simp only [decide_eq_true_eq, decide_eq_false_iff_not, bA, bB, bC, bD, bE, bF, bG, bH] at hp))) <;> try simp only [push_cast, seval, *]))
    | (refine Kn.go hK ?_; clear hK K)
    | refine Kn.go (by assumption) ?_
    | (intro n hn; (try simp only [upd_none2, join_none_iff, ite_none, ne_eq] at hn); (try simp only [push_cast, seval, *]))
    | (intro hc)
    | (apply ER_blk; (case hp => rfl); (case hb => (simp only [push_cast, seval]; rfl)); (case hd => (simp only [push_cast, seval]; done)); (case h => (intro hc; simp only [push_cast, seval, *]; rfl)); simp only [push_cast, seval, *])
    | fail)
      exact ⟨_, unhid hd, by (first | trivial | (simp only [push_cast, seval, *]; done)), by (first | trivial | ((simp only [push_cast, seval, *]); repeat' (first | rfl | exact Heap.le_refl _ | refine And.intro ?_ ?_)) | rfl | exact ⟨rfl, rfl⟩ | exact ⟨rfl, rfl, rfl⟩ | exact Heap.le_refl _)⟩
    · have hd : DoV ⟨3, w, l, A, B'⟩ (fn0 137) := .inl ⟨_, rfl, fun c v => hs4 c v rfl hA⟩
      replace hd := Lib.hid hd
      clear hs1 hs3 hs4 hs5 hs6
      repeat' (first
    | refine AW_seq_kn fun K hK => ?_
    | refine AW_block ?_
    | (refine does_call rfl rfl ?_; simp only [push_cast, seval, *]; refine ACall.monoP (hst _) ?_; (try simp only [push_cast, seval, *]))
    | ((first
      | refine AW_region_draw (id := 0) E0 (fun f => [].contains f) [(1, false, []), (2, true, []), (0, false, [2]), (3, false, []), (4, false, [])] [[], [], [1], [0, 1, 2], [0, 1, 2, 3]] mixed (by kernel_rfl) ?_
      | refine AW_region_draw (id := 6) E0 (fun f => [].contains f) dLE0 dAE0 mixed (by kernel_rfl) ?_
      | refine AW_region E0 ?_ | refine AW_ret ?_ | refine AW_exit ?_ | refine AW_skip ?_ | unfold retQ); try simp only [push_cast, seval, *])
    | ((first | (apply AW_cond; (case hc => (simp only [push_cast, seval]; rfl))) | (apply ER_guard; (case hb => (simp only [push_cast, seval]; rfl)))); all_goals ((intro hc; first | (exfalso; simp only [push_cast, seval, *] at hc; done) | (exact absurd hc (by decide)) | ((try first | rw [Bool.not_true] at hc | rw [Bool.not_false] at hc); first | (with_reducible replace hc := tTT hc); clear hc | (with_reducible replace hc := tFF hc); clear hc | (have hp := hc; try simp only [decide_eq_true_eq, decide_eq_false_iff_not, bA, bB, bC, bD, bE, bF, bG, bH] at hp))) <;> try simp only [push_cast, seval, *]))
    | (refine Kn.go hK ?_; clear hK K)
    | refine Kn.go (by assumption) ?_
    | (intro n hn; (try simp only [upd_none2, join_none_iff, ite_none, ne_eq] at hn); (try simp only [push_cast, seval, *]))
    | (intro hc)
    | (apply ER_blk; (case hp => rfl); (case hb => (simp only [push_cast, seval]; rfl)); (case hd => (simp only [push_cast, seval]; done)); (case h => (intro hc; simp only [push_cast, seval, *]; rfl)); simp only [push_cast, seval, *])
    | fail)
      exact ⟨_, unhid hd, by (first | trivial | (simp only [push_cast, seval, *]; done)), by (first | trivial | ((simp only [push_cast, seval, *]); repeat' (first | rfl | exact Heap.le_refl _ | refine And.intro ?_ ?_)) | rfl | exact ⟨rfl, rfl⟩ | exact ⟨rfl, rfl, rfl⟩ | exact Heap.le_refl _)⟩
    · have hd : DoV ⟨4, w, l, A, B'⟩ (fnv 138 [addF]) := .inr ⟨_, rfl, fun c v => hs5 c v rfl⟩
      replace hd := Lib.hid hd
      clear hs1 hs3 hs4 hs5 hs6
      repeat' (first
    | refine AW_seq_kn fun K hK => ?_
    | refine AW_block ?_
    | (refine does_call rfl rfl ?_; simp only [push_cast, seval, *]; refine ACall.monoP (hst _) ?_; (try simp only [push_cast, seval, *]))
    | ((first
      | refine AW_region_draw (id := 0) E0 (fun f => [].contains f) [(1, false, []), (2, true, []), (0, false, [2]), (3, false, []), (4, false, [])] [[], [], [1], [0, 1, 2], [0, 1, 2, 3]] mixed (by kernel_rfl) ?_
      | refine AW_region_draw (id := 6) E0 (fun f => [].contains f) dLE0 dAE0 mixed (by kernel_rfl) ?_
      | refine AW_region E0 ?_ | refine AW_ret ?_ | refine AW_exit ?_ | refine AW_skip ?_ | unfold retQ); try simp only [push_cast, seval, *])
    | ((first | (apply AW_cond; (case hc => (simp only [push_cast, seval]; rfl))) | (apply ER_guard; (case hb => (simp only [push_cast, seval]; rfl)))); all_goals ((intro hc; first | (exfalso; simp only [push_cast, seval, *] at hc; done) | (exact absurd hc (by decide)) | ((try first | rw [Bool.not_true] at hc | rw [Bool.not_false] at hc); first | (with_reducible replace hc := tTT hc); clear hc | (with_reducible replace hc := tFF hc); clear hc | (have hp := hc; try simp only [decide_eq_true_eq, decide_eq_false_iff_not, bA, bB, bC, bD, bE, bF, bG, bH] at hp))) <;> try simp only [push_cast, seval, *]))
    | (refine Kn.go hK ?_; clear hK K)
    | refine Kn.go (by assumption) ?_
    | (intro n hn; (try simp only [upd_none2, join_none_iff, ite_none, ne_eq] at hn); (try simp only [push_cast, seval, *]))
    | (intro hc)
    | (apply ER_blk; (case hp => rfl); (case hb => (simp only [push_cast, seval]; rfl)); (case hd => (simp only [push_cast, seval]; done)); (case h => (intro hc; simp only [push_cast, seval, *]; rfl)); simp only [push_cast, seval, *])
    | fail)
      exact ⟨_, unhid hd, by (first | trivial | (simp only [push_cast, seval, *]; done)), by (first | trivial | ((simp only [push_cast, seval, *]); repeat' (first | rfl | exact Heap.le_refl _ | refine And.intro ?_ ?_)) | rfl | exact ⟨rfl, rfl⟩ | exact ⟨rfl, rfl, rfl⟩ | exact Heap.le_refl _)⟩
    · have hd : DoV ⟨5, w, l, A, B'⟩ (fnv 139 [addF]) := .inr ⟨_, rfl, fun c v => hs6 c v rfl⟩
      replace hd := Lib.hid hd
      clear hs1 hs3 hs4 hs5 hs6
      repeat' (first
    | refine AW_seq_kn fun K hK => ?_
    | refine AW_block ?_
    | (refine does_call rfl rfl ?_; simp only [push_cast, seval, *]; refine ACall.monoP (hst _) ?_; (try simp only [push_cast, seval, *]))
    | ((first
      | refine AW_region_draw (id := 0) E0 (fun f => [].contains f) [(1, false, []), (2, true, []), (0, false, [2]), (3, false, []), (4, false, [])] [[], [], [1], [0, 1, 2], [0, 1, 2, 3]] mixed (by kernel_rfl) ?_
      | refine AW_region_draw (id := 6) E0 (fun f => [].contains f) dLE0 dAE0 mixed (by kernel_rfl) ?_
      | refine AW_region E0 ?_ | refine AW_ret ?_ | refine AW_exit ?_ | refine AW_skip ?_ | unfold retQ); try simp only [push_cast, seval, *])
    | ((first | (apply AW_cond; (case hc => (simp only [push_cast, seval]; rfl))) | (apply ER_guard; (case hb => (simp only [push_cast, seval]; rfl)))); all_goals ((intro hc; first | (exfalso; simp only [push_cast, seval, *] at hc; done) | (exact absurd hc (by decide)) | ((try first | rw [Bool.not_true] at hc | rw [Bool.not_false] at hc); first | (with_reducible replace hc := tTT hc); clear hc | (with_reducible replace hc := tFF hc); clear hc | (have hp := hc; try simp only [decide_eq_true_eq, decide_eq_false_iff_not, bA, bB, bC, bD, bE, bF, bG, bH] at hp))) <;> try simp only [push_cast, seval, *]))
    | (refine Kn.go hK ?_; clear hK K)
    | refine Kn.go (by assumption) ?_
    | (intro n hn; (try simp only [upd_none2, join_none_iff, ite_none, ne_eq] at hn); (try simp only [push_cast, seval, *]))
    | (intro hc)
    | (apply ER_blk; (case hp => rfl); (case hb => (simp only [push_cast, seval]; rfl)); (case hd => (simp only [push_cast, seval]; done)); (case h => (intro hc; simp only [push_cast, seval, *]; rfl)); simp only [push_cast, seval, *])
    | fail)
      exact ⟨_, unhid hd, by (first | trivial | (simp only [push_cast, seval, *]; done)), by (first | trivial | ((simp only [push_cast, seval, *]); repeat' (first | rfl | exact Heap.le_refl _ | refine And.intro ?_ ?_)) | rfl | exact ⟨rfl, rfl⟩ | exact ⟨rfl, rfl, rfl⟩ | exact Heap.le_refl _)⟩
    · have hd : DoV ⟨6, w, l, A, B'⟩ (fn0 134) := .inl ⟨_, rfl, fun c v => hs1 c v (by decide) (by decide) (by decide) (by decide)⟩
      replace hd := Lib.hid hd
      clear hs1 hs3 hs4 hs5 hs6
      repeat' (first
    | refine AW_seq_kn fun K hK => ?_
    | refine AW_block ?_
    | (refine does_call rfl rfl ?_; simp only [push_cast, seval, *]; refine ACall.monoP (hst _) ?_; (try simp only [push_cast, seval, *]))
    | ((first
      | refine AW_region_draw (id := 0) E0 (fun f => [].contains f) [(1, false, []), (2, true, []), (0, false, [2]), (3, false, []), (4, false, [])] [[], [], [1], [0, 1, 2], [0, 1, 2, 3]] mixed (by kernel_rfl) ?_
      | refine AW_region_draw (id := 6) E0 (fun f => [].contains f) dLE0 dAE0 mixed (by kernel_rfl) ?_
      | refine AW_region E0 ?_ | refine AW_ret ?_ | refine AW_exit ?_ | refine AW_skip ?_ | unfold retQ); try simp only [push_cast, seval, *])
    | ((first | (apply AW_cond; (case hc => (simp only [push_cast, seval]; rfl))) | (apply ER_guard; (case hb => (simp only [push_cast, seval]; rfl)))); all_goals ((intro hc; first | (exfalso; simp only [push_cast, seval, *] at hc; done) | (exact absurd hc (by decide)) | ((try first | rw [Bool.not_true] at hc | rw [Bool.not_false] at hc); first | (with_reducible replace hc := tTT hc); clear hc | (with_reducible replace hc := tFF hc); clear hc | (have hp := hc; try simp only [decide_eq_true_eq, decide_eq_false_iff_not, bA, bB, bC, bD, bE, bF, bG, bH] at hp))) <;> try simp only [push_cast, seval, *]))
    | (refine Kn.go hK ?_; clear hK K)
    | refine Kn.go (by assumption) ?_
    | (intro n hn; (try simp only [upd_none2, join_none_iff, ite_none, ne_eq] at hn); (try simp only [push_cast, seval, *]))
    | (intro hc)
    | (apply ER_blk; (case hp => rfl); (case hb => (simp only [push_cast, seval]; rfl)); (case hd => (simp only [push_cast, seval]; done)); (case h => (intro hc; simp only [push_cast, seval, *]; rfl)); simp only [push_cast, seval, *])
    | fail)
      exact ⟨_, unhid hd, by (first | trivial | (simp only [push_cast, seval, *]; done)), by (first | trivial | ((simp only [push_cast, seval, *]); repeat' (first | rfl | exact Heap.le_refl _ | refine And.intro ?_ ?_)) | rfl | exact ⟨rfl, rfl⟩ | exact ⟨rfl, rfl, rfl⟩ | exact Heap.le_refl _)⟩
    · have hd : DoV ⟨7, w, l, A, B'⟩ (fn0 134) := .inl ⟨_, rfl, fun c v => hs1 c v (by decide) (by decide) (by decide) (by decide)⟩
      replace hd := Lib.hid hd
      clear hs1 hs3 hs4 hs5 hs6
      repeat' (first
    | refine AW_seq_kn fun K hK => ?_
    | refine AW_block ?_
    | (refine does_call rfl rfl ?_; simp only [push_cast, seval, *]; refine ACall.monoP (hst _) ?_; (try simp only [push_cast, seval, *]))
    | ((first
      | refine AW_region_draw (id := 0) E0 (fun f => [].contains f) [(1, false, []), (2, true, []), (0, false, [2]), (3, false, []), (4, false, [])] [[], [], [1], [0, 1, 2], [0, 1, 2, 3]] mixed (by kernel_rfl) ?_
      | refine AW_region_draw (id := 6) E0 (fun f => [].contains f) dLE0 dAE0 mixed (by kernel_rfl) ?_
      | refine AW_region E0 ?_ | refine AW_ret ?_ | refine AW_exit ?_ | refine AW_skip ?_ | unfold retQ); try simp only [push_cast, seval, *])
    | ((first | (apply AW_cond; (case hc => (simp only [push_cast, seval]; rfl))) | (apply ER_guard; (case hb => (simp only [push_cast, seval]; rfl)))); all_goals ((intro hc; first | (exfalso; simp only [push_cast, seval, *] at hc; done) | (exact absurd hc (by decide)) | ((try first | rw [Bool.not_true] at hc | rw [Bool.not_false] at hc); first | (with_reducible replace hc := tTT hc); clear hc | (with_reducible replace hc := tFF hc); clear hc | (have hp := hc; try simp only [decide_eq_true_eq, decide_eq_false_iff_not, bA, bB, bC, bD, bE, bF, bG, bH] at hp))) <;> try simp only [push_cast, seval, *]))
    | (refine Kn.go hK ?_; clear hK K)
    | refine Kn.go (by assumption) ?_
    | (intro n hn; (try simp only [upd_none2, join_none_iff, ite_none, ne_eq] at hn); (try simp only [push_cast, seval, *]))
    | (intro hc)
    | (apply ER_blk; (case hp => rfl); (case hb => (simp only [push_cast, seval]; rfl)); (case hd => (simp only [push_cast, seval]; done)); (case h => (intro hc; simp only [push_cast, seval, *]; rfl)); simp only [push_cast, seval, *])
    | fail)
      exact ⟨_, unhid hd, by (first | trivial | (simp only [push_cast, seval, *]; done)), by (first | trivial | ((simp only [push_cast, seval, *]); repeat' (first | rfl | exact Heap.le_refl _ | refine And.intro ?_ ?_)) | rfl | exact ⟨rfl, rfl⟩ | exact ⟨rfl, rfl, rfl⟩ | exact Heap.le_refl _)⟩
  rintro d hd
  have hz : (flowS o c0 (vs.take 0)) = (c0, [], 0) := by simp [flowS]
  rcases hd with ⟨f, hd, hf⟩ | ⟨f, hd, hf⟩
  all_goals
    replace hr := Lib.hid hr
    repeat' (first
    | refine AW_seq_kn fun K hK => ?_
    | refine AW_block ?_
    | ((first
      | refine AW_region_draw (id := 0) E0 (fun f => [].contains f) [(1, false, []), (2, true, []), (0, false, [2]), (3, false, []), (4, false, [])] [[], [], [1], [0, 1, 2], [0, 1, 2, 3]] mixed (by kernel_rfl) ?_
      | refine AW_region_draw (id := 6) E0 (fun f => [].contains f) dLE0 dAE0 mixed (by kernel_rfl) ?_
      | refine AW_region E0 ?_ | refine AW_ret ?_ | refine AW_exit ?_ | refine AW_skip ?_ | unfold retQ); try simp only [push_cast, seval, *])
    | ((first | (apply AW_cond; (case hc => (simp only [push_cast, seval]; rfl))) | (apply ER_guard; (case hb => (simp only [push_cast, seval]; rfl)))); all_goals ((intro hc; first | (exfalso; simp only [push_cast, seval, *] at hc; done) | (exact absurd hc (by decide)) | ((try first | rw [Bool.not_true] at hc | rw [Bool.not_false] at hc); first | (with_reducible replace hc := tTT hc); clear hc | (with_reducible replace hc := tFF hc); clear hc | (have hp := hc; try simp only [decide_eq_true_eq, decide_eq_false_iff_not, bA, bB, bC, bD, bE, bF, bG, bH] at hp))) <;> try simp only [push_cast, seval, *]))
    | (refine Kn.go hK ?_; clear hK K)
    | refine Kn.go (by assumption) ?_
    | (intro n hn; (try simp only [upd_none2, join_none_iff, ite_none, ne_eq] at hn); (try simp only [push_cast, seval, *]))
    | (intro hc)
    | (apply ER_blk; (case hp => rfl); (case hb => (simp only [push_cast, seval]; rfl)); (case hd => (simp only [push_cast, seval]; done)); (case h => (intro hc; simp only [push_cast, seval, *]; rfl)); simp only [push_cast, seval, *])
    | fail)
    refine AW_loopX (σ := Heap) vs.length (fun k B => (flowS o c0 (vs.take k)).2.2 = 0 ∧ J (flowS o c0 (vs.take k)).2.1.length B ∧ B mc = none ∧ B me = none) (fun k _ => [(0, .c (.func (.yield lp) #[] #[])), (1, .q (OpD.av o) 0), (3, .q [.p mc 2 0 0] 0), (4, .q [.p me 1 0 0] 0), (6, d), (16, .l 1 (vs.map i1)), (17, ci vs.length), (18, ci k)]) (fun k B => join (upd (upd (fun _ => none) mc (bcel (flowS o c0 (vs.take k)).1)) me (berr 0)) B) B ⟨by rw [hz], by rw [hz]; exact hJ, hBc, hBe⟩ ?_ ?_ ?_ ?_
    · (first | trivial | (simp only [push_cast, seval, *]; done))
    · rw [hz]; exact Heap.le_refl _
    · rintro k B1 hk ⟨hg, hJ1, hB1c, hB1e⟩
      subst hd
      have hv := List.getElem?_eq_getElem (l := vs) hk; generalize vs[k] = v at hv; have hvm := List.mem_of_getElem? hv; have hkl : (k : Int) < vs.length := (by omega); have hkw : IntKind.i64.wrap ((k : Int) + 1) = (k : Int) + 1 := wrap_i64 (by omega) (by omega)
      clear hBc hBe hJ hz
      have hsn : flowS o c0 (vs.take (k + 1)) = fstep o (flowS o c0 (vs.take k)) v := by rw [take_succ hv, flowS_snoc]
      have hall : flowS o c0 vs = ((flowS o (flowS o c0 (vs.take k)).1 (v :: vs.drop (k + 1))).1, (flowS o c0 (vs.take k)).2.1 ++ (flowS o (flowS o c0 (vs.take k)).1 (v :: vs.drop (k + 1))).2.1, (flowS o (flowS o c0 (vs.take k)).1 (v :: vs.drop (k + 1))).2.2) := by
        rw [← flowS_app o c0 _ _ hg, ← drop_get hv, List.take_append_drop]
      rw [hsn]
      generalize flowS o c0 (vs.take k) = S at *
      obtain ⟨⟨n, s⟩, out, e⟩ := S
      simp only at hg hJ1 hall
      subst hg
      have hi1 : i1 v = [.c (.int .i64 v)] := rfl
      have hoo : List.take 5 (OpD.av o) = OpD.av o := rfl
      have hol : (OpD.av o).length = 5 := rfl
      by_cases hm : n = 9223372036854775807
      · rw [flowS_full _ _ _ _ hm] at hall
        have hJ2 : J (flowS o c0 vs).2.1.length B1 := by rw [hall]; simpa using hJ1
        replace hall := Lib.hid hall
        replace hsn := Lib.hid hsn
        replace hJ2 := Lib.hid hJ2
        replace hJ1 := Lib.hid hJ1
        have hmT : (n = 9223372036854775807) = True := by simp [hm]
        clear hm hf
        repeat' (first
    | refine AW_seq_kn fun K hK => ?_
    | refine AW_block ?_
    | ((first
      | refine AW_region_draw (id := 0) E0 (fun f => [].contains f) [(1, false, []), (2, true, []), (0, false, [2]), (3, false, []), (4, false, [])] [[], [], [1], [0, 1, 2], [0, 1, 2, 3]] mixed (by kernel_rfl) ?_
      | refine AW_region_draw (id := 6) E0 (fun f => [].contains f) dLE0 dAE0 mixed (by kernel_rfl) ?_
      | refine AW_region E0 ?_ | refine AW_ret ?_ | refine AW_exit ?_ | refine AW_skip ?_ | unfold retQ); try simp only [push_cast, seval, *])
    | ((first | (apply AW_cond; (case hc => (simp only [push_cast, seval]; rfl))) | (apply ER_guard; (case hb => (simp only [push_cast, seval]; rfl)))); all_goals ((intro hc; first | (exfalso; simp only [push_cast, seval, *] at hc; done) | (exact absurd hc (by decide)) | ((try first | rw [Bool.not_true] at hc | rw [Bool.not_false] at hc); first | (with_reducible replace hc := tTT hc); clear hc | (with_reducible replace hc := tFF hc); clear hc | (have hp := hc; try simp only [decide_eq_true_eq, decide_eq_false_iff_not, bA, bB, bC, bD, bE, bF, bG, bH] at hp))) <;> try simp only [push_cast, seval, *]))
    | (refine Kn.go hK ?_; clear hK K)
    | refine Kn.go (by assumption) ?_
    | (intro n hn; (try simp only [upd_none2, join_none_iff, ite_none, ne_eq] at hn); (try simp only [push_cast, seval, *]))
    | (intro hc)
    | (apply ER_blk; (case hp => rfl); (case hb => (simp only [push_cast, seval]; rfl)); (case hd => (simp only [push_cast, seval]; done)); (case h => (intro hc; simp only [push_cast, seval, *]; rfl)); simp only [push_cast, seval, *])
    | fail)
        refine ⟨_, join (upd (upd (fun _ => none) mc (bcel ⟨n, s⟩)) me (berr 6)) B1, Weak.less (Heap.le_join (le_two ?_ ?_) (Heap.le_refl _) ?_), _, B1, rfl, ?_, .inl ⟨by rw [unhid hall]; rfl, unhid hJ2⟩⟩
        · simp only [push_cast, seval, *]
        · simp only [push_cast, seval, *]
        · (repeat' (first | assumption | exact Apart.emp _ | (refine Apart.upd ?_ _ ?_; rotate_left 1; focus (first | assumption | (simp only [upd_none2, join_none_iff, ite_none, ne_eq, and_self, and_true, true_and, not_false_eq_true, *]; done)))))
        · (repeat' (first | assumption | exact Apart.emp _ | (refine Apart.upd ?_ _ ?_; rotate_left 1; focus (first | assumption | (simp only [upd_none2, join_none_iff, ite_none, ne_eq, and_self, and_true, true_and, not_false_eq_true, *]; done)))))
      · rw [flowS_cons _ _ _ _ hm] at hall
        have hfs : fstep o (⟨n, s⟩, out, 0) v = ((stepS o ⟨n, s⟩ v).1, out ++ (if (stepS o ⟨n, s⟩ v).2.2 then [(stepS o ⟨n, s⟩ v).2.1] else []), 0) := by unfold fstep; rw [if_neg (by simp), if_neg hm]
        rw [hfs]
        have hf2 := hf ⟨n, s⟩ v
        unfold stA at hf2
        rw [hfs] at hsn
        generalize stepS o ⟨n, s⟩ v = T at *
        obtain ⟨⟨n', s'⟩, y, co⟩ := T
        simp only [CellD.av] at hf2
        simp only at hall hsn
        clear hf hfs
        replace hsn := Lib.hid hsn
        cases co
        · simp only [Bool.false_eq_true, if_false, List.append_nil]
          replace hall := Lib.hid hall
          replace hJ1 := Lib.hid hJ1
          repeat' (first
    | refine AW_seq_kn fun K hK => ?_
    | refine AW_block ?_
    | (refine does_call rfl (by first | rfl | (simp only [push_cast, seval]; rfl)) ?_; simp only [push_cast, seval, *]; refine (hf2 _).mono ?_; (rintro _ _ ⟨rfl, e2⟩; have e3 := e2.symm; clear e2; subst e3); (try simp only [push_cast, seval, *]))
    | (refine does_call_f rfl (by simp only [push_cast, seval]; rfl) ?_; simp only [push_cast, seval, *]; refine (hf2 _).mono ?_; (rintro _ _ ⟨rfl, e2⟩; have e3 := e2.symm; clear e2; subst e3); (try simp only [push_cast, seval, *]))
    | ((first
      | refine AW_region_draw (id := 0) E0 (fun f => [].contains f) [(1, false, []), (2, true, []), (0, false, [2]), (3, false, []), (4, false, [])] [[], [], [1], [0, 1, 2], [0, 1, 2, 3]] mixed (by kernel_rfl) ?_
      | refine AW_region_draw (id := 6) E0 (fun f => [].contains f) dLE0 dAE0 mixed (by kernel_rfl) ?_
      | refine AW_region E0 ?_ | refine AW_ret ?_ | refine AW_exit ?_ | refine AW_skip ?_ | unfold retQ); try simp only [push_cast, seval, *])
    | ((first | (apply AW_cond; (case hc => (simp only [push_cast, seval]; rfl))) | (apply ER_guard; (case hb => (simp only [push_cast, seval]; rfl)))); all_goals ((intro hc; first | (exfalso; simp only [push_cast, seval, *] at hc; done) | (exact absurd hc (by decide)) | ((try first | rw [Bool.not_true] at hc | rw [Bool.not_false] at hc); first | (with_reducible replace hc := tTT hc); clear hc | (with_reducible replace hc := tFF hc); clear hc | (have hp := hc; try simp only [decide_eq_true_eq, decide_eq_false_iff_not, bA, bB, bC, bD, bE, bF, bG, bH] at hp))) <;> try simp only [push_cast, seval, *]))
    | (refine Kn.go hK ?_; clear hK K)
    | refine Kn.go (by assumption) ?_
    | (intro n hn; (try simp only [upd_none2, join_none_iff, ite_none, ne_eq] at hn); (try simp only [push_cast, seval, *]))
    | (intro hc)
    | (apply ER_blk; (case hp => rfl); (case hb => (simp only [push_cast, seval]; rfl)); (case hd => (simp only [push_cast, seval]; done)); (case h => (intro hc; simp only [push_cast, seval, *]; rfl)); simp only [push_cast, seval, *])
    | fail)
          refine ⟨B1, ⟨unhid hJ1, hB1c, hB1e⟩, by (first | trivial | (simp only [push_cast, seval, *]; done)), Heap.le_join (le_two ?_ ?_) (Heap.le_refl _) ?_⟩
          · simp only [push_cast, seval, *]
          · simp only [push_cast, seval, *]
          · (repeat' (first | assumption | exact Apart.emp _ | (refine Apart.upd ?_ _ ?_; rotate_left 1; focus (first | assumption | (simp only [upd_none2, join_none_iff, ite_none, ne_eq, and_self, and_true, true_and, not_false_eq_true, *]; done)))))
        · simp only [if_true]
          have hx' : (flowS o c0 vs).2.1[out.length]? = some y := by rw [hall]; simp
          have hy := yieldM (unhid hr) hx' hJ1
          simp only [i1] at hy
          replace hall := Lib.hid hall
          replace hJ1 := Lib.hid hJ1
          have hlo : (out ++ [y]).length = out.length + 1 := by simp
          clear hx'
          repeat' (first
    | refine AW_seq_kn fun K hK => ?_
    | refine AW_block ?_
    | (refine does_call rfl (by first | rfl | (simp only [push_cast, seval]; rfl)) ?_; simp only [push_cast, seval, *]; refine (hf2 _).mono ?_; (rintro _ _ ⟨rfl, e2⟩; have e3 := e2.symm; clear e2; subst e3); (try simp only [push_cast, seval, *]))
    | (refine does_call_f rfl (by simp only [push_cast, seval]; rfl) ?_; simp only [push_cast, seval, *]; refine (hf2 _).mono ?_; (rintro _ _ ⟨rfl, e2⟩; have e3 := e2.symm; clear e2; subst e3); (try simp only [push_cast, seval, *]))
    | (refine does_yield rfl rfl ?_; simp only [push_cast, seval, *]; refine AYield.mono (AYield.frame ?hap hy) ?_; (case hap => (repeat' (first | assumption | exact Apart.emp _ | (refine Apart.upd ?_ _ ?_; rotate_left 1; focus (first | assumption | (simp only [upd_none2, join_none_iff, ite_none, ne_eq, and_self, and_true, true_and, not_false_eq_true, *]; done)))))); rintro b H' ⟨B', rfl, hap', (⟨rfl, hJ'⟩ | ⟨rfl, hJ'⟩)⟩ <;> (try simp only [push_cast, seval, *]))
    | ((first
      | refine AW_region_draw (id := 0) E0 (fun f => [].contains f) [(1, false, []), (2, true, []), (0, false, [2]), (3, false, []), (4, false, [])] [[], [], [1], [0, 1, 2], [0, 1, 2, 3]] mixed (by kernel_rfl) ?_
      | refine AW_region_draw (id := 6) E0 (fun f => [].contains f) dLE0 dAE0 mixed (by kernel_rfl) ?_
      | refine AW_region E0 ?_ | refine AW_ret ?_ | refine AW_exit ?_ | refine AW_skip ?_ | unfold retQ); try simp only [push_cast, seval, *])
    | ((first | (apply AW_cond; (case hc => (simp only [push_cast, seval]; rfl))) | (apply ER_guard; (case hb => (simp only [push_cast, seval]; rfl)))); all_goals ((intro hc; first | (exfalso; simp only [push_cast, seval, *] at hc; done) | (exact absurd hc (by decide)) | ((try first | rw [Bool.not_true] at hc | rw [Bool.not_false] at hc); first | (with_reducible replace hc := tTT hc); clear hc | (with_reducible replace hc := tFF hc); clear hc | (have hp := hc; try simp only [decide_eq_true_eq, decide_eq_false_iff_not, bA, bB, bC, bD, bE, bF, bG, bH] at hp))) <;> try simp only [push_cast, seval, *]))
    | (refine Kn.go hK ?_; clear hK K)
    | refine Kn.go (by assumption) ?_
    | (intro n hn; (try simp only [upd_none2, join_none_iff, ite_none, ne_eq] at hn); (try simp only [push_cast, seval, *]))
    | (intro hc)
    | (apply ER_blk; (case hp => rfl); (case hb => (simp only [push_cast, seval]; rfl)); (case hd => (simp only [push_cast, seval]; done)); (case h => (intro hc; simp only [push_cast, seval, *]; rfl)); simp only [push_cast, seval, *])
    | fail)
          · refine ⟨B', ⟨hJ', ?_, ?_⟩, by (first | trivial | (simp only [push_cast, seval, *]; done)), Heap.le_join (le_two ?_ ?_) (Heap.le_refl _) hap'⟩
            · refine hap'.right (m := mc) (k := bcel ⟨n', s'⟩) ?_; simp only [push_cast, seval, *]
            · refine hap'.right (m := me) (k := berr 0) ?_; simp only [push_cast, seval, *]
            · simp only [push_cast, seval, *]
            · simp only [push_cast, seval, *]
          · exact ⟨_, _, Weak.refl _ _, _, B', rfl, hap', .inr hJ'⟩
    · rintro B1 ⟨hg, hJ1, hB1c, hB1e⟩
      rw [List.take_length] at hg hJ1 ⊢
      have hJ2 : J (flowS o c0 vs).2.1.length B1 := hJ1
      replace hJ2 := Lib.hid hJ2
      clear hJ1 hJ hr hf
      replace hg := Lib.hid hg
      repeat' (first
    | refine AW_seq_kn fun K hK => ?_
    | refine AW_block ?_
    | ((first
      | refine AW_region_draw (id := 0) E0 (fun f => [].contains f) [(1, false, []), (2, true, []), (0, false, [2]), (3, false, []), (4, false, [])] [[], [], [1], [0, 1, 2], [0, 1, 2, 3]] mixed (by kernel_rfl) ?_
      | refine AW_region_draw (id := 6) E0 (fun f => [].contains f) dLE0 dAE0 mixed (by kernel_rfl) ?_
      | refine AW_region E0 ?_ | refine AW_ret ?_ | refine AW_exit ?_ | refine AW_skip ?_ | unfold retQ); try simp only [push_cast, seval, *])
    | ((first | (apply AW_cond; (case hc => (simp only [push_cast, seval]; rfl))) | (apply ER_guard; (case hb => (simp only [push_cast, seval]; rfl)))); all_goals ((intro hc; first | (exfalso; simp only [push_cast, seval, *] at hc; done) | (exact absurd hc (by decide)) | ((try first | rw [Bool.not_true] at hc | rw [Bool.not_false] at hc); first | (with_reducible replace hc := tTT hc); clear hc | (with_reducible replace hc := tFF hc); clear hc | (have hp := hc; try simp only [decide_eq_true_eq, decide_eq_false_iff_not, bA, bB, bC, bD, bE, bF, bG, bH] at hp))) <;> try simp only [push_cast, seval, *]))
    | (refine Kn.go hK ?_; clear hK K)
    | refine Kn.go (by assumption) ?_
    | (intro n hn; (try simp only [upd_none2, join_none_iff, ite_none, ne_eq] at hn); (try simp only [push_cast, seval, *]))
    | (intro hc)
    | (apply ER_blk; (case hp => rfl); (case hb => (simp only [push_cast, seval]; rfl)); (case hd => (simp only [push_cast, seval]; done)); (case h => (intro hc; simp only [push_cast, seval, *]; rfl)); simp only [push_cast, seval, *])
    | fail)
      refine ⟨_, _, Weak.refl _ _, upd (upd (fun _ => none) mc (bcel (flowS o c0 vs).1)) me (berr 0), B1, rfl, ?_, .inl ⟨by rw [unhid hg]; rfl, unhid hJ2⟩⟩
      (repeat' (first | assumption | exact Apart.emp _ | (refine Apart.upd ?_ _ ?_; rotate_left 1; focus (first | assumption | (simp only [upd_none2, join_none_iff, ite_none, ne_eq, and_self, and_true, true_and, not_false_eq_true, *]; done)))))
end Go.Proofs.Ytmkncbddjnaklaa
