/- Walks: whose groups. -/
import Derived.Test.YtmkncbddjnaklaaUA
namespace Go.Proofs.Ytmkncbddjnaklaa
open Go.RowKit
open Nat renaming reduceEqDiff → nA, reduceLT → nB, reduceLeDiff → nC, reduceAdd → nD, reduceMul → nE, reduceSub → nF, reduceBEq → nG
open Int renaming reduceToNat → iA, reduceLT → iB, reduceLE → iC, reduceEq → iD
open Bool renaming and_eq_true → bA, or_eq_true → bB, or_eq_false_iff → bC, and_eq_false_iff → bD, not_eq_true' → bE, not_eq_false' → bF, not_true → bG, not_false → bH
set_option linter.all false
set_option maxHeartbeats 4000000
attribute [local irreducible] AW Does ACall tE tS tB tZ
def dLUB0 : List En := [(0, false, []), (1, false, []), (3, true, []), (2, false, [3]), (4, false, []), (5, false, []), (6, false, []), (7, false, []), (8, false, []), (9, false, []), (10, false, [])]
def dAUB0 : List (List Nat) := [[], [], [0, 1], [], [0, 1, 2, 3], [0, 1, 2, 3, 4], [0, 1, 2, 3, 4, 5], [0, 1, 2, 3, 4, 5], [0, 1, 2, 3, 4, 5, 6, 7], [0, 1, 2, 3, 4, 5, 6, 7, 8], [0, 1, 2, 3, 4, 5, 6, 7, 8, 9]]
attribute [push_cast] dLUB0
def dLUB1 : List En := [(0, false, []), (1, false, []), (2, false, []), (3, false, []), (4, false, []), (5, false, []), (6, false, []), (7, false, []), (8, false, []), (9, false, []), (10, false, [])]
def dAUB1 : List (List Nat) := [[], [], [0, 1], [], [0, 1, 2, 3], [0, 1, 2, 3, 4], [0, 1, 2, 3, 4, 5], [0, 1, 2, 3, 4, 5], [0, 1, 2, 3, 4, 5, 6, 7], [0, 1, 2, 3, 4, 5, 6, 7, 8], [0, 1, 2, 3, 4, 5, 6, 7, 8, 9]]
attribute [push_cast] dLUB1

theorem owned_p (i w : Int) : Pure Try.prog 112 [ci i, ci w] (.f (.func 130) [] [.q [ci w] 0, .q [ci i] 0]) := by
  intro H
  refine ACall_of' Try.func112 rfl (Ent_of Try.func112 (by kernel_rfl) rfl) (by simp [Try.ntmps112]) ?_; simp only [Try.ntmps112, Try.results112]
  repeat' (first
    | refine AW_seq_kn fun K hK => ?_
    | refine AW_block ?_
    | ((first
      | refine AW_region E0 ?_ | refine AW_ret ?_ | refine AW_exit ?_ | refine AW_skip ?_ | unfold retQ); try simp only [push_cast, seval, *])
    | (apply AW_cond; (case hc => (simp only [push_cast, seval]; rfl)); all_goals (intro hc; first | (exfalso; simp only [push_cast, seval, *] at hc; done) | (exact absurd hc (by decide)) | ((try first | rw [Bool.not_true] at hc | rw [Bool.not_false] at hc); first | (with_reducible replace hc := tTT hc); clear hc | (with_reducible replace hc := tFF hc); clear hc | (have hp := hc; try simp only [decide_eq_true_eq, decide_eq_false_iff_not, bA, bB, bC, bD, bE, bF, bG, bH] at hp))))
    | (refine Kn.go hK ?_; clear hK K)
    | refine Kn.go (by assumption) ?_
    | (intro n hn; (try simp only [upd_none2, join_none_iff, ite_none, ne_eq] at hn); (try simp only [push_cast, seval, *]))
    | (intro hc)
    | fail)
  rename_i n1 h1
  refine ⟨_, _, ?_, rfl, rfl⟩
  (refine Weak.frzK n (by simp only [upd_get, del_get, if_true, if_false, reduceIte, *]; rfl) ?_; simp only [push_cast, frz, frzL, frzR, List.getElem?_cons_zero, List.length_cons, List.length_nil, List.drop_zero, and_self, and_true, true_and, and_false, false_and, if_true, if_false, reduceIte, Nat.reduceLeDiff, Nat.reduceAdd, Nat.reduceEqDiff, List.take_succ_cons, List.take_zero, List.take_nil, *])
  (refine Weak.frzK n1 (by simp only [upd_get, del_get, if_true, if_false, reduceIte, *]; rfl) ?_; simp only [push_cast, frz, frzL, frzR, List.getElem?_cons_zero, List.length_cons, List.length_nil, List.drop_zero, and_self, and_true, true_and, and_false, false_and, if_true, if_false, reduceIte, Nat.reduceLeDiff, Nat.reduceAdd, Nat.reduceEqDiff, List.take_succ_cons, List.take_zero, List.take_nil, *])
  exact Weak.less (by (simp only [push_cast, seval, *]))
def ownL (i w : Int) : List Nat := (List.range 8).filter fun g : Nat => decide (ownS g w = i)
theorem owned_i (i w : Int) : PIter Try.prog 130 [.q [ci w] 0, .q [ci i] 0] ((ownL i w).map fun g : Nat => [ci g]) := by
  refine ⟨Ent_of Try.func130 (by kernel_rfl) rfl, ?_⟩
  intro l J Jx hr B hJ
  obtain ⟨p, hpe, hol⟩ : ∃ p : Nat → Bool, (∀ g : Nat, p g = decide (ownS g w = i)) ∧ ownL i w = (List.range 8).filter p := ⟨_, fun _ => rfl, rfl⟩
  rw [hol] at hr ⊢
  clear hol
  refine ACall_of' Try.func130 rfl (Ent_of Try.func130 (by kernel_rfl) rfl) (by simp [Try.ntmps130]) ?_; simp only [Try.ntmps130, Try.results130]
  repeat' (first
    | refine AW_seq_kn fun K hK => ?_
    | refine AW_block ?_
    | ((first
      | refine AW_region_draw (id := 3) EK1 (fun f => [].contains f) dLUB0 dAUB0 mixed (by kernel_rfl) ?_
      | refine AW_region EK1 ?_ | refine AW_ret ?_ | refine AW_exit ?_ | refine AW_skip ?_ | unfold retQ); try simp only [push_cast, seval, *])
    | ((first | (apply AW_cond; (case hc => (simp only [push_cast, seval]; rfl))) | (apply ER_guard; (case hb => (simp only [push_cast, seval]; rfl)))); all_goals ((intro hc; first | (exfalso; simp only [push_cast, seval, *] at hc; done) | (exact absurd hc (by decide)) | ((try first | rw [Bool.not_true] at hc | rw [Bool.not_false] at hc); first | (with_reducible replace hc := tTT hc); clear hc | (with_reducible replace hc := tFF hc); clear hc | (have hp := hc; try simp only [decide_eq_true_eq, decide_eq_false_iff_not, bA, bB, bC, bD, bE, bF, bG, bH] at hp))) <;> try simp only [push_cast, seval, *]))
    | (refine Kn.go hK ?_; clear hK K)
    | refine Kn.go (by assumption) ?_
    | (intro n hn; (try simp only [upd_none2, join_none_iff, ite_none, ne_eq] at hn); (try simp only [push_cast, seval, *]))
    | (intro hc)
    | (apply ER_blk; (case hp => rfl); (case hb => (simp only [push_cast, seval]; rfl)); (case hd => (simp only [push_cast, seval]; done)); (case h => (intro hc; simp only [push_cast, seval, *]; rfl)); simp only [push_cast, seval, *])
    | fail)
  refine AW_loopX 8 (fun k (B : Heap) => J (cnt p (List.range 8) k) B) (fun k _ => [(0, .c (.func (.yield l) #[] #[])), (1, .q [ci w] 0), (2, .q [ci i] 0), (5, ci k)]) (fun _ B => B) B hJ ?_ ?_ ?_ ?_
  · (first | trivial | (simp only [push_cast, seval, *]; done))
  · (first | trivial | ((simp only [push_cast, seval, *]); repeat' (first | rfl | exact Heap.le_refl _ | refine And.intro ?_ ?_)) | rfl | exact ⟨rfl, rfl⟩ | exact ⟨rfl, rfl, rfl⟩ | exact Heap.le_refl _)
  · intro k B hk hJ
    have hkl : (k : Int) < 8 := (by omega); have hkw : IntKind.i64.wrap ((k : Int) + 1) = (k : Int) + 1 := wrap_i64 (by omega) (by omega)
    have hx : (List.range 8)[k]? = some k := by simp [hk]
    cases hp : decide (ownS k w = i)
    · repeat' (first
    | refine AW_seq_kn fun K hK => ?_
    | refine AW_block ?_
    | ((first
      | refine AW_region_draw (id := 3) EK1 (fun f => [92].contains f) dLUB1 dAUB1 mixed (by kernel_rfl) ?_
      | refine AW_region EK1 ?_ | refine AW_ret ?_ | refine AW_exit ?_ | refine AW_skip ?_ | unfold retQ); try simp only [push_cast, seval, *])
    | ((first | (apply AW_cond; (case hc => (simp only [push_cast, seval]; rfl))) | (apply ER_guard; (case hb => (simp only [push_cast, seval]; rfl)))); all_goals ((intro hc; first | (exfalso; simp only [push_cast, seval, *] at hc; done) | (exact absurd hc (by decide)) | ((try first | rw [Bool.not_true] at hc | rw [Bool.not_false] at hc); first | (with_reducible replace hc := tTT hc); clear hc | (with_reducible replace hc := tFF hc); clear hc | (have hp := hc; try simp only [decide_eq_true_eq, decide_eq_false_iff_not, bA, bB, bC, bD, bE, bF, bG, bH] at hp))) <;> try simp only [push_cast, seval, *]))
    | (refine Kn.go hK ?_; clear hK K)
    | refine Kn.go (by assumption) ?_
    | (intro n hn; (try simp only [upd_none2, join_none_iff, ite_none, ne_eq] at hn); (try simp only [push_cast, seval, *]))
    | (intro hc)
    | (apply ER_blk; (case hp => rfl); (case hb => (simp only [push_cast, seval]; rfl)); (case hd => (simp only [push_cast, seval]; done)); (case h => (intro hc; simp only [push_cast, seval, *]; rfl)); simp only [push_cast, seval, *])
    | fail)
      exact ⟨B, by rw [cnt_neg hx (by rw [hpe]; assumption)]; exact hJ, by (first | trivial | (simp only [push_cast, seval, *]; done)), by (first | trivial | ((simp only [push_cast, seval, *]); repeat' (first | rfl | exact Heap.le_refl _ | refine And.intro ?_ ?_)) | rfl | exact ⟨rfl, rfl⟩ | exact ⟨rfl, rfl, rfl⟩ | exact Heap.le_refl _)⟩
    · have hy := cnt_yield hr hx (by rw [hpe]; exact hp) hJ
      simp only [push_cast, seval] at hy
      repeat' (first
    | refine AW_seq_kn fun K hK => ?_
    | refine AW_block ?_
    | (refine does_yield rfl rfl ?_; simp only [push_cast, seval, *]; refine hy.mono ?_; rintro b B' (⟨rfl, hJ'⟩ | ⟨rfl, hJ'⟩) <;> (try simp only [push_cast, seval, *]))
    | ((first
      | refine AW_region_draw (id := 3) EK1 (fun f => [92].contains f) dLUB1 dAUB1 mixed (by kernel_rfl) ?_
      | refine AW_region EK1 ?_ | refine AW_ret ?_ | refine AW_exit ?_ | refine AW_skip ?_ | unfold retQ); try simp only [push_cast, seval, *])
    | ((first | (apply AW_cond; (case hc => (simp only [push_cast, seval]; rfl))) | (apply ER_guard; (case hb => (simp only [push_cast, seval]; rfl)))); all_goals ((intro hc; first | (exfalso; simp only [push_cast, seval, *] at hc; done) | (exact absurd hc (by decide)) | ((try first | rw [Bool.not_true] at hc | rw [Bool.not_false] at hc); first | (with_reducible replace hc := tTT hc); clear hc | (with_reducible replace hc := tFF hc); clear hc | (have hp := hc; try simp only [decide_eq_true_eq, decide_eq_false_iff_not, bA, bB, bC, bD, bE, bF, bG, bH] at hp))) <;> try simp only [push_cast, seval, *]))
    | (refine Kn.go hK ?_; clear hK K)
    | refine Kn.go (by assumption) ?_
    | (intro n hn; (try simp only [upd_none2, join_none_iff, ite_none, ne_eq] at hn); (try simp only [push_cast, seval, *]))
    | (intro hc)
    | (apply ER_blk; (case hp => rfl); (case hb => (simp only [push_cast, seval]; rfl)); (case hd => (simp only [push_cast, seval]; done)); (case h => (intro hc; simp only [push_cast, seval, *]; rfl)); simp only [push_cast, seval, *])
    | fail)
      · exact ⟨_, hJ', by (first | trivial | (simp only [push_cast, seval, *]; done)), by (first | trivial | ((simp only [push_cast, seval, *]); repeat' (first | rfl | exact Heap.le_refl _ | refine And.intro ?_ ?_)) | rfl | exact ⟨rfl, rfl⟩ | exact ⟨rfl, rfl, rfl⟩ | exact Heap.le_refl _)⟩
      · exact ⟨_, _, Weak.refl _ _, .inr hJ'⟩
  · intro B hJ
    repeat' (first
    | refine AW_seq_kn fun K hK => ?_
    | refine AW_block ?_
    | ((first
      | refine AW_region_draw (id := 3) EK1 (fun f => [].contains f) dLUB0 dAUB0 mixed (by kernel_rfl) ?_
      | refine AW_region EK1 ?_ | refine AW_ret ?_ | refine AW_exit ?_ | refine AW_skip ?_ | unfold retQ); try simp only [push_cast, seval, *])
    | ((first | (apply AW_cond; (case hc => (simp only [push_cast, seval]; rfl))) | (apply ER_guard; (case hb => (simp only [push_cast, seval]; rfl)))); all_goals ((intro hc; first | (exfalso; simp only [push_cast, seval, *] at hc; done) | (exact absurd hc (by decide)) | ((try first | rw [Bool.not_true] at hc | rw [Bool.not_false] at hc); first | (with_reducible replace hc := tTT hc); clear hc | (with_reducible replace hc := tFF hc); clear hc | (have hp := hc; try simp only [decide_eq_true_eq, decide_eq_false_iff_not, bA, bB, bC, bD, bE, bF, bG, bH] at hp))) <;> try simp only [push_cast, seval, *]))
    | (refine Kn.go hK ?_; clear hK K)
    | refine Kn.go (by assumption) ?_
    | (intro n hn; (try simp only [upd_none2, join_none_iff, ite_none, ne_eq] at hn); (try simp only [push_cast, seval, *]))
    | (intro hc)
    | (apply ER_blk; (case hp => rfl); (case hb => (simp only [push_cast, seval]; rfl)); (case hd => (simp only [push_cast, seval]; done)); (case h => (intro hc; simp only [push_cast, seval, *]; rfl)); simp only [push_cast, seval, *])
    | fail)
    exact ⟨_, _, Weak.refl _ _, .inl (by rw [← cnt_all (n := 8) (by simp)]; exact hJ)⟩
theorem appendSeq_int {α : Type} (enc : α → AV) (row : α → List AV) (hc : ∀ x, (enc x).cs = some (row x)) (hrow : ∀ x, (row x).length = 1) (l : List α) (hl : l.length ≤ 1000000) (gf : FuncId) (caps : List AV) (hit : PIter Try.prog gf caps (l.map fun x => [enc x])) :
    Pure Try.prog 129 [.c (.slice none 0 0), .f (.func gf) [] caps] (.l 1 (l.map row)) := by
  intro H
  refine ACall_of' Try.func129 rfl (Ent_of Try.func129 (by kernel_rfl) rfl) (by simp [Try.ntmps129]) ?_; simp only [Try.ntmps129, Try.results129]
  repeat' (first
    | refine AW_seq_kn fun K hK => ?_
    | refine AW_block ?_
    | ((first
      | refine AW_region E0 ?_ | refine AW_ret ?_ | refine AW_exit ?_ | refine AW_skip ?_ | unfold retQ); try simp only [push_cast, seval, *])
    | (apply AW_cond; (case hc => (simp only [push_cast, seval]; rfl)); all_goals (intro hc; first | (exfalso; simp only [push_cast, seval, *] at hc; done) | (exact absurd hc (by decide)) | ((try first | rw [Bool.not_true] at hc | rw [Bool.not_false] at hc); first | (with_reducible replace hc := tTT hc); clear hc | (with_reducible replace hc := tFF hc); clear hc | (have hp := hc; try simp only [decide_eq_true_eq, decide_eq_false_iff_not, bA, bB, bC, bD, bE, bF, bG, bH] at hp))))
    | (refine Kn.go hK ?_; clear hK K)
    | refine Kn.go (by assumption) ?_
    | (intro n hn; (try simp only [upd_none2, join_none_iff, ite_none, ne_eq] at hn); (try simp only [push_cast, seval, *]))
    | (intro hc)
    | fail)
  refine AW_rangeP rfl hit (by intro x hx; obtain ⟨y, _, rfl⟩ := List.mem_map.1 hx; rfl) (by simp) (fun k B => ∃ x, OwnL B x 3 1 ((l.take k).map row) (upd H n (.r 22 1 1 [[x]]))) (fun _ _ => False) ⟨_, (by first | exact .inl ⟨rfl, rfl, rfl⟩ | exact .inl ⟨⟨_, rfl⟩, rfl, rfl⟩)⟩ ?_ ?_ ?_
  · rintro k hk B ⟨x, hown⟩
    have hk' : k < l.length := by simpa using hk
    have hkt := hown.get (upd_same _ _ _)
    have hcs := hown.cs
    have hx := List.getElem?_eq_getElem hk'
    simp only [List.getElem_map]
    generalize l[k] = y at hx
    have hcy := hc y
    have hry := hrow y
    repeat' (first
    | refine AW_seq_kn fun K hK => ?_
    | refine AW_block ?_
    | ((first
      | refine AW_region E0 ?_ | refine AW_ret ?_ | refine AW_exit ?_ | refine AW_skip ?_ | unfold retQ); try simp only [push_cast, seval, *])
    | (apply AW_cond; (case hc => (simp only [push_cast, seval]; rfl)); all_goals (intro hc; first | (exfalso; simp only [push_cast, seval, *] at hc; done) | (exact absurd hc (by decide)) | ((try first | rw [Bool.not_true] at hc | rw [Bool.not_false] at hc); first | (with_reducible replace hc := tTT hc); clear hc | (with_reducible replace hc := tFF hc); clear hc | (have hp := hc; try simp only [decide_eq_true_eq, decide_eq_false_iff_not, bA, bB, bC, bD, bE, bF, bG, bH] at hp))))
    | (refine Kn.go hK ?_; clear hK K)
    | refine Kn.go (by assumption) ?_
    | (intro n hn; (try simp only [upd_none2, join_none_iff, ite_none, ne_eq] at hn); (try simp only [push_cast, seval, *]))
    | (intro hc)
    | fail)
    refine does_app1 rfl rfl rfl rfl hown hn tE22 tS3 tB3 tZ3 rfl (by decide) ?_ ?_ ?_
    · simp only [List.length_map, List.length_take, maxLen]; omega
    · simp only [List.length_map, List.length_take]; omega
    intro x' H' hown'
    have hkt' := hown'.get (upd_same _ _ _)
    have hcs' := hown'.cs
    (try simp only [push_cast, seval, *])
    refine ⟨x', ?_⟩
    have h := hown'.turn (upd_same _ _ _) (.r 22 1 1 [[x']])
    rw [upd_upd] at h
    rw [take_snoc_map row hx]
    exact h
  · rintro B ⟨x, hown⟩
    rw [List.length_map, List.take_length] at hown
    have hkt := hown.get (upd_same _ _ _)
    repeat' (first
    | refine AW_seq_kn fun K hK => ?_
    | refine AW_block ?_
    | ((first
      | refine AW_region E0 ?_ | refine AW_ret ?_ | refine AW_exit ?_ | refine AW_skip ?_ | unfold retQ); try simp only [push_cast, seval, *])
    | (apply AW_cond; (case hc => (simp only [push_cast, seval]; rfl)); all_goals (intro hc; first | (exfalso; simp only [push_cast, seval, *] at hc; done) | (exact absurd hc (by decide)) | ((try first | rw [Bool.not_true] at hc | rw [Bool.not_false] at hc); first | (with_reducible replace hc := tTT hc); clear hc | (with_reducible replace hc := tFF hc); clear hc | (have hp := hc; try simp only [decide_eq_true_eq, decide_eq_false_iff_not, bA, bB, bC, bD, bE, bF, bG, bH] at hp))))
    | (refine Kn.go hK ?_; clear hK K)
    | refine Kn.go (by assumption) ?_
    | (intro n hn; (try simp only [upd_none2, join_none_iff, ite_none, ne_eq] at hn); (try simp only [push_cast, seval, *]))
    | (intro hc)
    | fail)
    refine ⟨_, _, (hown.weak fun F F' hF hi _ => hi).trans (Weak.less (by (simp only [push_cast, seval, *]))), rfl, rfl⟩
  · exact fun _ _ h => h.elim

theorem collect_int {α : Type} (enc : α → AV) (row : α → List AV) (hc : ∀ x, (enc x).cs = some (row x)) (hrow : ∀ x, (row x).length = 1) (l : List α) (hl : l.length ≤ 1000000) (gf : FuncId) (caps : List AV) (hit : PIter Try.prog gf caps (l.map fun x => [enc x])) :
    Pure Try.prog 111 [.f (.func gf) [] caps] (.l 1 (l.map row)) := by
  intro H
  refine ACall_of' Try.func111 rfl (Ent_of Try.func111 (by kernel_rfl) rfl) (by simp [Try.ntmps111]) ?_; simp only [Try.ntmps111, Try.results111]
  repeat' (first
    | refine AW_seq_kn fun K hK => ?_
    | refine AW_block ?_
    | (refine does_call rfl rfl ?_; simp only [push_cast, seval]; refine ACall.monoP (appendSeq_int enc row hc hrow l hl gf caps hit _) ?_; (try simp only [push_cast, seval]))
    | ((first
      | refine AW_region E0 ?_ | refine AW_ret ?_ | refine AW_exit ?_ | refine AW_skip ?_ | unfold retQ); try simp only [push_cast, seval, *])
    | (apply AW_cond; (case hc => (simp only [push_cast, seval]; rfl)); all_goals (intro hc; first | (exfalso; simp only [push_cast, seval, *] at hc; done) | (exact absurd hc (by decide)) | ((try first | rw [Bool.not_true] at hc | rw [Bool.not_false] at hc); first | (with_reducible replace hc := tTT hc); clear hc | (with_reducible replace hc := tFF hc); clear hc | (have hp := hc; try simp only [decide_eq_true_eq, decide_eq_false_iff_not, bA, bB, bC, bD, bE, bF, bG, bH] at hp))))
    | (refine Kn.go hK ?_; clear hK K)
    | refine Kn.go (by assumption) ?_
    | (intro n hn; (try simp only [upd_none2, join_none_iff, ite_none, ne_eq] at hn); (try simp only [push_cast, seval, *]))
    | (intro hc)
    | fail)
  exact ⟨_, _, Weak.refl _ _, rfl, rfl⟩
theorem ownL_len (i w : Int) : (ownL i w).length ≤ 8 := by
  have := List.length_filter_le (fun g : Nat => decide (ownS g w = i)) (List.range 8)
  simpa [ownL] using this
def ownedS (i w : Int) : List Int := if shareS i w = true then (ownL i w).map fun g : Nat => (g : Int) else []
theorem Owned_p (i w : Int) : Pure Try.prog 78 [ci i, ci w] (.t [.l 1 ((ownedS i w).map fun g => [ci g]), .c (.int .i64 (if shareS i w = true then 0 else 2))]) := by
  intro H
  cases hs : shareS i w
  · refine ACall_of' Try.func78 rfl (Ent_of Try.func78 (by kernel_rfl) rfl) (by simp [Try.ntmps78]) ?_; simp only [Try.ntmps78, Try.results78]
    repeat' (first
    | refine AW_seq_kn fun K hK => ?_
    | refine AW_block ?_
    | ((first
      | refine AW_region EK2 ?_ | refine AW_ret ?_ | refine AW_exit ?_ | refine AW_skip ?_ | unfold retQ); try simp only [push_cast, seval, *])
    | (apply AW_cond; (case hc => (simp only [push_cast, seval]; rfl)); all_goals (intro hc; first | (exfalso; simp only [push_cast, seval, *] at hc; done) | (exact absurd hc (by decide)) | ((try first | rw [Bool.not_true] at hc | rw [Bool.not_false] at hc); first | (with_reducible replace hc := tTT hc); clear hc | (with_reducible replace hc := tFF hc); clear hc | (have hp := hc; try simp only [decide_eq_true_eq, decide_eq_false_iff_not, bA, bB, bC, bD, bE, bF, bG, bH] at hp))))
    | (refine Kn.go hK ?_; clear hK K)
    | refine Kn.go (by assumption) ?_
    | (intro n hn; (try simp only [upd_none2, join_none_iff, ite_none, ne_eq] at hn); (try simp only [push_cast, seval, *]))
    | (intro hc)
    | fail)
    refine ⟨.t [.l 1 [], ci 2], _, Weak.imp (by (intros; repeat (first | assumption | exact Imp.refl (Mem.le.refl _) _ | exact Imp.refl (by assumption) _ | exact Imp.nil_l _ | refine Imp.t ?_ | refine Imp.g ?_ | exact Imps.nil | refine Imps.cons ?_ (by intro hh; first | rfl | (cases hh; done)) ?_))) (by (simp only [push_cast, seval, *])), ?_, rfl⟩
    simp [ownedS, hs, ci]
  · refine ACall_of' Try.func78 rfl (Ent_of Try.func78 (by kernel_rfl) rfl) (by simp [Try.ntmps78]) ?_; simp only [Try.ntmps78, Try.results78]
    repeat' (first
    | refine AW_seq_kn fun K hK => ?_
    | refine AW_block ?_
    | (refine does_call rfl rfl ?_; simp only [push_cast, seval, *]; refine ACall.monoP (owned_p _ _ _) ?_; (try simp only [push_cast, seval, *]))
    | (refine does_call rfl rfl ?_; simp only [push_cast, seval, *]; refine ACall.monoP (collect_int (fun g : Nat => ci g) (fun g : Nat => [ci g]) (fun _ => rfl) (fun _ => rfl) (ownL i w) (by have := ownL_len i w; omega) _ _ (owned_i i w) _) ?_; (try simp only [push_cast, seval, *]))
    | ((first
      | refine AW_region EK2 ?_ | refine AW_ret ?_ | refine AW_exit ?_ | refine AW_skip ?_ | unfold retQ); try simp only [push_cast, seval, *])
    | (apply AW_cond; (case hc => (simp only [push_cast, seval]; rfl)); all_goals (intro hc; first | (exfalso; simp only [push_cast, seval, *] at hc; done) | (exact absurd hc (by decide)) | ((try first | rw [Bool.not_true] at hc | rw [Bool.not_false] at hc); first | (with_reducible replace hc := tTT hc); clear hc | (with_reducible replace hc := tFF hc); clear hc | (have hp := hc; try simp only [decide_eq_true_eq, decide_eq_false_iff_not, bA, bB, bC, bD, bE, bF, bG, bH] at hp))))
    | (refine Kn.go hK ?_; clear hK K)
    | refine Kn.go (by assumption) ?_
    | (intro n hn; (try simp only [upd_none2, join_none_iff, ite_none, ne_eq] at hn); (try simp only [push_cast, seval, *]))
    | (intro hc)
    | fail)
    refine ⟨_, _, Weak.less (by (simp only [push_cast, seval, *])), ?_, rfl⟩
    simp [ownedS, hs, ci]

end Go.Proofs.Ytmkncbddjnaklaa
