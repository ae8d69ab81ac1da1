/- Walks: Do, Run; the same; what is played. -/
import Derived.Test.YtmkncbddjnaklaaF
namespace Go.Proofs.Ytmkncbddjnaklaa
open Go.RowKit
open Nat renaming reduceEqDiff → nA, reduceLT → nB, reduceLeDiff → nC, reduceAdd → nD, reduceMul → nE, reduceSub → nF, reduceBEq → nG
open Int renaming reduceToNat → iA, reduceLT → iB, reduceLE → iC, reduceEq → iD
open Bool renaming and_eq_true → bA, or_eq_true → bB, or_eq_false_iff → bC, and_eq_false_iff → bD, not_eq_true' → bE, not_eq_false' → bF, not_true → bG, not_false → bH
set_option linter.all false
set_option maxHeartbeats 4000000
attribute [local irreducible] AW Does ACall tE tS tB tZ
def dLG0 : List En := [(0, false, []), (1, false, []), (2, false, []), (3, false, []), (4, false, []), (5, false, []), (6, false, []), (7, false, []), (8, false, [])]
def dAG0 : List (List Nat) := [[], [], [0, 1], [0, 1, 2], [], [], [4, 5], [4, 5, 6], [0, 1, 2, 3, 4, 5, 6, 7]]
attribute [push_cast] dLG0

abbrev E1 : Env Try.prog := E0
def frSm (a b : AV) (n k : Nat) : List (Nat × AV) := [(0, a), (1, b), (12, ci n), (13, ci k)]
attribute [push_cast] frSm
theorem same8_p (a b : List Int) (ha : a.length ≤ maxLen) (hb : b.length ≤ maxLen) : Pure Try.prog 20 [.l 1 (a.map i1), .l 1 (b.map i1)] (.c (.bool (decide (a = b)))) := by
  intro H
  by_cases hl : a.length = b.length
  · have hlT : ((a.length : Int) = (b.length : Int)) = True := by simp [hl]
    replace hl := Lib.hid hl
    refine ACall_of' Try.func20 rfl (Ent_of Try.func20 (by kernel_rfl) rfl) (by simp [Try.ntmps20]) ?_; simp only [Try.ntmps20, Try.results20]
    repeat' (first
    | refine AW_seq_kn fun K hK => ?_
    | refine AW_block ?_
    | ((first
      | refine AW_region_draw (id := 6) E1 (fun f => [].contains f) dLG0 dAG0 mixed (by kernel_rfl) ?_
      | refine AW_region E1 ?_ | refine AW_ret ?_ | refine AW_exit ?_ | refine AW_skip ?_ | unfold retQ); try simp only [push_cast, seval, *])
    | (apply AW_cond; (case hc => (simp only [push_cast, seval]; rfl)); all_goals (intro hc; first | (exfalso; simp only [push_cast, seval, *] at hc; done) | (exact absurd hc (by decide)) | ((try first | rw [Bool.not_true] at hc | rw [Bool.not_false] at hc); first | (with_reducible replace hc := tTT hc); clear hc | (with_reducible replace hc := tFF hc); clear hc | (have hp := hc; try simp only [decide_eq_true_eq, decide_eq_false_iff_not, bA, bB, bC, bD, bE, bF, bG, bH] at hp))))
    | (refine Kn.go hK ?_; clear hK K)
    | refine Kn.go (by assumption) ?_
    | (intro n hn; (try simp only [upd_none2, join_none_iff, ite_none, ne_eq] at hn); (try simp only [push_cast, seval, *]))
    | (intro hc)
    | fail)
    refine AW_loopN a.length (fun k => EqI a b k) (fun k => frSm (.l 1 (a.map i1)) (.l 1 (b.map i1)) a.length k) (fun _ => H) (EqI.zero _ _) ?_ ?_ ?_ ?_
    · (first | trivial | (simp only [push_cast, seval, *]; done))
    · (first | trivial | ((simp only [push_cast, seval, *]); repeat' (first | rfl | exact Heap.le_refl _ | refine And.intro ?_ ?_)) | rfl | exact ⟨rfl, rfl⟩ | exact ⟨rfl, rfl, rfl⟩ | exact Heap.le_refl _)
    · intro k hk hinv
      have hl2 : a.length = b.length := hl
      have hkb : k < b.length := by omega
      clear hl2
      unfold maxLen at ha hb
      have hx := List.getElem?_eq_getElem (l := a) hk; generalize a[k] = x at hx; have hxm := List.mem_of_getElem? hx; have hkl : (k : Int) < a.length := (by omega); have hkw : IntKind.i64.wrap ((k : Int) + 1) = (k : Int) + 1 := wrap_i64 (by omega) (by omega)
      have hkbl : (k : Int) < b.length := by omega
      obtain ⟨y, hy⟩ : ∃ y, b[k]? = some y := ⟨_, List.getElem?_eq_getElem hkb⟩
      have htx : List.take 1 (i1 x) = i1 x := rfl
      have hty : List.take 1 (i1 y) = i1 y := rfl
      by_cases e : x = y
      · subst e
        repeat' (first
    | refine AW_seq_kn fun K hK => ?_
    | refine AW_block ?_
    | ((first
      | refine AW_region_draw (id := 6) E1 (fun f => [].contains f) dLG0 dAG0 mixed (by kernel_rfl) ?_
      | refine AW_region E1 ?_ | refine AW_ret ?_ | refine AW_exit ?_ | refine AW_skip ?_ | unfold retQ); try simp only [push_cast, seval, *])
    | (apply AW_cond; (case hc => (simp only [push_cast, seval]; rfl)); all_goals (intro hc; first | (exfalso; simp only [push_cast, seval, *] at hc; done) | (exact absurd hc (by decide)) | ((try first | rw [Bool.not_true] at hc | rw [Bool.not_false] at hc); first | (with_reducible replace hc := tTT hc); clear hc | (with_reducible replace hc := tFF hc); clear hc | (have hp := hc; try simp only [decide_eq_true_eq, decide_eq_false_iff_not, bA, bB, bC, bD, bE, bF, bG, bH] at hp))))
    | (refine Kn.go hK ?_; clear hK K)
    | refine Kn.go (by assumption) ?_
    | (intro n hn; (try simp only [upd_none2, join_none_iff, ite_none, ne_eq] at hn); (try simp only [push_cast, seval, *]))
    | (intro hc)
    | fail)
        exact ⟨hinv.step hx hy, by (first | trivial | (simp only [push_cast, seval, *]; done)), by (first | trivial | ((simp only [push_cast, seval, *]); repeat' (first | rfl | exact Heap.le_refl _ | refine And.intro ?_ ?_)) | rfl | exact ⟨rfl, rfl⟩ | exact ⟨rfl, rfl, rfl⟩ | exact Heap.le_refl _)⟩
      · have hne : ¬ a = b := by intro h; subst h; rw [hx] at hy; cases hy; exact e rfl
        repeat' (first
    | refine AW_seq_kn fun K hK => ?_
    | refine AW_block ?_
    | ((first
      | refine AW_region_draw (id := 6) E1 (fun f => [].contains f) dLG0 dAG0 mixed (by kernel_rfl) ?_
      | refine AW_region E1 ?_ | refine AW_ret ?_ | refine AW_exit ?_ | refine AW_skip ?_ | unfold retQ); try simp only [push_cast, seval, *])
    | (apply AW_cond; (case hc => (simp only [push_cast, seval]; rfl)); all_goals (intro hc; first | (exfalso; simp only [push_cast, seval, *] at hc; done) | (exact absurd hc (by decide)) | ((try first | rw [Bool.not_true] at hc | rw [Bool.not_false] at hc); first | (with_reducible replace hc := tTT hc); clear hc | (with_reducible replace hc := tFF hc); clear hc | (have hp := hc; try simp only [decide_eq_true_eq, decide_eq_false_iff_not, bA, bB, bC, bD, bE, bF, bG, bH] at hp))))
    | (refine Kn.go hK ?_; clear hK K)
    | refine Kn.go (by assumption) ?_
    | (intro n hn; (try simp only [upd_none2, join_none_iff, ite_none, ne_eq] at hn); (try simp only [push_cast, seval, *]))
    | (intro hc)
    | fail)
        all_goals first
          | (refine ⟨_, _, Weak.less (by (simp only [push_cast, seval, *])), ?_, rfl⟩; simp [hne]; done)
          | (exfalso; apply e; cases x; cases y; simp_all; done)
          | (exfalso; apply e; rcases x with ⟨_, _, _, _, ⟨_, _, _, _, _⟩⟩; rcases y with ⟨_, _, _, _, ⟨_, _, _, _, _⟩⟩; simp_all; done)
    · intro hinv
      have e : a = b := hinv.done hl
      subst e
      repeat' (first
    | refine AW_seq_kn fun K hK => ?_
    | refine AW_block ?_
    | ((first
      | refine AW_region_draw (id := 6) E1 (fun f => [].contains f) dLG0 dAG0 mixed (by kernel_rfl) ?_
      | refine AW_region E1 ?_ | refine AW_ret ?_ | refine AW_exit ?_ | refine AW_skip ?_ | unfold retQ); try simp only [push_cast, seval, *])
    | (apply AW_cond; (case hc => (simp only [push_cast, seval]; rfl)); all_goals (intro hc; first | (exfalso; simp only [push_cast, seval, *] at hc; done) | (exact absurd hc (by decide)) | ((try first | rw [Bool.not_true] at hc | rw [Bool.not_false] at hc); first | (with_reducible replace hc := tTT hc); clear hc | (with_reducible replace hc := tFF hc); clear hc | (have hp := hc; try simp only [decide_eq_true_eq, decide_eq_false_iff_not, bA, bB, bC, bD, bE, bF, bG, bH] at hp))))
    | (refine Kn.go hK ?_; clear hK K)
    | refine Kn.go (by assumption) ?_
    | (intro n hn; (try simp only [upd_none2, join_none_iff, ite_none, ne_eq] at hn); (try simp only [push_cast, seval, *]))
    | (intro hc)
    | fail)
      exact ⟨_, _, Weak.refl _ _, by simp, rfl⟩
  · have hne : ¬ a = b := fun h => hl (by rw [h])
    have hlF : ¬ (a.length : Int) = (b.length : Int) := by omega
    refine ACall_of' Try.func20 rfl (Ent_of Try.func20 (by kernel_rfl) rfl) (by simp [Try.ntmps20]) ?_; simp only [Try.ntmps20, Try.results20]
    repeat' (first
    | refine AW_seq_kn fun K hK => ?_
    | refine AW_block ?_
    | ((first
      | refine AW_region_draw (id := 6) E1 (fun f => [].contains f) dLG0 dAG0 mixed (by kernel_rfl) ?_
      | refine AW_region E1 ?_ | refine AW_ret ?_ | refine AW_exit ?_ | refine AW_skip ?_ | unfold retQ); try simp only [push_cast, seval, *])
    | (apply AW_cond; (case hc => (simp only [push_cast, seval]; rfl)); all_goals (intro hc; first | (exfalso; simp only [push_cast, seval, *] at hc; done) | (exact absurd hc (by decide)) | ((try first | rw [Bool.not_true] at hc | rw [Bool.not_false] at hc); first | (with_reducible replace hc := tTT hc); clear hc | (with_reducible replace hc := tFF hc); clear hc | (have hp := hc; try simp only [decide_eq_true_eq, decide_eq_false_iff_not, bA, bB, bC, bD, bE, bF, bG, bH] at hp))))
    | (refine Kn.go hK ?_; clear hK K)
    | refine Kn.go (by assumption) ?_
    | (intro n hn; (try simp only [upd_none2, join_none_iff, ite_none, ne_eq] at hn); (try simp only [push_cast, seval, *]))
    | (intro hc)
    | fail)
    exact ⟨_, _, Weak.refl _ _, by simp [hne], rfl⟩


theorem min41 (l : List Int) (m : Nat) : ∃ mn : Nat, (if (m : Int) < l.length then (m : Int) else (l.length : Int)) = (mn : Int) ∧ mn ≤ l.length ∧ mn ≤ m ∧ l.take mn = l.take m := by
  by_cases c : m < l.length
  · exact ⟨m, by rw [if_pos (by omega)], by omega, by omega, rfl⟩
  · exact ⟨l.length, by rw [if_neg (by omega)], by omega, by omega, by rw [List.take_of_length_le (by omega), List.take_of_length_le (by omega)]⟩
theorem few_o (l : List Int) (hl : l.length ≤ maxLen) (H : Heap) : ACall Try.prog 17 [.l 1 (l.map i1)] H fun r H' => OwnL H' r 2 1 ((l.take 41).map i1) H := by
  unfold maxLen at hl
  obtain ⟨mn, hmn, hm1, hm2, hm3⟩ := min41 l 41
  simp only [Int.cast_ofNat_Int] at hmn
  have hmI : (mn : Int) ≤ l.length := by omega
  have hzl : (List.map i1 l).take mn = (l.take 41).map i1 := by rw [← hm3, List.map_take]
  have hbl : (l.take 41).length ≤ 41 := by simp; omega
  generalize l.take 41 = C at *
  clear hm3
  refine ACall_of' Try.func17 rfl (Ent_of Try.func17 (by kernel_rfl) rfl) (by simp [Try.ntmps17]) ?_; simp only [Try.ntmps17, Try.results17]
  repeat' (first
    | refine AW_seq_kn fun K hK => ?_
    | refine AW_block ?_
    | ((first
      | refine AW_region E0 ?_ | refine AW_ret ?_ | refine AW_exit ?_ | refine AW_skip ?_ | unfold retQ); try simp only [push_cast, seval, *])
    | (apply AW_cond; (case hc => (simp only [push_cast, seval]; rfl)); all_goals (intro hc; first | (exfalso; simp only [push_cast, seval, *] at hc; done) | (exact absurd hc (by decide)) | ((try first | rw [Bool.not_true] at hc | rw [Bool.not_false] at hc); first | (with_reducible replace hc := tTT hc); clear hc | (with_reducible replace hc := tFF hc); clear hc | (have hp := hc; try simp only [decide_eq_true_eq, decide_eq_false_iff_not, bA, bB, bC, bD, bE, bF, bG, bH] at hp))))
    | (refine Kn.go hK ?_; clear hK K)
    | refine Kn.go (by assumption) ?_
    | (intro n hn; (try simp only [upd_none2, join_none_iff, ite_none, ne_eq] at hn); (try simp only [push_cast, seval, *]))
    | (intro hc)
    | fail)
  refine does_appL rfl rfl rfl (OwnL.fresh hn) tE29 tS2 tB2 tZ2 rfl (by decide) ?_ ?_ ?_
  · simp only [List.length_map, List.length_nil, maxLen]; omega
  · simp only [List.length_map, List.length_nil]; omega
  intro x' H' hown'
  have hcs' := hown'.cs
  rw [List.nil_append] at hown'
  replace hown' := Lib.hid hown'
  (try simp only [push_cast, seval, *])
  repeat' (first
    | refine AW_seq_kn fun K hK => ?_
    | refine AW_block ?_
    | ((first
      | refine AW_region E0 ?_ | refine AW_ret ?_ | refine AW_exit ?_ | refine AW_skip ?_ | unfold retQ); try simp only [push_cast, seval, *])
    | (apply AW_cond; (case hc => (simp only [push_cast, seval]; rfl)); all_goals (intro hc; first | (exfalso; simp only [push_cast, seval, *] at hc; done) | (exact absurd hc (by decide)) | ((try first | rw [Bool.not_true] at hc | rw [Bool.not_false] at hc); first | (with_reducible replace hc := tTT hc); clear hc | (with_reducible replace hc := tFF hc); clear hc | (have hp := hc; try simp only [decide_eq_true_eq, decide_eq_false_iff_not, bA, bB, bC, bD, bE, bF, bG, bH] at hp))))
    | (refine Kn.go hK ?_; clear hK K)
    | refine Kn.go (by assumption) ?_
    | (intro n hn; (try simp only [upd_none2, join_none_iff, ite_none, ne_eq] at hn); (try simp only [push_cast, seval, *]))
    | (intro hc)
    | fail)
  exact ⟨_, _, Weak.refl _ _, unhid hown'⟩
theorem few_p (l : List Int) (hl : l.length ≤ maxLen) : Pure Try.prog 17 [.l 1 (l.map i1)] (.l 1 ((l.take 41).map i1)) := fun H =>
  ACall.weak ((few_o l hl H).mono fun r H' h => ⟨_, _, h.weak (fun F F' hF hi _ => hi), rfl, rfl⟩)

def shO (o : OpD) : OpD := { o with ins := o.ins.take 10 }
theorem op_p (o : OpD) (hl : o.ins.length ≤ maxLen) : Pure Try.prog 16 [.g (OpD.av o)] (.g (OpD.av (shO o))) := by
  intro H
  obtain ⟨t, w, l, A, B⟩ := o
  simp only at hl
  unfold maxLen at hl
  obtain ⟨mn, hmn, hm1, hm2, hm3⟩ := min41 l 10
  simp only [Int.cast_ofNat_Int] at hmn
  have hmI : (mn : Int) ≤ l.length := by omega
  have hzl : (List.map i1 l).take mn = (l.take 10).map i1 := by rw [← hm3, List.map_take]
  have hbl : (l.take 10).length ≤ 10 := by simp; omega
  simp only [shO, OpD.av]
  generalize l.take 10 = C at *
  clear hm3
  refine ACall_of' Try.func16 rfl (Ent_of Try.func16 (by kernel_rfl) rfl) (by simp [Try.ntmps16]) ?_; simp only [Try.ntmps16, Try.results16]
  repeat' (first
    | refine AW_seq_kn fun K hK => ?_
    | refine AW_block ?_
    | ((first
      | refine AW_region E0 ?_ | refine AW_ret ?_ | refine AW_exit ?_ | refine AW_skip ?_ | unfold retQ); try simp only [push_cast, seval, *])
    | (apply AW_cond; (case hc => (simp only [push_cast, seval]; rfl)); all_goals (intro hc; first | (exfalso; simp only [push_cast, seval, *] at hc; done) | (exact absurd hc (by decide)) | ((try first | rw [Bool.not_true] at hc | rw [Bool.not_false] at hc); first | (with_reducible replace hc := tTT hc); clear hc | (with_reducible replace hc := tFF hc); clear hc | (have hp := hc; try simp only [decide_eq_true_eq, decide_eq_false_iff_not, bA, bB, bC, bD, bE, bF, bG, bH] at hp))))
    | (refine Kn.go hK ?_; clear hK K)
    | refine Kn.go (by assumption) ?_
    | (intro n hn; (try simp only [upd_none2, join_none_iff, ite_none, ne_eq] at hn); (try simp only [push_cast, seval, *]))
    | (intro hc)
    | fail)
  rename_i n1 h1 n2 h2
  obtain ⟨Hs, hHs⟩ : ∃ Hs : Heap, Hs = upd (upd H n1 (.r 24 5 1 [[.c (.int .i64 t), .c (.int .i64 w), .l 1 (l.map i1), .c (.int .i64 A), .c (.int .i64 B)]])) n2 (.r 24 5 1 [[.c (.int .i64 0), .c (.int .i64 0), .c (.slice none 0 0), .c (.int .i64 0), .c (.int .i64 0)]]) := ⟨_, rfl⟩
  have g1 : Hs n1 = some (.r 24 5 1 [[.c (.int .i64 t), .c (.int .i64 w), .l 1 (l.map i1), .c (.int .i64 A), .c (.int .i64 B)]]) := by rw [hHs]; simp only [push_cast, seval, *]
  have g2 : Hs n2 = some (.r 24 5 1 [[.c (.int .i64 0), .c (.int .i64 0), .c (.slice none 0 0), .c (.int .i64 0), .c (.int .i64 0)]]) := by rw [hHs]; exact upd_same _ _ _
  have n12 : ¬ n1 = n2 := h2.1.2
  have n21 : ¬ n2 = n1 := h2.1.1
  have hH1 : H n1 = none := h1
  have hH2 : H n2 = none := h2.2
  have hnn : Hs n = none := by rw [hHs]; simp only [upd_none2]; exact ⟨hn.1, hn.2.1, hn.2.2⟩
  have hle : Heap.le H Hs := by rw [hHs]; (repeat' (first | exact Heap.le_refl _ | refine hle_upd2 ?_ _ _ | (refine Heap.le_new ?_ ?_; rotate_left 1; focus (first | assumption | (simp only [upd_none2, upd_get, ne_eq, push_cast, seval, *]; done) | (simp [upd_get, *]; done)))))
  rw [← hHs]
  clear hHs h1 h2 hn
  refine does_appL rfl rfl rfl (OwnL.fresh hnn) tE22 tS3 tB3 tZ3 rfl (by decide) ?_ ?_ ?_
  · simp only [List.length_map, List.length_nil, maxLen]; omega
  · simp only [List.length_map, List.length_nil]; omega
  intro x' G hown'
  have hcs' := hown'.cs
  rw [List.nil_append] at hown'
  have k1 := hown'.get g1
  have k2 := hown'.get g2
  have ht1 := hown'.turn g1 (.r 24 5 1 [[.c (.int .i64 t), .c (.int .i64 w), x', .c (.int .i64 A), .c (.int .i64 B)]])
  have g2' : upd Hs n1 (.r 24 5 1 [[.c (.int .i64 t), .c (.int .i64 w), x', .c (.int .i64 A), .c (.int .i64 B)]]) n2 = some (.r 24 5 1 [[.c (.int .i64 0), .c (.int .i64 0), .c (.slice none 0 0), .c (.int .i64 0), .c (.int .i64 0)]]) := by rw [upd_ne n21]; exact g2
  have ht2 := ht1.turn g2' (.r 24 5 1 [[.c (.int .i64 t), .c (.int .i64 w), x', .c (.int .i64 A), .c (.int .i64 B)]])
  have hle2 : Heap.le H (upd (upd Hs n1 (.r 24 5 1 [[.c (.int .i64 t), .c (.int .i64 w), x', .c (.int .i64 A), .c (.int .i64 B)]])) n2 (.r 24 5 1 [[.c (.int .i64 t), .c (.int .i64 w), x', .c (.int .i64 A), .c (.int .i64 B)]])) := fun q b hq => by
    have c1 : ¬ q = n1 := by rintro rfl; rw [hH1] at hq; cases hq
    have c2 : ¬ q = n2 := by rintro rfl; rw [hH2] at hq; cases hq
    rw [upd_ne c2, upd_ne c1]; exact hle q b hq
  clear hown' ht1 g1 g2 g2' hnn hle
  replace ht2 := Lib.hid ht2
  replace hle2 := Lib.hid hle2
  (try simp only [push_cast, seval, *])
  repeat' (first
    | refine AW_seq_kn fun K hK => ?_
    | refine AW_block ?_
    | ((first
      | refine AW_region E0 ?_ | refine AW_ret ?_ | refine AW_exit ?_ | refine AW_skip ?_ | unfold retQ); try simp only [push_cast, seval, *])
    | (apply AW_cond; (case hc => (simp only [push_cast, seval]; rfl)); all_goals (intro hc; first | (exfalso; simp only [push_cast, seval, *] at hc; done) | (exact absurd hc (by decide)) | ((try first | rw [Bool.not_true] at hc | rw [Bool.not_false] at hc); first | (with_reducible replace hc := tTT hc); clear hc | (with_reducible replace hc := tFF hc); clear hc | (have hp := hc; try simp only [decide_eq_true_eq, decide_eq_false_iff_not, bA, bB, bC, bD, bE, bF, bG, bH] at hp))))
    | (refine Kn.go hK ?_; clear hK K)
    | refine Kn.go (by assumption) ?_
    | (intro n hn; (try simp only [upd_none2, join_none_iff, ite_none, ne_eq] at hn); (try simp only [push_cast, seval, *]))
    | (intro hc)
    | fail)
  refine ⟨_, _, ((unhid ht2).weak fun F F' hF hi _ => ?_).trans (Weak.less (unhid hle2)), rfl, rfl⟩
  exact Imp.g (Imps.cons (Imp.refl hF _) id (Imps.cons (Imp.refl hF _) id (Imps.cons hi (fun _ => rfl) (Imps.cons (Imp.refl hF _) id (Imps.cons (Imp.refl hF _) id Imps.nil)))))

end Go.Proofs.Ytmkncbddjnaklaa
