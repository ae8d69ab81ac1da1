/- Walks: the law's copy of a sink; the document's Write. -/
import Derived.Test.YtdeckjoeggmagaaSI
namespace Go.Proofs.Ytdeckjoeggmagaa
open Go.RowKit
open Nat renaming reduceEqDiff → nA, reduceLT → nB, reduceLeDiff → nC, reduceAdd → nD, reduceMul → nE, reduceSub → nF, reduceBEq → nG
open Int renaming reduceToNat → iA, reduceLT → iB, reduceLE → iC, reduceEq → iD
open Bool renaming and_eq_true → bA, or_eq_true → bB, or_eq_false_iff → bC, and_eq_false_iff → bD, not_eq_true' → bE, not_eq_false' → bF, not_true → bG, not_false → bH
set_option linter.all false
set_option maxHeartbeats 4000000
attribute [local irreducible] AW Does ACall tE tS tB tZ
def dLSK0 : List En := [(0, true, []), (1, false, []), (2, false, []), (3, false, []), (4, false, []), (5, false, []), (6, false, []), (7, false, []), (8, false, []), (9, false, []), (10, false, []), (11, false, []), (12, false, [0]), (13, false, []), (14, false, []), (15, false, [])]
def dASK0 : List (List Nat) := [[], [], [], [2], [], [4], [], [6], [2, 3, 4, 5, 6, 7], [], [2, 3, 4, 5, 6, 7, 8, 9], [2, 3, 4, 5, 6, 7, 8, 9, 10], [1, 2, 3, 4, 5, 6, 7, 8, 9, 10, 11], [0, 1, 2, 3, 4, 5, 6, 7, 8, 9, 10, 11, 12], [0, 1, 2, 3, 4, 5, 6, 7, 8, 9, 10, 11, 12, 13], [0, 1, 2, 3, 4, 5, 6, 7, 8, 9, 10, 11, 12, 13, 14]]
attribute [push_cast] dLSK0
set_option maxRecDepth 5000

theorem copied17_p (s : Sk) (hl : s.rdy.length ≤ 1000000) : Pure Try.prog 20 [.g (Sk.av s)] (.g (Sk.av s)) := by
  intro H
  obtain ⟨a, b, c, d, l⟩ := s
  simp only at hl
  simp only [Sk.av]
  refine ACall_of' Try.func20 rfl (Ent_of Try.func20 (by kernel_rfl) rfl) (by simp [Try.ntmps20]) ?_; simp only [Try.ntmps20, Try.results20]
  repeat' (first
    | refine AW_seq_kn fun K hK => ?_
    | refine AW_block ?_
    | ((first
      | refine AW_region E0 ?_ | refine AW_ret ?_ | refine AW_exit ?_ | refine AW_skip ?_ | unfold retQ); try simp only [push_cast, seval, *])
    | (apply AW_cond; (case hc => (simp only [push_cast, seval]; rfl)); all_goals (intro hc; first | (exfalso; simp only [push_cast, seval, *] at hc; done) | (exact absurd hc (by decide)) | ((try first | rw [Bool.not_true] at hc | rw [Bool.not_false] at hc); first | (with_reducible replace hc := tTT hc); clear hc | (with_reducible replace hc := tFF hc); clear hc | (have hp := hc; try simp only [decide_eq_true_eq, decide_eq_false_iff_not, bA, bB, bC, bD, bE, bF, bG, bH] at hp))))
    | (refine Kn.go hK ?_; clear hK K)
    | refine Kn.go (by assumption) ?_
    | (intro n hn; (try simp only [upd_none2, join_none_iff, ite_none, ne_eq] at hn); (try simp only [push_cast, seval, *]))
    | (intro hc)
    | fail)
  rename_i n1 h1 n2 h2
  refine Does.frozen (ty := 26) (does_appL (news := l.map Nm.av) rfl rfl rfl (OwnL.fresh (by simp only [upd_none2]; exact hn)) tE22 tS26 tB26 tZ26 rfl (by decide) ?_ ?_ (fun _ _ h' => h')) ?_
  · simp only [List.length_map, List.length_nil, maxLen]; omega
  · simp only [List.length_map, List.length_nil]; omega
  rw [List.nil_append]
  clear hn
  (try simp only [push_cast, seval, *])
  repeat' (first
    | refine AW_seq_kn fun K hK => ?_
    | refine AW_block ?_
    | ((first
      | refine AW_region E0 ?_ | refine AW_ret ?_ | refine AW_exit ?_ | refine AW_skip ?_ | unfold retQ); try simp only [push_cast, seval, *])
    | (apply AW_cond; (case hc => (simp only [push_cast, seval]; rfl)); all_goals (intro hc; first | (exfalso; simp only [push_cast, seval, *] at hc; done) | (exact absurd hc (by decide)) | ((try first | rw [Bool.not_true] at hc | rw [Bool.not_false] at hc); first | (with_reducible replace hc := tTT hc); clear hc | (with_reducible replace hc := tFF hc); clear hc | (have hp := hc; try simp only [decide_eq_true_eq, decide_eq_false_iff_not, bA, bB, bC, bD, bE, bF, bG, bH] at hp))))
    | (refine Kn.go hK ?_; clear hK K)
    | refine Kn.go (by assumption) ?_
    | (intro n hn; (try simp only [upd_none2, join_none_iff, ite_none, ne_eq] at hn); (try simp only [push_cast, seval, *]))
    | (intro hc)
    | fail)
  exact ⟨_, _, Weak.less (by (repeat' (first | exact Heap.le_refl _ | refine hle_upd2 ?_ _ _ | (refine Heap.le_new ?_ ?_; rotate_left 1; focus (first | assumption | (simp only [upd_none2, upd_get, ne_eq, push_cast, seval, *]; done) | (simp [upd_get, *]; done)))))), rfl, rfl⟩
theorem weak_zw {H : Heap} {a b c d : AV} (f : AV) : Weak (.t [.g [a, b, c, d, .c (.slice none 0 0)], .c (.slice none 0 0), f]) H (.t [.g [a, b, c, d, .l 3 []], .l 7 [], f]) H :=
  (OwnL.none' (H := H) (ad := none) (sz := 3) (ty := 0)).weak fun F F' hF hi _ => Imp.t (Imps.cons (Imp.g (Imps.cons (Imp.refl hF _) id (Imps.cons (Imp.refl hF _) id (Imps.cons (Imp.refl hF _) id (Imps.cons (Imp.refl hF _) id (Imps.cons (Imp.nil_l 3) (fun _ => rfl) Imps.nil)))))) id (Imps.cons (Imp.nil_l 7) (fun _ => rfl) (Imps.refl hF _)))
theorem refWrite17_p (hright : ∀ s : Sk, s.rdy.length ≤ maxLen → Pure Try.prog 38 [.g (Sk.av s)] (.c (.bool (skOk s)))) (s : Sk) (hl : s.rdy.length ≤ maxLen) (r : Rec) : Pure Try.prog 22 [.g (Sk.av s), .g (Rec.av r)] (.t [.g (Sk.av (writeSk s r).1), .l 7 ((writeSk s r).2.1.map Act.av), .c (.int .i64 (writeSk s r).2.2)]) := by
  intro H
  have hck := hright s hl
  have hrc := right5_p r.s r.k r.v
  have hE := tE38
  have hS := tS61
  have hB := tB61
  have hZ := tZ61
  unfold writeSk
  clear hright
  cases hok : skOk s
  · rw [hok] at hck
    simp only [if_true] at hck ⊢
    obtain ⟨a, b, c, d, l⟩ := s
    obtain ⟨rs, rk, rv⟩ := r
    simp only [Sk.av, Rec.av, zeroSk, List.map_nil] at hck ⊢
    clear hok hrc
    refine ACall_of' Try.func22 rfl (Ent_of Try.func22 (by kernel_rfl) rfl) (by simp [Try.ntmps22]) ?_; simp only [Try.ntmps22, Try.results22]
    repeat' (first
    | refine AW_seq_kn fun K hK => ?_
    | refine AW_block ?_
    | (refine does_call rfl rfl ?_; simp only [push_cast, seval, *]; refine ACall.monoP (hck _) ?_; (try simp only [push_cast, seval, *]))
    | ((first
      | refine AW_region_draw (id := 12) E0 (fun f => [].contains f) dLSK0 dASK0 mixed (by kernel_rfl) ?_
      | refine AW_region E0 ?_ | refine AW_ret ?_ | refine AW_exit ?_ | refine AW_skip ?_ | unfold retQ); try simp only [push_cast, seval, *])
    | (apply AW_cond; (case hc => (simp only [push_cast, seval]; rfl)); all_goals (intro hc; first | (exfalso; simp only [push_cast, seval, *] at hc; done) | (exact absurd hc (by decide)) | ((try first | rw [Bool.not_true] at hc | rw [Bool.not_false] at hc); first | (with_reducible replace hc := tTT hc); clear hc | (with_reducible replace hc := tFF hc); clear hc | (have hp := hc; try simp only [decide_eq_true_eq, decide_eq_false_iff_not, bA, bB, bC, bD, bE, bF, bG, bH] at hp))))
    | (refine Kn.go hK ?_; clear hK K)
    | refine Kn.go (by assumption) ?_
    | (intro n hn; (try simp only [upd_none2, join_none_iff, ite_none, ne_eq] at hn); (try simp only [push_cast, seval, *]))
    | (intro hc)
    | fail)
    exact ⟨_, _, Weak.trans (Weak.less (by (repeat' (first | exact Heap.le_refl _ | refine hle_upd2 ?_ _ _ | (refine Heap.le_new ?_ ?_; rotate_left 1; focus (first | assumption | (simp only [upd_none2, upd_get, ne_eq, push_cast, seval, *]; done) | (simp [upd_get, *]; done))))))) (weak_zw _), rfl, rfl⟩
  rw [hok] at hck
  simp only [Bool.true_eq_false, if_false] at hck ⊢
  obtain ⟨-, -, hbd, -, -⟩ := skOk_bd hok
  cases hrok : recOk r
  · have hrok2 : recOk ⟨r.s, r.k, r.v⟩ = false := hrok
    rw [hrok2] at hrc
    obtain ⟨a, b, c, d, l⟩ := s
    obtain ⟨rs, rk, rv⟩ := r
    simp only [Sk.av, Rec.av, zeroSk, List.map_nil, if_true] at hck hrc ⊢
    clear hok hrok hrok2 hbd
    refine ACall_of' Try.func22 rfl (Ent_of Try.func22 (by kernel_rfl) rfl) (by simp [Try.ntmps22]) ?_; simp only [Try.ntmps22, Try.results22]
    repeat' (first
    | refine AW_seq_kn fun K hK => ?_
    | refine AW_block ?_
    | (refine does_call rfl rfl ?_; simp only [push_cast, seval, *]; refine ACall.monoP (hck _) ?_; (try simp only [push_cast, seval, *]))
    | (refine does_call rfl rfl ?_; simp only [push_cast, seval, *]; refine ACall.monoP (hrc _) ?_; (try simp only [push_cast, seval, *]))
    | ((first
      | refine AW_region_draw (id := 12) E0 (fun f => [].contains f) dLSK0 dASK0 mixed (by kernel_rfl) ?_
      | refine AW_region E0 ?_ | refine AW_ret ?_ | refine AW_exit ?_ | refine AW_skip ?_ | unfold retQ); try simp only [push_cast, seval, *])
    | (apply AW_cond; (case hc => (simp only [push_cast, seval]; rfl)); all_goals (intro hc; first | (exfalso; simp only [push_cast, seval, *] at hc; done) | (exact absurd hc (by decide)) | ((try first | rw [Bool.not_true] at hc | rw [Bool.not_false] at hc); first | (with_reducible replace hc := tTT hc); clear hc | (with_reducible replace hc := tFF hc); clear hc | (have hp := hc; try simp only [decide_eq_true_eq, decide_eq_false_iff_not, bA, bB, bC, bD, bE, bF, bG, bH] at hp))))
    | (refine Kn.go hK ?_; clear hK K)
    | refine Kn.go (by assumption) ?_
    | (intro n hn; (try simp only [upd_none2, join_none_iff, ite_none, ne_eq] at hn); (try simp only [push_cast, seval, *]))
    | (intro hc)
    | fail)
    exact ⟨_, _, Weak.trans (Weak.less (by (repeat' (first | exact Heap.le_refl _ | refine hle_upd2 ?_ _ _ | (refine Heap.le_new ?_ ?_; rotate_left 1; focus (first | assumption | (simp only [upd_none2, upd_get, ne_eq, push_cast, seval, *]; done) | (simp [upd_get, *]; done))))))) (weak_zw _), rfl, rfl⟩
  have hrok2 : recOk ⟨r.s, r.k, r.v⟩ = true := hrok
  rw [hrok2] at hrc
  simp only [Bool.true_eq_false, if_false] at hrc ⊢
  obtain ⟨a, b, c, d, l⟩ := s
  obtain ⟨rs, rk, rv⟩ := r
  simp only at hbd
  simp only [Sk.av, Rec.av, nameS] at hck hrc ⊢
  clear hok hrok hrok2
  cases d
  · rw [if_neg (by decide)]
    by_cases h6 : c = 1048576
    · rw [if_pos h6]
      subst h6
      simp only [zeroSk, List.map_nil]
      refine ACall_of' Try.func22 rfl (Ent_of Try.func22 (by kernel_rfl) rfl) (by simp [Try.ntmps22]) ?_; simp only [Try.ntmps22, Try.results22]
      repeat' (first
    | refine AW_seq_kn fun K hK => ?_
    | refine AW_block ?_
    | (refine does_call rfl rfl ?_; simp only [push_cast, seval, *]; refine ACall.monoP (hck _) ?_; (try simp only [push_cast, seval, *]))
    | (refine does_call rfl rfl ?_; simp only [push_cast, seval, *]; refine ACall.monoP (hrc _) ?_; (try simp only [push_cast, seval, *]))
    | ((first
      | refine AW_region_draw (id := 12) E0 (fun f => [].contains f) dLSK0 dASK0 mixed (by kernel_rfl) ?_
      | refine AW_region E0 ?_ | refine AW_ret ?_ | refine AW_exit ?_ | refine AW_skip ?_ | unfold retQ); try simp only [push_cast, seval, *])
    | (apply AW_cond; (case hc => (simp only [push_cast, seval]; rfl)); all_goals (intro hc; first | (exfalso; simp only [push_cast, seval, *] at hc; done) | (exact absurd hc (by decide)) | ((try first | rw [Bool.not_true] at hc | rw [Bool.not_false] at hc); first | (with_reducible replace hc := tTT hc); clear hc | (with_reducible replace hc := tFF hc); clear hc | (have hp := hc; try simp only [decide_eq_true_eq, decide_eq_false_iff_not, bA, bB, bC, bD, bE, bF, bG, bH] at hp))))
    | (refine Kn.go hK ?_; clear hK K)
    | refine Kn.go (by assumption) ?_
    | (intro n hn; (try simp only [upd_none2, join_none_iff, ite_none, ne_eq] at hn); (try simp only [push_cast, seval, *]))
    | (intro hc)
    | fail)
      exact ⟨_, _, Weak.trans (Weak.less (by (repeat' (first | exact Heap.le_refl _ | refine hle_upd2 ?_ _ _ | (refine Heap.le_new ?_ ?_; rotate_left 1; focus (first | assumption | (simp only [upd_none2, upd_get, ne_eq, push_cast, seval, *]; done) | (simp [upd_get, *]; done))))))) (weak_zw _), rfl, rfl⟩
    · rw [if_neg h6]
      obtain ⟨c1, hc1⟩ : ∃ c1, c1 = c + 1 := ⟨_, rfl⟩
      have hw : IntKind.i64.wrap (c + 1) = c1 := by rw [hc1]; exact wrap_i64 (by omega) (by omega)
      rw [← hc1]
      replace hc1 := Lib.hid hc1
      simp only [List.map_cons, List.map_nil, actS, Act.av, if_true, zRec, show (1 : Int) ≠ 2 by decide, if_false]
      refine ACall_of' Try.func22 rfl (Ent_of Try.func22 (by kernel_rfl) rfl) (by simp [Try.ntmps22]) ?_; simp only [Try.ntmps22, Try.results22]
      repeat' (first
    | refine AW_seq_kn fun K hK => ?_
    | refine AW_block ?_
    | (refine does_call rfl rfl ?_; simp only [push_cast, seval, *]; refine ACall.monoP (hck _) ?_; (try simp only [push_cast, seval, *]))
    | (refine does_call rfl rfl ?_; simp only [push_cast, seval, *]; refine ACall.monoP (hrc _) ?_; (try simp only [push_cast, seval, *]))
    | ((first
      | refine AW_region_draw (id := 12) E0 (fun f => [].contains f) dLSK0 dASK0 mixed (by kernel_rfl) ?_
      | refine AW_region E0 ?_ | refine AW_ret ?_ | refine AW_exit ?_ | refine AW_skip ?_ | unfold retQ); try simp only [push_cast, seval, *])
    | (apply AW_cond; (case hc => (simp only [push_cast, seval]; rfl)); all_goals (intro hc; first | (exfalso; simp only [push_cast, seval, *] at hc; done) | (exact absurd hc (by decide)) | ((try first | rw [Bool.not_true] at hc | rw [Bool.not_false] at hc); first | (with_reducible replace hc := tTT hc); clear hc | (with_reducible replace hc := tFF hc); clear hc | (have hp := hc; try simp only [decide_eq_true_eq, decide_eq_false_iff_not, bA, bB, bC, bD, bE, bF, bG, bH] at hp))))
    | (refine Kn.go hK ?_; clear hK K)
    | refine Kn.go (by assumption) ?_
    | (intro n hn; (try simp only [upd_none2, join_none_iff, ite_none, ne_eq] at hn); (try simp only [push_cast, seval, *]))
    | (intro hc)
    | fail)
      rename_i n1 h1 n2 h2 n3 h3
      obtain ⟨Gs, hGs⟩ : ∃ Gs : Heap, Gs = upd (upd (upd (upd H n1 (.r 34 5 1 [[.c (.int .i64 a), .c (.int .i64 b), .c (.int .i64 c), .c (.bool false), .l 3 (l.map Nm.av)]])) n2 (.r 36 3 1 [[.c (.int .i64 rs), .c (.int .i64 rk), .c (.int .i64 rv)]])) n3 (.r 34 5 1 [[.c (.int .i64 0), .c (.int .i64 0), .c (.int .i64 0), .c (.bool false), .c (.slice none 0 0)]])) n1 (.r 34 5 1 [[.c (.int .i64 a), .c (.int .i64 b), .c (.int .i64 c1), .c (.bool true), .l 3 (l.map Nm.av)]]) := ⟨_, rfl⟩
      have g1 : Gs n1 = some (.r 34 5 1 [[.c (.int .i64 a), .c (.int .i64 b), .c (.int .i64 c1), .c (.bool true), .l 3 (l.map Nm.av)]]) := by rw [hGs]; exact upd_same _ _ _
      have g2 : Gs n2 = some (.r 36 3 1 [[.c (.int .i64 rs), .c (.int .i64 rk), .c (.int .i64 rv)]]) := by rw [hGs]; simp only [push_cast, seval, upd_get, *]
      have g3 : Gs n3 = some (.r 34 5 1 [[.c (.int .i64 0), .c (.int .i64 0), .c (.int .i64 0), .c (.bool false), .c (.slice none 0 0)]]) := by rw [hGs]; simp only [push_cast, seval, upd_get, *]
      have gn : Gs n = none := by rw [hGs]; simp only [push_cast, seval, upd_none2, *]
      have hle : Heap.le H Gs := by
        rw [hGs]
        intro q x hq
        have c1 : q ≠ n1 := by rintro rfl; rw [h1] at hq; cases hq
        have c2 : q ≠ n2 := by rintro rfl; rw [h2.2] at hq; cases hq
        have c3 : q ≠ n3 := by rintro rfl; rw [h3.2.2] at hq; cases hq
        simp only [upd_get, if_neg c1, if_neg c2, if_neg c3]; exact hq
      have e3 : H n3 = none := h3.2.2
      rw [← hGs]
      clear hGs h1 h2 h3 hn
      refine does_app1 rfl rfl rfl rfl (OwnL.nil _ _ _) gn hE hS hB hZ rfl (by decide) (by decide) (by decide) ?_
      intro z2 H2 hz2
      rw [List.nil_append] at hz2
      have k1 := hz2.get g1
      have k2 := hz2.get g2
      have k3 := hz2.get g3
      have zcs := hz2.cs
      have zone := hz2.one
      replace hz2 := Lib.hid hz2
      replace hle := Lib.hid hle
      clear gn
      (try simp only [push_cast, seval, *])
      repeat' (first
    | refine AW_seq_kn fun K hK => ?_
    | refine AW_block ?_
    | ((first
      | refine AW_region_draw (id := 12) E0 (fun f => [].contains f) dLSK0 dASK0 mixed (by kernel_rfl) ?_
      | refine AW_region E0 ?_ | refine AW_ret ?_ | refine AW_exit ?_ | refine AW_skip ?_ | unfold retQ); try simp only [push_cast, seval, *])
    | (apply AW_cond; (case hc => (simp only [push_cast, seval]; rfl)); all_goals (intro hc; first | (exfalso; simp only [push_cast, seval, *] at hc; done) | (exact absurd hc (by decide)) | ((try first | rw [Bool.not_true] at hc | rw [Bool.not_false] at hc); first | (with_reducible replace hc := tTT hc); clear hc | (with_reducible replace hc := tFF hc); clear hc | (have hp := hc; try simp only [decide_eq_true_eq, decide_eq_false_iff_not, bA, bB, bC, bD, bE, bF, bG, bH] at hp))))
    | (refine Kn.go hK ?_; clear hK K)
    | refine Kn.go (by assumption) ?_
    | (intro n hn; (try simp only [upd_none2, join_none_iff, ite_none, ne_eq] at hn); (try simp only [push_cast, seval, *]))
    | (intro hc)
    | fail)
      refine does_app1F rfl rfl rfl rfl (unhid hz2) (by simp only [upd_none2, push_cast, seval, *]) hE hS hB hZ rfl (by decide) (by simp [maxLen]) (by simp) ?_
      clear hz2 k1 k2 k3
      simp only [List.cons_append, List.nil_append]
      (try simp only [push_cast, seval, *])
      repeat' (first
    | refine AW_seq_kn fun K hK => ?_
    | refine AW_block ?_
    | ((first
      | refine AW_region_draw (id := 12) E0 (fun f => [].contains f) dLSK0 dASK0 mixed (by kernel_rfl) ?_
      | refine AW_region E0 ?_ | refine AW_ret ?_ | refine AW_exit ?_ | refine AW_skip ?_ | unfold retQ); try simp only [push_cast, seval, *])
    | (apply AW_cond; (case hc => (simp only [push_cast, seval]; rfl)); all_goals (intro hc; first | (exfalso; simp only [push_cast, seval, *] at hc; done) | (exact absurd hc (by decide)) | ((try first | rw [Bool.not_true] at hc | rw [Bool.not_false] at hc); first | (with_reducible replace hc := tTT hc); clear hc | (with_reducible replace hc := tFF hc); clear hc | (have hp := hc; try simp only [decide_eq_true_eq, decide_eq_false_iff_not, bA, bB, bC, bD, bE, bF, bG, bH] at hp))))
    | (refine Kn.go hK ?_; clear hK K)
    | refine Kn.go (by assumption) ?_
    | (intro n hn; (try simp only [upd_none2, join_none_iff, ite_none, ne_eq] at hn); (try simp only [push_cast, seval, *]))
    | (intro hc)
    | fail)
      exact ⟨_, _, Weak.less (le_skip (unhid hle) e3), rfl, rfl⟩
  · rw [if_pos rfl]
    simp only [List.map_cons, List.map_nil, actS, Act.av, if_true, zRec]
    refine ACall_of' Try.func22 rfl (Ent_of Try.func22 (by kernel_rfl) rfl) (by simp [Try.ntmps22]) ?_; simp only [Try.ntmps22, Try.results22]
    repeat' (first
    | refine AW_seq_kn fun K hK => ?_
    | refine AW_block ?_
    | (refine does_call rfl rfl ?_; simp only [push_cast, seval, *]; refine ACall.monoP (hck _) ?_; (try simp only [push_cast, seval, *]))
    | (refine does_call rfl rfl ?_; simp only [push_cast, seval, *]; refine ACall.monoP (hrc _) ?_; (try simp only [push_cast, seval, *]))
    | ((first
      | refine AW_region_draw (id := 12) E0 (fun f => [].contains f) dLSK0 dASK0 mixed (by kernel_rfl) ?_
      | refine AW_region E0 ?_ | refine AW_ret ?_ | refine AW_exit ?_ | refine AW_skip ?_ | unfold retQ); try simp only [push_cast, seval, *])
    | (apply AW_cond; (case hc => (simp only [push_cast, seval]; rfl)); all_goals (intro hc; first | (exfalso; simp only [push_cast, seval, *] at hc; done) | (exact absurd hc (by decide)) | ((try first | rw [Bool.not_true] at hc | rw [Bool.not_false] at hc); first | (with_reducible replace hc := tTT hc); clear hc | (with_reducible replace hc := tFF hc); clear hc | (have hp := hc; try simp only [decide_eq_true_eq, decide_eq_false_iff_not, bA, bB, bC, bD, bE, bF, bG, bH] at hp))))
    | (refine Kn.go hK ?_; clear hK K)
    | refine Kn.go (by assumption) ?_
    | (intro n hn; (try simp only [upd_none2, join_none_iff, ite_none, ne_eq] at hn); (try simp only [push_cast, seval, *]))
    | (intro hc)
    | fail)
    refine does_app1F rfl rfl rfl rfl (OwnL.nil _ _ _) (by simp only [upd_none2, push_cast, seval, *]) hE hS hB hZ rfl (by decide) (by decide) (by decide) ?_
    rw [List.nil_append]
    clear hn
    (try simp only [push_cast, seval, *])
    repeat' (first
    | refine AW_seq_kn fun K hK => ?_
    | refine AW_block ?_
    | ((first
      | refine AW_region_draw (id := 12) E0 (fun f => [].contains f) dLSK0 dASK0 mixed (by kernel_rfl) ?_
      | refine AW_region E0 ?_ | refine AW_ret ?_ | refine AW_exit ?_ | refine AW_skip ?_ | unfold retQ); try simp only [push_cast, seval, *])
    | (apply AW_cond; (case hc => (simp only [push_cast, seval]; rfl)); all_goals (intro hc; first | (exfalso; simp only [push_cast, seval, *] at hc; done) | (exact absurd hc (by decide)) | ((try first | rw [Bool.not_true] at hc | rw [Bool.not_false] at hc); first | (with_reducible replace hc := tTT hc); clear hc | (with_reducible replace hc := tFF hc); clear hc | (have hp := hc; try simp only [decide_eq_true_eq, decide_eq_false_iff_not, bA, bB, bC, bD, bE, bF, bG, bH] at hp))))
    | (refine Kn.go hK ?_; clear hK K)
    | refine Kn.go (by assumption) ?_
    | (intro n hn; (try simp only [upd_none2, join_none_iff, ite_none, ne_eq] at hn); (try simp only [push_cast, seval, *]))
    | (intro hc)
    | fail)
    exact ⟨_, _, Weak.less (by (repeat' (first | exact Heap.le_refl _ | refine hle_upd2 ?_ _ _ | (refine Heap.le_new ?_ ?_; rotate_left 1; focus (first | assumption | (simp only [upd_none2, upd_get, ne_eq, push_cast, seval, *]; done) | (simp [upd_get, *]; done)))))), rfl, rfl⟩
end Go.Proofs.Ytdeckjoeggmagaa
