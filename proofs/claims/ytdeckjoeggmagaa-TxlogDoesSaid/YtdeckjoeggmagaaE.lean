/- Walks: a copy of a log is changed. -/
import Derived.Test.YtdeckjoeggmagaaC
import Derived.Test.YtdeckjoeggmagaaD
namespace Go.Proofs.Ytdeckjoeggmagaa
open Go.RowKit
open Nat renaming reduceEqDiff → nA, reduceLT → nB, reduceLeDiff → nC, reduceAdd → nD, reduceMul → nE, reduceSub → nF, reduceBEq → nG
open Int renaming reduceToNat → iA, reduceLT → iB, reduceLE → iC, reduceEq → iD
open Bool renaming and_eq_true → bA, or_eq_true → bB, or_eq_false_iff → bC, and_eq_false_iff → bD, not_eq_true' → bE, not_eq_false' → bF, not_true → bG, not_false → bH
set_option linter.all false
set_option maxHeartbeats 4000000
attribute [local irreducible] AW Does ACall tE tS tB tZ
def dLE0 : List En := [(0, false, []), (1, false, []), (3, false, []), (4, true, []), (6, false, []), (7, true, []), (2, false, [4, 7, 10]), (5, false, [7, 10]), (8, false, [10]), (9, false, []), (10, false, []), (11, false, [])]
def dAE0 : List (List Nat) := [[], [0], [0, 1], [], [3], [0, 1, 2, 3, 4], [], [6], [0, 1, 2, 3, 4, 5, 6, 7], [0, 1, 2, 3, 4, 5, 6, 7, 8], [], [0, 1, 2, 3, 4, 5, 6, 7, 8, 9, 10]]
attribute [push_cast] dLE0
def dLE1 : List En := [(0, false, []), (1, true, []), (2, false, []), (3, false, []), (4, false, []), (5, false, []), (6, false, []), (7, false, []), (8, false, []), (9, false, [1]), (10, false, []), (11, false, []), (12, false, [])]
def dAE1 : List (List Nat) := [[], [0], [], [], [3], [], [3, 4, 5], [3, 4, 5, 6], [3, 4, 5, 6, 7], [3, 4, 5, 6, 7, 8], [0, 1, 2, 3, 4, 5, 6, 7, 8, 9], [0, 1, 2, 3, 4, 5, 6, 7, 8, 9, 10], [0, 1, 2, 3, 4, 5, 6, 7, 8, 9, 10, 11]]
attribute [push_cast] dLE1
set_option maxRecDepth 5000

theorem with_no (l : Lg) (hf : l.fits) (ns : List Nm) (hok : lgOk l = false) (gf : FuncId) (caps : List AV) (H : Heap) :
    ACall Try.prog 75 [.g (Lg.av l), .f (.func gf) [] caps, .l 3 (ns.map Nm.av)] H fun r H' => r = .t [.g zL, .c (.int .i64 260)] ∧ H' = H := by
  have hch := Check_p l hf
  rw [hok] at hch
  obtain ⟨a, b, c⟩ := l
  simp only [Lg.av, Bool.false_eq_true, if_false] at hch ⊢
  clear hf hok
  refine ACall_of' Try.func75 rfl (Ent_of Try.func75 (by kernel_rfl) rfl) (by simp [Try.ntmps75]) ?_; simp only [Try.ntmps75, Try.results75]
  repeat' (first
    | refine AW_seq_kn fun K hK => ?_
    | refine AW_block ?_
    | (refine does_call rfl rfl ?_; simp only [push_cast, seval, *]; refine ACall.monoP (hch _) ?_; (try simp only [push_cast, seval, *]))
    | ((first
      | refine AW_region_draw (id := 11) E0 (fun f => [].contains f) dLE0 dAE0 mixed (by kernel_rfl) ?_
      | refine AW_region_draw (id := 15) E0 (fun f => [].contains f) dLE1 dAE1 mixed (by kernel_rfl) ?_
      | refine AW_region E0 ?_ | refine AW_ret ?_ | refine AW_exit ?_ | refine AW_skip ?_ | unfold retQ); try simp only [push_cast, seval, *])
    | (apply AW_cond; (case hc => (simp only [push_cast, seval]; rfl)); all_goals (intro hc; first | (exfalso; simp only [push_cast, seval, *] at hc; done) | (exact absurd hc (by decide)) | ((try first | rw [Bool.not_true] at hc | rw [Bool.not_false] at hc); first | (with_reducible replace hc := tTT hc); clear hc | (with_reducible replace hc := tFF hc); clear hc | (have hp := hc; try simp only [decide_eq_true_eq, decide_eq_false_iff_not, bA, bB, bC, bD, bE, bF, bG, bH] at hp))))
    | (refine Kn.go hK ?_; clear hK K)
    | refine Kn.go (by assumption) ?_
    | (intro n hn; (try simp only [upd_none2, join_none_iff, ite_none, ne_eq] at hn); (try simp only [push_cast, seval, *]))
    | (intro hc)
    | fail)
  exact ⟨_, _, Weak.less (by (repeat' (first | exact Heap.le_refl _ | refine hle_upd2 ?_ _ _ | (refine Heap.le_new ?_ ?_; rotate_left 1; focus (first | assumption | (simp only [upd_none2, upd_get, ne_eq, push_cast, seval, *]; done) | (simp [upd_get, *]; done)))))), rfl, rfl⟩
theorem with_nm (l : Lg) (hf : l.fits) (ns : List Nm) (hns : ns.length ≤ maxLen) (hok : lgOk l = true) (hno : ns.all nmOk = false) (gf : FuncId) (caps : List AV) (H : Heap) :
    ACall Try.prog 75 [.g (Lg.av l), .f (.func gf) [] caps, .l 3 (ns.map Nm.av)] H fun r H' => r = .t [.g zL, .c (.int .i64 2)] ∧ H' = H := by
  have hch := Check_p l hf
  rw [hok] at hch
  obtain ⟨a, b, c⟩ := l
  simp only [Lg.av, if_true] at hch ⊢
  unfold maxLen at hns
  clear hf hok
  replace hno := Lib.hid hno
  refine ACall_of' Try.func75 rfl (Ent_of Try.func75 (by kernel_rfl) rfl) (by simp [Try.ntmps75]) ?_; simp only [Try.ntmps75, Try.results75]
  repeat' (first
    | refine AW_seq_kn fun K hK => ?_
    | refine AW_block ?_
    | (refine does_call rfl rfl ?_; simp only [push_cast, seval, *]; refine ACall.monoP (hch _) ?_; (try simp only [push_cast, seval, *]))
    | ((first
      | refine AW_region_draw (id := 11) E0 (fun f => [].contains f) dLE0 dAE0 mixed (by kernel_rfl) ?_
      | refine AW_region_draw (id := 15) E0 (fun f => [].contains f) dLE1 dAE1 mixed (by kernel_rfl) ?_
      | refine AW_region E0 ?_ | refine AW_ret ?_ | refine AW_exit ?_ | refine AW_skip ?_ | unfold retQ); try simp only [push_cast, seval, *])
    | (apply AW_cond; (case hc => (simp only [push_cast, seval]; rfl)); all_goals (intro hc; first | (exfalso; simp only [push_cast, seval, *] at hc; done) | (exact absurd hc (by decide)) | ((try first | rw [Bool.not_true] at hc | rw [Bool.not_false] at hc); first | (with_reducible replace hc := tTT hc); clear hc | (with_reducible replace hc := tFF hc); clear hc | (have hp := hc; try simp only [decide_eq_true_eq, decide_eq_false_iff_not, bA, bB, bC, bD, bE, bF, bG, bH] at hp))))
    | (refine Kn.go hK ?_; clear hK K)
    | refine Kn.go (by assumption) ?_
    | (intro n hn; (try simp only [upd_none2, join_none_iff, ite_none, ne_eq] at hn); (try simp only [push_cast, seval, *]))
    | (intro hc)
    | fail)
  rename_i n1 h1
  generalize n = n2 at *
  have n12 : ¬ n1 = n2 := hn.1.2
  have n21 : ¬ n2 = n1 := hn.1.1
  have gn2 : H n2 = none := hn.2
  refine AW_loopN ns.length (fun k => (ns.drop k).all nmOk = false) (fun k => [(1, .f (.func gf) [] caps), (3, .p n1 3 0 0), (6, .p n2 3 0 0), (21, .l 3 (ns.map Nm.av)), (22, ci ns.length), (23, ci k)]) (fun _ => upd (upd H n1 (.r 47 3 1 [[.l 5 (a.map Tx.av), .l 3 (b.map Nm.av), .l 3 (c.map Rec.av)]])) n2 (.r 47 3 1 [zL])) (by rw [List.drop_zero]; exact unhid hno) ?_ ?_ ?_ ?_
  · (first | trivial | (simp only [push_cast, seval, *]; done))
  · exact Heap.le_refl _
  · intro k hk hinv
    have hx := List.getElem?_eq_getElem (l := ns) hk; generalize ns[k] = x at hx; have hxm := List.mem_of_getElem? hx; have hkl : (k : Int) < ns.length := (by omega); have hkw : IntKind.i64.wrap ((k : Int) + 1) = (k : Int) + 1 := wrap_i64 (by omega) (by omega)
    rw [drop_get hx, List.all_cons] at hinv
    have hcn := CheckName_p x
    obtain ⟨s, at_, m⟩ := x
    have hnv : Nm.av ⟨s, at_, m⟩ = [.c (.int .i64 s), .c (.int .i64 at_), .c (.int .i64 m)] := rfl
    simp only [hnv] at hcn
    clear hxm hno hch
    cases hnm : nmOk ⟨s, at_, m⟩
    · rw [hnm] at hcn
      simp only [Bool.false_eq_true, if_false] at hcn
      clear hinv hnm
      repeat' (first
    | refine AW_seq_kn fun K hK => ?_
    | refine AW_block ?_
    | (refine does_call rfl rfl ?_; simp only [push_cast, seval, *]; refine ACall.monoP (hcn _) ?_; (try simp only [push_cast, seval, *]))
    | ((first
      | refine AW_region_draw (id := 11) E0 (fun f => [].contains f) dLE0 dAE0 mixed (by kernel_rfl) ?_
      | refine AW_region_draw (id := 15) E0 (fun f => [].contains f) dLE1 dAE1 mixed (by kernel_rfl) ?_
      | refine AW_region E0 ?_ | refine AW_ret ?_ | refine AW_exit ?_ | refine AW_skip ?_ | unfold retQ); try simp only [push_cast, seval, *])
    | (apply AW_cond; (case hc => (simp only [push_cast, seval]; rfl)); all_goals (intro hc; first | (exfalso; simp only [push_cast, seval, *] at hc; done) | (exact absurd hc (by decide)) | ((try first | rw [Bool.not_true] at hc | rw [Bool.not_false] at hc); first | (with_reducible replace hc := tTT hc); clear hc | (with_reducible replace hc := tFF hc); clear hc | (have hp := hc; try simp only [decide_eq_true_eq, decide_eq_false_iff_not, bA, bB, bC, bD, bE, bF, bG, bH] at hp))))
    | (refine Kn.go hK ?_; clear hK K)
    | refine Kn.go (by assumption) ?_
    | (intro n hn; (try simp only [upd_none2, join_none_iff, ite_none, ne_eq] at hn); (try simp only [push_cast, seval, *]))
    | (intro hc)
    | fail)
      exact ⟨_, _, Weak.less (by repeat' (first | exact Heap.le_refl _ | refine le_skip ?_ (by first | exact h1 | exact gn2 | exact hn.2 | exact hn.2.2))), rfl, rfl⟩
    · rw [hnm, Bool.true_and] at hinv
      rw [hnm] at hcn
      simp only [if_true] at hcn
      clear hnm
      replace hinv := Lib.hid hinv
      repeat' (first
    | refine AW_seq_kn fun K hK => ?_
    | refine AW_block ?_
    | (refine does_call rfl rfl ?_; simp only [push_cast, seval, *]; refine ACall.monoP (hcn _) ?_; (try simp only [push_cast, seval, *]))
    | ((first
      | refine AW_region_draw (id := 11) E0 (fun f => [].contains f) dLE0 dAE0 mixed (by kernel_rfl) ?_
      | refine AW_region_draw (id := 15) E0 (fun f => [].contains f) dLE1 dAE1 mixed (by kernel_rfl) ?_
      | refine AW_region E0 ?_ | refine AW_ret ?_ | refine AW_exit ?_ | refine AW_skip ?_ | unfold retQ); try simp only [push_cast, seval, *])
    | (apply AW_cond; (case hc => (simp only [push_cast, seval]; rfl)); all_goals (intro hc; first | (exfalso; simp only [push_cast, seval, *] at hc; done) | (exact absurd hc (by decide)) | ((try first | rw [Bool.not_true] at hc | rw [Bool.not_false] at hc); first | (with_reducible replace hc := tTT hc); clear hc | (with_reducible replace hc := tFF hc); clear hc | (have hp := hc; try simp only [decide_eq_true_eq, decide_eq_false_iff_not, bA, bB, bC, bD, bE, bF, bG, bH] at hp))))
    | (refine Kn.go hK ?_; clear hK K)
    | refine Kn.go (by assumption) ?_
    | (intro n hn; (try simp only [upd_none2, join_none_iff, ite_none, ne_eq] at hn); (try simp only [push_cast, seval, *]))
    | (intro hc)
    | fail)
      exact ⟨unhid hinv, by (first | trivial | (simp only [push_cast, seval, *]; done)), by first | trivial | (repeat' (first | exact Heap.le_refl _ | refine hle_upd2 ?_ _ _ | (refine Heap.le_new ?_ ?_; rotate_left 1; focus (first | assumption | (simp only [upd_none2, upd_get, ne_eq, push_cast, seval, *]; done) | (simp [upd_get, *]; done)))))⟩
  · intro hinv
    simp at hinv
end Go.Proofs.Ytdeckjoeggmagaa
