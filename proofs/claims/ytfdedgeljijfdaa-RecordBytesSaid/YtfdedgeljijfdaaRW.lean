/- Walks: rows that may be; bytes, one behind another; the same bytes. -/
import Derived.Test.YtfdedgeljijfdaaRB
import Derived.Test.YtfdedgeljijfdaaB
namespace Go.Proofs.Ytfdedgeljijfdaa
open Go.RowKit
open Nat renaming reduceEqDiff → nA, reduceLT → nB, reduceLeDiff → nC, reduceAdd → nD, reduceMul → nE, reduceSub → nF, reduceBEq → nG
open Int renaming reduceToNat → iA, reduceLT → iB, reduceLE → iC, reduceEq → iD
open Bool renaming and_eq_true → bA, or_eq_true → bB, or_eq_false_iff → bC, and_eq_false_iff → bD, not_eq_true' → bE, not_eq_false' → bF, not_true → bG, not_false → bH
set_option linter.all false
set_option maxHeartbeats 4000000
attribute [local irreducible] AW Does ACall tE tS tB tZ
def dLRW0 : List En := [(0, false, []), (1, false, []), (2, false, []), (3, false, []), (4, false, []), (5, false, []), (6, false, []), (7, false, []), (8, false, [])]
def dARW0 : List (List Nat) := [[], [], [0, 1], [0, 1, 2], [], [], [4, 5], [4, 5, 6], [0, 1, 2, 3, 4, 5, 6, 7]]
attribute [push_cast] dLRW0

theorem same64_p (l : List Int) (hl : l.length ≤ maxLen) : Pure Try.prog 21 [.l 1 (l.map i1), .l 1 (l.map i1)] (.c (.bool true)) := by
  intro H
  unfold maxLen at hl
  refine ACall_of' Try.func21 rfl (Ent_of Try.func21 (by kernel_rfl) rfl) (by simp [Try.ntmps21]) ?_; simp only [Try.ntmps21, Try.results21]
  repeat' (first
    | refine AW_seq_kn fun K hK => ?_
    | refine AW_block ?_
    | ((first
      | refine AW_region_draw (id := 6) E0 (fun f => [].contains f) dLRW0 dARW0 mixed (by kernel_rfl) ?_
      | refine AW_region E0 ?_ | refine AW_ret ?_ | refine AW_exit ?_ | refine AW_skip ?_ | unfold retQ); try simp only [push_cast, seval, *])
    | (apply AW_cond; (case hc => (simp only [push_cast, seval]; rfl)); all_goals (intro hc; first | (exfalso; simp only [push_cast, seval, *] at hc; done) | (exact absurd hc (by decide)) | ((try first | rw [Bool.not_true] at hc | rw [Bool.not_false] at hc); first | (with_reducible replace hc := tTT hc); clear hc | (with_reducible replace hc := tFF hc); clear hc | (have hp := hc; try simp only [decide_eq_true_eq, decide_eq_false_iff_not, bA, bB, bC, bD, bE, bF, bG, bH] at hp))))
    | (refine Kn.go hK ?_; clear hK K)
    | refine Kn.go (by assumption) ?_
    | (intro n hn; (try simp only [upd_none2, join_none_iff, ite_none, ne_eq] at hn); (try simp only [push_cast, seval, *]))
    | (intro hc)
    | fail)
  refine AW_loopN l.length (fun _ => True) (fun k => [(0, .l 1 (l.map i1)), (1, .l 1 (l.map i1)), (12, ci l.length), (13, ci k)]) (fun _ => H) trivial ?_ ?_ ?_ ?_
  · (first | trivial | (simp only [push_cast, seval, *]; done))
  · exact Heap.le_refl _
  · rintro k hk -
    have hx := List.getElem?_eq_getElem (l := l) hk; generalize l[k] = x at hx; have hxm := List.mem_of_getElem? hx; have hkl : (k : Int) < l.length := (by omega); have hkw : IntKind.i64.wrap ((k : Int) + 1) = (k : Int) + 1 := wrap_i64 (by omega) (by omega)
    have hi : i1 x = [.c (.int .i64 x)] := rfl
    clear hxm
    repeat' (first
    | refine AW_seq_kn fun K hK => ?_
    | refine AW_block ?_
    | ((first
      | refine AW_region_draw (id := 6) E0 (fun f => [].contains f) dLRW0 dARW0 mixed (by kernel_rfl) ?_
      | refine AW_region E0 ?_ | refine AW_ret ?_ | refine AW_exit ?_ | refine AW_skip ?_ | unfold retQ); try simp only [push_cast, seval, *])
    | (apply AW_cond; (case hc => (simp only [push_cast, seval]; rfl)); all_goals (intro hc; first | (exfalso; simp only [push_cast, seval, *] at hc; done) | (exact absurd hc (by decide)) | ((try first | rw [Bool.not_true] at hc | rw [Bool.not_false] at hc); first | (with_reducible replace hc := tTT hc); clear hc | (with_reducible replace hc := tFF hc); clear hc | (have hp := hc; try simp only [decide_eq_true_eq, decide_eq_false_iff_not, bA, bB, bC, bD, bE, bF, bG, bH] at hp))))
    | (refine Kn.go hK ?_; clear hK K)
    | refine Kn.go (by assumption) ?_
    | (intro n hn; (try simp only [upd_none2, join_none_iff, ite_none, ne_eq] at hn); (try simp only [push_cast, seval, *]))
    | (intro hc)
    | fail)
    exact ⟨trivial, by (first | trivial | (simp only [push_cast, seval, *]; done)), by first | trivial | exact Heap.le_refl _⟩
  · rintro -
    repeat' (first
    | refine AW_seq_kn fun K hK => ?_
    | refine AW_block ?_
    | ((first
      | refine AW_region_draw (id := 6) E0 (fun f => [].contains f) dLRW0 dARW0 mixed (by kernel_rfl) ?_
      | refine AW_region E0 ?_ | refine AW_ret ?_ | refine AW_exit ?_ | refine AW_skip ?_ | unfold retQ); try simp only [push_cast, seval, *])
    | (apply AW_cond; (case hc => (simp only [push_cast, seval]; rfl)); all_goals (intro hc; first | (exfalso; simp only [push_cast, seval, *] at hc; done) | (exact absurd hc (by decide)) | ((try first | rw [Bool.not_true] at hc | rw [Bool.not_false] at hc); first | (with_reducible replace hc := tTT hc); clear hc | (with_reducible replace hc := tFF hc); clear hc | (have hp := hc; try simp only [decide_eq_true_eq, decide_eq_false_iff_not, bA, bB, bC, bD, bE, bF, bG, bH] at hp))))
    | (refine Kn.go hK ?_; clear hK K)
    | refine Kn.go (by assumption) ?_
    | (intro n hn; (try simp only [upd_none2, join_none_iff, ite_none, ne_eq] at hn); (try simp only [push_cast, seval, *]))
    | (intro hc)
    | fail)
    exact ⟨_, _, Weak.refl _ _, rfl, rfl⟩
theorem sameBy_p (l : List Int) (hl : l.length ≤ maxLen) : Pure Try.prog 25 [.l 1 (l.map by1), .l 1 (l.map by1)] (.c (.bool true)) := by
  intro H
  unfold maxLen at hl
  refine ACall_of' Try.func25 rfl (Ent_of Try.func25 (by kernel_rfl) rfl) (by simp [Try.ntmps25]) ?_; simp only [Try.ntmps25, Try.results25]
  repeat' (first
    | refine AW_seq_kn fun K hK => ?_
    | refine AW_block ?_
    | ((first
      | refine AW_region_draw (id := 6) E0 (fun f => [].contains f) dLRW0 dARW0 mixed (by kernel_rfl) ?_
      | refine AW_region E0 ?_ | refine AW_ret ?_ | refine AW_exit ?_ | refine AW_skip ?_ | unfold retQ); try simp only [push_cast, seval, *])
    | (apply AW_cond; (case hc => (simp only [push_cast, seval]; rfl)); all_goals (intro hc; first | (exfalso; simp only [push_cast, seval, *] at hc; done) | (exact absurd hc (by decide)) | ((try first | rw [Bool.not_true] at hc | rw [Bool.not_false] at hc); first | (with_reducible replace hc := tTT hc); clear hc | (with_reducible replace hc := tFF hc); clear hc | (have hp := hc; try simp only [decide_eq_true_eq, decide_eq_false_iff_not, bA, bB, bC, bD, bE, bF, bG, bH] at hp))))
    | (refine Kn.go hK ?_; clear hK K)
    | refine Kn.go (by assumption) ?_
    | (intro n hn; (try simp only [upd_none2, join_none_iff, ite_none, ne_eq] at hn); (try simp only [push_cast, seval, *]))
    | (intro hc)
    | fail)
  refine AW_loopN l.length (fun _ => True) (fun k => [(0, .l 1 (l.map by1)), (1, .l 1 (l.map by1)), (5, ci k)]) (fun _ => H) trivial ?_ ?_ ?_ ?_
  · (first | trivial | (simp only [push_cast, seval, *]; done))
  · exact Heap.le_refl _
  · rintro k hk -
    have hx := List.getElem?_eq_getElem (l := l) hk; generalize l[k] = x at hx; have hxm := List.mem_of_getElem? hx; have hkl : (k : Int) < l.length := (by omega); have hkw : IntKind.i64.wrap ((k : Int) + 1) = (k : Int) + 1 := wrap_i64 (by omega) (by omega)
    have hi : by1 x = [.c (.int .u8 x)] := rfl
    clear hxm
    repeat' (first
    | refine AW_seq_kn fun K hK => ?_
    | refine AW_block ?_
    | ((first
      | refine AW_region_draw (id := 6) E0 (fun f => [].contains f) dLRW0 dARW0 mixed (by kernel_rfl) ?_
      | refine AW_region E0 ?_ | refine AW_ret ?_ | refine AW_exit ?_ | refine AW_skip ?_ | unfold retQ); try simp only [push_cast, seval, *])
    | (apply AW_cond; (case hc => (simp only [push_cast, seval]; rfl)); all_goals (intro hc; first | (exfalso; simp only [push_cast, seval, *] at hc; done) | (exact absurd hc (by decide)) | ((try first | rw [Bool.not_true] at hc | rw [Bool.not_false] at hc); first | (with_reducible replace hc := tTT hc); clear hc | (with_reducible replace hc := tFF hc); clear hc | (have hp := hc; try simp only [decide_eq_true_eq, decide_eq_false_iff_not, bA, bB, bC, bD, bE, bF, bG, bH] at hp))))
    | (refine Kn.go hK ?_; clear hK K)
    | refine Kn.go (by assumption) ?_
    | (intro n hn; (try simp only [upd_none2, join_none_iff, ite_none, ne_eq] at hn); (try simp only [push_cast, seval, *]))
    | (intro hc)
    | fail)
    exact ⟨trivial, by (first | trivial | (simp only [push_cast, seval, *]; done)), by first | trivial | exact Heap.le_refl _⟩
  · rintro -
    repeat' (first
    | refine AW_seq_kn fun K hK => ?_
    | refine AW_block ?_
    | ((first
      | refine AW_region_draw (id := 6) E0 (fun f => [].contains f) dLRW0 dARW0 mixed (by kernel_rfl) ?_
      | refine AW_region E0 ?_ | refine AW_ret ?_ | refine AW_exit ?_ | refine AW_skip ?_ | unfold retQ); try simp only [push_cast, seval, *])
    | (apply AW_cond; (case hc => (simp only [push_cast, seval]; rfl)); all_goals (intro hc; first | (exfalso; simp only [push_cast, seval, *] at hc; done) | (exact absurd hc (by decide)) | ((try first | rw [Bool.not_true] at hc | rw [Bool.not_false] at hc); first | (with_reducible replace hc := tTT hc); clear hc | (with_reducible replace hc := tFF hc); clear hc | (have hp := hc; try simp only [decide_eq_true_eq, decide_eq_false_iff_not, bA, bB, bC, bD, bE, bF, bG, bH] at hp))))
    | (refine Kn.go hK ?_; clear hK K)
    | refine Kn.go (by assumption) ?_
    | (intro n hn; (try simp only [upd_none2, join_none_iff, ite_none, ne_eq] at hn); (try simp only [push_cast, seval, *]))
    | (intro hc)
    | fail)
    exact ⟨_, _, Weak.refl _ _, rfl, rfl⟩
def rrS (l : List El) : Bool := l.all elOk && decide (l.length ≤ 200)
theorem rightRow_p (l : List El) (hl : l.length ≤ maxLen) : Pure Try.prog 24 [.l 5 (l.map El.av)] (.c (.bool (rrS l))) := by
  intro H
  unfold maxLen at hl
  obtain ⟨R, hR⟩ : ∃ R, rrS l = R := ⟨_, rfl⟩
  rw [hR]
  replace hR := Lib.hid hR
  refine ACall_of' Try.func24 rfl (Ent_of Try.func24 (by kernel_rfl) rfl) (by simp [Try.ntmps24]) ?_; simp only [Try.ntmps24, Try.results24]
  repeat' (first
    | refine AW_seq_kn fun K hK => ?_
    | refine AW_block ?_
    | ((first
      | refine AW_region E0 ?_ | refine AW_ret ?_ | refine AW_exit ?_ | refine AW_skip ?_ | unfold retQ); try simp only [push_cast, seval, *])
    | (apply AW_cond; (case hc => (simp only [push_cast, seval]; rfl)); all_goals (intro hc; first | (exfalso; simp only [push_cast, seval, *] at hc; done) | (exact absurd hc (by decide)) | ((try first | rw [Bool.not_true] at hc | rw [Bool.not_false] at hc); first | (with_reducible replace hc := tTT hc); clear hc | (with_reducible replace hc := tFF hc); clear hc | (have hp := hc; try simp only [decide_eq_true_eq, decide_eq_false_iff_not, bA, bB, bC, bD, bE, bF, bG, bH] at hp))))
    | (refine Kn.go hK ?_; clear hK K)
    | refine Kn.go (by assumption) ?_
    | (intro n hn; (try simp only [upd_none2, join_none_iff, ite_none, ne_eq] at hn); (try simp only [push_cast, seval, *]))
    | (intro hc)
    | fail)
  refine AW_loopN l.length (fun k => ∀ y ∈ l.take k, elOk y = true) (fun k => [(0, .l 5 (l.map El.av)), (3, ci k)]) (fun _ => H) (by simp) ?_ ?_ ?_ ?_
  · (first | trivial | (simp only [push_cast, seval, *]; done))
  · exact Heap.le_refl _
  · intro k hk hall
    have hx := List.getElem?_eq_getElem (l := l) hk; generalize l[k] = x at hx; have hxm := List.mem_of_getElem? hx; have hkl : (k : Int) < l.length := (by omega); have hkw : IntKind.i64.wrap ((k : Int) + 1) = (k : Int) + 1 := wrap_i64 (by omega) (by omega)
    have hre := rightEl_p x
    have hsn : l.take (k + 1) = l.take k ++ [x] := take_snoc hx
    cases hx2 : elOk x
    · have hR2 : R = false := by
        rw [← unhid hR]; unfold rrS
        rw [Bool.and_eq_false_iff]; left
        rw [List.all_eq_false]; exact ⟨x, hxm, by simp [hx2]⟩
      subst hR2
      rw [hx2] at hre
      obtain ⟨kd, s, kk, vv, nm⟩ := x
      have hav : El.av ⟨kd, s, kk, vv, nm⟩ = [.c (.int .i64 kd), .c (.int .i64 s), .c (.int .i64 kk), .c (.int .i64 vv), .c (.int .u64 nm)] := rfl
      rw [hav] at hre
      replace hall := Lib.hid hall
      clear hxm hR hx2 hsn
      repeat' (first
    | refine AW_seq_kn fun K hK => ?_
    | refine AW_block ?_
    | (refine does_call rfl rfl ?_; simp only [push_cast, seval, *]; refine ACall.monoP (hre _) ?_; (try simp only [push_cast, seval, *]))
    | ((first
      | refine AW_region E0 ?_ | refine AW_ret ?_ | refine AW_exit ?_ | refine AW_skip ?_ | unfold retQ); try simp only [push_cast, seval, *])
    | (apply AW_cond; (case hc => (simp only [push_cast, seval]; rfl)); all_goals (intro hc; first | (exfalso; simp only [push_cast, seval, *] at hc; done) | (exact absurd hc (by decide)) | ((try first | rw [Bool.not_true] at hc | rw [Bool.not_false] at hc); first | (with_reducible replace hc := tTT hc); clear hc | (with_reducible replace hc := tFF hc); clear hc | (have hp := hc; try simp only [decide_eq_true_eq, decide_eq_false_iff_not, bA, bB, bC, bD, bE, bF, bG, bH] at hp))))
    | (refine Kn.go hK ?_; clear hK K)
    | refine Kn.go (by assumption) ?_
    | (intro n hn; (try simp only [upd_none2, join_none_iff, ite_none, ne_eq] at hn); (try simp only [push_cast, seval, *]))
    | (intro hc)
    | fail)
      exact ⟨_, _, Weak.refl _ _, rfl, rfl⟩
    · rw [hx2] at hre
      have hall2 : ∀ y ∈ l.take (k + 1), elOk y = true := by
        intro y hy
        rw [hsn] at hy
        rcases List.mem_append.1 hy with hy | hy
        · exact hall y hy
        · rw [List.mem_singleton.1 hy]; exact hx2
      obtain ⟨kd, s, kk, vv, nm⟩ := x
      have hav : El.av ⟨kd, s, kk, vv, nm⟩ = [.c (.int .i64 kd), .c (.int .i64 s), .c (.int .i64 kk), .c (.int .i64 vv), .c (.int .u64 nm)] := rfl
      rw [hav] at hre
      replace hall2 := Lib.hid hall2
      clear hxm hx2 hsn hall
      repeat' (first
    | refine AW_seq_kn fun K hK => ?_
    | refine AW_block ?_
    | (refine does_call rfl rfl ?_; simp only [push_cast, seval, *]; refine ACall.monoP (hre _) ?_; (try simp only [push_cast, seval, *]))
    | ((first
      | refine AW_region E0 ?_ | refine AW_ret ?_ | refine AW_exit ?_ | refine AW_skip ?_ | unfold retQ); try simp only [push_cast, seval, *])
    | (apply AW_cond; (case hc => (simp only [push_cast, seval]; rfl)); all_goals (intro hc; first | (exfalso; simp only [push_cast, seval, *] at hc; done) | (exact absurd hc (by decide)) | ((try first | rw [Bool.not_true] at hc | rw [Bool.not_false] at hc); first | (with_reducible replace hc := tTT hc); clear hc | (with_reducible replace hc := tFF hc); clear hc | (have hp := hc; try simp only [decide_eq_true_eq, decide_eq_false_iff_not, bA, bB, bC, bD, bE, bF, bG, bH] at hp))))
    | (refine Kn.go hK ?_; clear hK K)
    | refine Kn.go (by assumption) ?_
    | (intro n hn; (try simp only [upd_none2, join_none_iff, ite_none, ne_eq] at hn); (try simp only [push_cast, seval, *]))
    | (intro hc)
    | fail)
      exact ⟨unhid hall2, by (first | trivial | (simp only [push_cast, seval, *]; done)), by first | trivial | exact Heap.le_refl _⟩
  · intro hall
    rw [List.take_length] at hall
    have hR2 : R = decide (l.length ≤ 200) := by
      rw [← unhid hR]; unfold rrS
      rw [List.all_eq_true.2 hall, Bool.true_and]
    have hR3 : decide ((l.length : Int) ≤ 200) = R := by rw [hR2, decide_eq_decide]; omega
    replace hall := Lib.hid hall
    clear hR hR2
    repeat' (first
    | refine AW_seq_kn fun K hK => ?_
    | refine AW_block ?_
    | ((first
      | refine AW_region E0 ?_ | refine AW_ret ?_ | refine AW_exit ?_ | refine AW_skip ?_ | unfold retQ); try simp only [push_cast, seval, *])
    | (apply AW_cond; (case hc => (simp only [push_cast, seval]; rfl)); all_goals (intro hc; first | (exfalso; simp only [push_cast, seval, *] at hc; done) | (exact absurd hc (by decide)) | ((try first | rw [Bool.not_true] at hc | rw [Bool.not_false] at hc); first | (with_reducible replace hc := tTT hc); clear hc | (with_reducible replace hc := tFF hc); clear hc | (have hp := hc; try simp only [decide_eq_true_eq, decide_eq_false_iff_not, bA, bB, bC, bD, bE, bF, bG, bH] at hp))))
    | (refine Kn.go hK ?_; clear hK K)
    | refine Kn.go (by assumption) ?_
    | (intro n hn; (try simp only [upd_none2, join_none_iff, ite_none, ne_eq] at hn); (try simp only [push_cast, seval, *]))
    | (intro hc)
    | fail)
    exact ⟨_, _, Weak.refl _ _, by first | rfl | simp [*], rfl⟩
theorem both_o (a b : List Int) (ha : a.length ≤ 100000) (hb : b.length ≤ 100000) (H : Heap) :
    ACall Try.prog 42 [.l 1 (a.map by1), .l 1 (b.map by1)] H fun r H' => OwnL H' r 5 1 ((a ++ b).map by1) H := by
  refine ACall_of' Try.func42 rfl (Ent_of Try.func42 (by kernel_rfl) rfl) (by simp [Try.ntmps42]) ?_; simp only [Try.ntmps42, Try.results42]
  repeat' (first
    | (refine AW_atB (id := 2) ?_)
    | refine AW_seq_kn fun K hK => ?_
    | refine AW_block ?_
    | ((first
      | refine AW_region E0 ?_ | refine AW_ret ?_ | refine AW_exit ?_ | refine AW_skip ?_ | unfold retQ); try simp only [push_cast, seval, *])
    | (apply AW_cond; (case hc => (simp only [push_cast, seval]; rfl)); all_goals (intro hc; first | (exfalso; simp only [push_cast, seval, *] at hc; done) | (exact absurd hc (by decide)) | ((try first | rw [Bool.not_true] at hc | rw [Bool.not_false] at hc); first | (with_reducible replace hc := tTT hc); clear hc | (with_reducible replace hc := tFF hc); clear hc | (have hp := hc; try simp only [decide_eq_true_eq, decide_eq_false_iff_not, bA, bB, bC, bD, bE, bF, bG, bH] at hp))))
    | (refine Kn.go hK ?_; clear hK K)
    | refine Kn.go (by assumption) ?_
    | (intro n hn; (try simp only [upd_none2, join_none_iff, ite_none, ne_eq] at hn); (try simp only [push_cast, seval, *]))
    | (intro hc)
    | fail)
  refine ⟨?_⟩
  refine AW_seqS (σ := AV × Heap) (fun w => OwnL w.2 w.1 5 1 (a.map by1) H) (fun w => [(1, .l 1 (b.map by1)), (5, w.1)]) (fun w => w.2) ?_ ?_
  · repeat' (first
    | refine AW_seq_kn fun K hK => ?_
    | refine AW_block ?_
    | ((first
      | refine AW_region E0 ?_ | refine AW_ret ?_ | refine AW_exit ?_ | refine AW_skip ?_ | unfold retQ); try simp only [push_cast, seval, *])
    | (apply AW_cond; (case hc => (simp only [push_cast, seval]; rfl)); all_goals (intro hc; first | (exfalso; simp only [push_cast, seval, *] at hc; done) | (exact absurd hc (by decide)) | ((try first | rw [Bool.not_true] at hc | rw [Bool.not_false] at hc); first | (with_reducible replace hc := tTT hc); clear hc | (with_reducible replace hc := tFF hc); clear hc | (have hp := hc; try simp only [decide_eq_true_eq, decide_eq_false_iff_not, bA, bB, bC, bD, bE, bF, bG, bH] at hp))))
    | (refine Kn.go hK ?_; clear hK K)
    | refine Kn.go (by assumption) ?_
    | (intro n hn; (try simp only [upd_none2, join_none_iff, ite_none, ne_eq] at hn); (try simp only [push_cast, seval, *]))
    | (intro hc)
    | fail)
    refine AW_loopX (σ := AV × Heap) a.length (fun k w => OwnL w.2 w.1 5 1 ((a.take k).map by1) H) (fun k w => [(0, .l 1 (a.map by1)), (1, .l 1 (b.map by1)), (5, w.1), (6, ci k)]) (fun _ w => w.2) (.c (.slice none 0 0), H) (OwnL.nil _ _ _) ?_ ?_ ?_ ?_
    · (first | trivial | (simp only [push_cast, seval, *]; done))
    · exact Heap.le_refl _
    · rintro k ⟨v, B⟩ hk hown
      simp only at hown
      have hx := List.getElem?_eq_getElem (l := a) hk; generalize a[k] = x at hx; have hxm := List.mem_of_getElem? hx; have hkl : (k : Int) < a.length := (by omega); have hkw : IntKind.i64.wrap ((k : Int) + 1) = (k : Int) + 1 := wrap_i64 (by omega) (by omega)
      have hcs := hown.cs
      have hby : by1 x = [.c (.int .u8 x)] := rfl
      rw [take_snoc hx, List.map_append]
      have hrow : ((a.take k).map by1).length ≤ 100000 := by simp; omega
      generalize (a.take k).map by1 = rows at *
      replace hown := Lib.hid hown
      clear hxm
      repeat' (first
    | refine AW_seq_kn fun K hK => ?_
    | refine AW_block ?_
    | ((first
      | refine AW_region E0 ?_ | refine AW_ret ?_ | refine AW_exit ?_ | refine AW_skip ?_ | unfold retQ); try simp only [push_cast, seval, *])
    | (apply AW_cond; (case hc => (simp only [push_cast, seval]; rfl)); all_goals (intro hc; first | (exfalso; simp only [push_cast, seval, *] at hc; done) | (exact absurd hc (by decide)) | ((try first | rw [Bool.not_true] at hc | rw [Bool.not_false] at hc); first | (with_reducible replace hc := tTT hc); clear hc | (with_reducible replace hc := tFF hc); clear hc | (have hp := hc; try simp only [decide_eq_true_eq, decide_eq_false_iff_not, bA, bB, bC, bD, bE, bF, bG, bH] at hp))))
    | (refine Kn.go hK ?_; clear hK K)
    | refine Kn.go (by assumption) ?_
    | (intro n hn; (try simp only [upd_none2, join_none_iff, ite_none, ne_eq] at hn); (try simp only [push_cast, seval, *]))
    | (intro hc)
    | fail)
      refine does_append1 (unhid hown) rfl rfl rfl hn tE22 tS5 tB5 tZ5 rfl (by decide) ?_ ?_ ?_
      · simp only [maxLen]; omega
      · omega
      intro x1 B1 hown3
      have hcs1 := hown3.cs
      replace hown3 := Lib.hid hown3
      (try simp only [push_cast, seval, *])
      repeat' (first
    | refine AW_seq_kn fun K hK => ?_
    | refine AW_block ?_
    | ((first
      | refine AW_region E0 ?_ | refine AW_ret ?_ | refine AW_exit ?_ | refine AW_skip ?_ | unfold retQ); try simp only [push_cast, seval, *])
    | (apply AW_cond; (case hc => (simp only [push_cast, seval]; rfl)); all_goals (intro hc; first | (exfalso; simp only [push_cast, seval, *] at hc; done) | (exact absurd hc (by decide)) | ((try first | rw [Bool.not_true] at hc | rw [Bool.not_false] at hc); first | (with_reducible replace hc := tTT hc); clear hc | (with_reducible replace hc := tFF hc); clear hc | (have hp := hc; try simp only [decide_eq_true_eq, decide_eq_false_iff_not, bA, bB, bC, bD, bE, bF, bG, bH] at hp))))
    | (refine Kn.go hK ?_; clear hK K)
    | refine Kn.go (by assumption) ?_
    | (intro n hn; (try simp only [upd_none2, join_none_iff, ite_none, ne_eq] at hn); (try simp only [push_cast, seval, *]))
    | (intro hc)
    | fail)
      exact ⟨(x1, B1), unhid hown3, by (first | trivial | (simp only [push_cast, seval, *]; done)), Heap.le_refl _⟩
    · rintro ⟨v, B⟩ hown
      simp only at hown
      rw [List.take_length] at hown
      have hcs := hown.cs
      replace hown := Lib.hid hown
      repeat' (first
    | refine AW_seq_kn fun K hK => ?_
    | refine AW_block ?_
    | ((first
      | refine AW_region E0 ?_ | refine AW_ret ?_ | refine AW_exit ?_ | refine AW_skip ?_ | unfold retQ); try simp only [push_cast, seval, *])
    | (apply AW_cond; (case hc => (simp only [push_cast, seval]; rfl)); all_goals (intro hc; first | (exfalso; simp only [push_cast, seval, *] at hc; done) | (exact absurd hc (by decide)) | ((try first | rw [Bool.not_true] at hc | rw [Bool.not_false] at hc); first | (with_reducible replace hc := tTT hc); clear hc | (with_reducible replace hc := tFF hc); clear hc | (have hp := hc; try simp only [decide_eq_true_eq, decide_eq_false_iff_not, bA, bB, bC, bD, bE, bF, bG, bH] at hp))))
    | (refine Kn.go hK ?_; clear hK K)
    | refine Kn.go (by assumption) ?_
    | (intro n hn; (try simp only [upd_none2, join_none_iff, ite_none, ne_eq] at hn); (try simp only [push_cast, seval, *]))
    | (intro hc)
    | fail)
      exact ⟨(v, B), unhid hown, by (first | trivial | (simp only [push_cast, seval, *]; done)), Heap.le_refl _⟩
  · rintro ⟨v, B⟩ hown
    simp only at hown
    have hcs := hown.cs
    replace hown := Lib.hid hown
    repeat' (first
    | refine AW_seq_kn fun K hK => ?_
    | refine AW_block ?_
    | ((first
      | refine AW_region E0 ?_ | refine AW_ret ?_ | refine AW_exit ?_ | refine AW_skip ?_ | unfold retQ); try simp only [push_cast, seval, *])
    | (apply AW_cond; (case hc => (simp only [push_cast, seval]; rfl)); all_goals (intro hc; first | (exfalso; simp only [push_cast, seval, *] at hc; done) | (exact absurd hc (by decide)) | ((try first | rw [Bool.not_true] at hc | rw [Bool.not_false] at hc); first | (with_reducible replace hc := tTT hc); clear hc | (with_reducible replace hc := tFF hc); clear hc | (have hp := hc; try simp only [decide_eq_true_eq, decide_eq_false_iff_not, bA, bB, bC, bD, bE, bF, bG, bH] at hp))))
    | (refine Kn.go hK ?_; clear hK K)
    | refine Kn.go (by assumption) ?_
    | (intro n hn; (try simp only [upd_none2, join_none_iff, ite_none, ne_eq] at hn); (try simp only [push_cast, seval, *]))
    | (intro hc)
    | fail)
    refine AW_loopX (σ := AV × Heap) b.length (fun k w => OwnL w.2 w.1 5 1 ((a ++ b.take k).map by1) H) (fun k w => [(1, .l 1 (b.map by1)), (5, w.1), (7, ci k)]) (fun _ w => w.2) (v, B) (by have h := unhid hown; simpa using h) ?_ ?_ ?_ ?_
    · (first | trivial | (simp only [push_cast, seval, *]; done))
    · exact Heap.le_refl _
    · rintro k ⟨v, B⟩ hk hown
      simp only at hown
      have hx := List.getElem?_eq_getElem (l := b) hk; generalize b[k] = x at hx; have hxm := List.mem_of_getElem? hx; have hkl : (k : Int) < b.length := (by omega); have hkw : IntKind.i64.wrap ((k : Int) + 1) = (k : Int) + 1 := wrap_i64 (by omega) (by omega)
      have hcs := hown.cs
      have hby : by1 x = [.c (.int .u8 x)] := rfl
      rw [take_snoc hx, ← List.append_assoc, List.map_append]
      have hrow : ((a ++ b.take k).map by1).length ≤ 200000 := by simp; omega
      generalize (a ++ b.take k).map by1 = rows at *
      replace hown := Lib.hid hown
      clear hxm
      repeat' (first
    | refine AW_seq_kn fun K hK => ?_
    | refine AW_block ?_
    | ((first
      | refine AW_region E0 ?_ | refine AW_ret ?_ | refine AW_exit ?_ | refine AW_skip ?_ | unfold retQ); try simp only [push_cast, seval, *])
    | (apply AW_cond; (case hc => (simp only [push_cast, seval]; rfl)); all_goals (intro hc; first | (exfalso; simp only [push_cast, seval, *] at hc; done) | (exact absurd hc (by decide)) | ((try first | rw [Bool.not_true] at hc | rw [Bool.not_false] at hc); first | (with_reducible replace hc := tTT hc); clear hc | (with_reducible replace hc := tFF hc); clear hc | (have hp := hc; try simp only [decide_eq_true_eq, decide_eq_false_iff_not, bA, bB, bC, bD, bE, bF, bG, bH] at hp))))
    | (refine Kn.go hK ?_; clear hK K)
    | refine Kn.go (by assumption) ?_
    | (intro n hn; (try simp only [upd_none2, join_none_iff, ite_none, ne_eq] at hn); (try simp only [push_cast, seval, *]))
    | (intro hc)
    | fail)
      refine does_append1 (unhid hown) rfl rfl rfl hn tE22 tS5 tB5 tZ5 rfl (by decide) ?_ ?_ ?_
      · simp only [maxLen]; omega
      · omega
      intro x1 B1 hown3
      have hcs1 := hown3.cs
      replace hown3 := Lib.hid hown3
      (try simp only [push_cast, seval, *])
      repeat' (first
    | refine AW_seq_kn fun K hK => ?_
    | refine AW_block ?_
    | ((first
      | refine AW_region E0 ?_ | refine AW_ret ?_ | refine AW_exit ?_ | refine AW_skip ?_ | unfold retQ); try simp only [push_cast, seval, *])
    | (apply AW_cond; (case hc => (simp only [push_cast, seval]; rfl)); all_goals (intro hc; first | (exfalso; simp only [push_cast, seval, *] at hc; done) | (exact absurd hc (by decide)) | ((try first | rw [Bool.not_true] at hc | rw [Bool.not_false] at hc); first | (with_reducible replace hc := tTT hc); clear hc | (with_reducible replace hc := tFF hc); clear hc | (have hp := hc; try simp only [decide_eq_true_eq, decide_eq_false_iff_not, bA, bB, bC, bD, bE, bF, bG, bH] at hp))))
    | (refine Kn.go hK ?_; clear hK K)
    | refine Kn.go (by assumption) ?_
    | (intro n hn; (try simp only [upd_none2, join_none_iff, ite_none, ne_eq] at hn); (try simp only [push_cast, seval, *]))
    | (intro hc)
    | fail)
      exact ⟨(x1, B1), unhid hown3, by (first | trivial | (simp only [push_cast, seval, *]; done)), Heap.le_refl _⟩
    · rintro ⟨v, B⟩ hown
      simp only at hown
      rw [List.take_length] at hown
      have hcs := hown.cs
      replace hown := Lib.hid hown
      repeat' (first
    | refine AW_seq_kn fun K hK => ?_
    | refine AW_block ?_
    | ((first
      | refine AW_region E0 ?_ | refine AW_ret ?_ | refine AW_exit ?_ | refine AW_skip ?_ | unfold retQ); try simp only [push_cast, seval, *])
    | (apply AW_cond; (case hc => (simp only [push_cast, seval]; rfl)); all_goals (intro hc; first | (exfalso; simp only [push_cast, seval, *] at hc; done) | (exact absurd hc (by decide)) | ((try first | rw [Bool.not_true] at hc | rw [Bool.not_false] at hc); first | (with_reducible replace hc := tTT hc); clear hc | (with_reducible replace hc := tFF hc); clear hc | (have hp := hc; try simp only [decide_eq_true_eq, decide_eq_false_iff_not, bA, bB, bC, bD, bE, bF, bG, bH] at hp))))
    | (refine Kn.go hK ?_; clear hK K)
    | refine Kn.go (by assumption) ?_
    | (intro n hn; (try simp only [upd_none2, join_none_iff, ite_none, ne_eq] at hn); (try simp only [push_cast, seval, *]))
    | (intro hc)
    | fail)
      exact ⟨_, _, Weak.refl _ _, unhid hown⟩
/-- the caller owns the first bytes -/
theorem both_l (a b : List Int) (ha : a.length ≤ 100000) (hb : b.length ≤ 100000) (v : AV) (B B0 : Heap) (hown : OwnL B v 5 1 (a.map by1) B0) :
    ACall Try.prog 42 [v, .l 1 (b.map by1)] B fun r H' => OwnL H' r 5 1 ((a ++ b).map by1) B :=
  ACall.lendO (args' := [.l 1 (a.map by1), .l 1 (b.map by1)]) (flatR_by1 _) (show Lent _ _ _ ∧ Lent _ _ _ ∧ True from ⟨hown.lent, Lent.refl _ _, trivial⟩) (both_o a b ha hb _)
end Go.Proofs.Ytfdedgeljijfdaa
