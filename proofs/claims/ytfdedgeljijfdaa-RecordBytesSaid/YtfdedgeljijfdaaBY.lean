/- Walks: the document's bytes of a row. -/
import Derived.Test.YtfdedgeljijfdaaEN
import Derived.Test.YtfdedgeljijfdaaRW
namespace Go.Proofs.Ytfdedgeljijfdaa
open Go.RowKit
open Nat renaming reduceEqDiff → nA, reduceLT → nB, reduceLeDiff → nC, reduceAdd → nD, reduceMul → nE, reduceSub → nF, reduceBEq → nG
open Int renaming reduceToNat → iA, reduceLT → iB, reduceLE → iC, reduceEq → iD
open Bool renaming and_eq_true → bA, or_eq_true → bB, or_eq_false_iff → bC, and_eq_false_iff → bD, not_eq_true' → bE, not_eq_false' → bF, not_true → bG, not_false → bH
set_option linter.all false
set_option maxHeartbeats 4000000
attribute [local irreducible] AW Does ACall tE tS tB tZ
def dLBY0 : List En := [(0, false, []), (1, false, []), (2, false, []), (3, false, []), (4, false, []), (5, false, []), (6, false, []), (7, false, []), (8, false, []), (11, false, []), (12, false, []), (13, true, []), (14, false, []), (9, false, []), (10, false, [13]), (15, false, []), (16, false, []), (17, false, [])]
def dABY0 : List (List Nat) := [[], [], [1], [1, 2], [1, 2, 3], [], [5], [5, 6], [5, 6, 7], [1, 2, 3, 4, 5, 6, 7, 8], [0, 1, 2, 3, 4, 5, 6, 7, 8, 9], [], [11], [11, 12], [11, 12, 13], [0, 1, 2, 3, 4, 5, 6, 7, 8, 9, 10, 11, 12, 13, 14], [0, 1, 2, 3, 4, 5, 6, 7, 8, 9, 10, 11, 12, 13, 14, 15], [0, 1, 2, 3, 4, 5, 6, 7, 8, 9, 10, 11, 12, 13, 14, 15, 16]]
attribute [push_cast] dLBY0

theorem Bytes_o (l : List El) (hl : l.length ≤ 1000) (hok : ∀ x ∈ l, 0 ≤ x.num ∧ x.num ≤ 18446744073709551615) (H : Heap) :
    ACall Try.prog 26 [.l 5 (l.map El.av)] H fun r H' => OwnL H' r 5 1 ((rowY l).map by1) H := by
  unfold rowY
  generalize hL : IntKind.u8.wrap (l.length : Int) = L at *
  replace hok := Lib.hid hok
  refine ACall_of' Try.func26 rfl (Ent_of Try.func26 (by kernel_rfl) rfl) (by simp [Try.ntmps26]) ?_; simp only [Try.ntmps26, Try.results26]
  repeat' (first
    | refine AW_seq_kn fun K hK => ?_
    | refine AW_block ?_
    | ((first
      | refine AW_region_draw (id := 8) E0 (fun f => [].contains f) dLBY0 dABY0 mixed (by kernel_rfl) ?_
      | refine AW_region E0 ?_ | refine AW_ret ?_ | refine AW_exit ?_ | refine AW_skip ?_ | unfold retQ); try simp only [push_cast, seval, *])
    | (apply AW_cond; (case hc => (simp only [push_cast, seval]; rfl)); all_goals (intro hc; first | (exfalso; simp only [push_cast, seval, *] at hc; done) | (exact absurd hc (by decide)) | ((try first | rw [Bool.not_true] at hc | rw [Bool.not_false] at hc); first | (with_reducible replace hc := tTT hc); clear hc | (with_reducible replace hc := tFF hc); clear hc | (have hp := hc; try simp only [decide_eq_true_eq, decide_eq_false_iff_not, bA, bB, bC, bD, bE, bF, bG, bH] at hp))))
    | (refine Kn.go hK ?_; clear hK K)
    | refine Kn.go (by assumption) ?_
    | (intro n hn; (try simp only [upd_none2, join_none_iff, ite_none, ne_eq] at hn); (try simp only [push_cast, seval, *]))
    | (intro hc)
    | fail)
  have h0 : OwnL (upd H n (.r 5 1 1 [[.c (.int .u8 L)]])) (.s n 1 0 1 1) 5 1 [[.c (.int .u8 L)]] H := OwnL.at rfl hn
  refine AW_loopX (σ := AV × Heap) l.length (fun k w => OwnL w.2 w.1 5 1 ((L :: (l.take k).flatMap elY).map by1) H) (fun k w => [(0, .l 5 (l.map El.av)), (3, w.1), (4, ci k)]) (fun _ w => w.2) (.s n 1 0 1 1, upd H n (.r 5 1 1 [[.c (.int .u8 L)]])) h0 ?_ ?_ ?_ ?_
  · (first | trivial | (simp only [push_cast, seval, *]; done))
  · exact Heap.le_refl _
  · rintro k ⟨v, B⟩ hk hown
    simp only at hown
    have hx := List.getElem?_eq_getElem (l := l) hk; generalize l[k] = x at hx; have hxm := List.mem_of_getElem? hx; have hkl : (k : Int) < l.length := (by omega); have hkw : IntKind.i64.wrap ((k : Int) + 1) = (k : Int) + 1 := wrap_i64 (by omega) (by omega)
    have hox := unhid hok x hxm
    have hrow : (L :: (l.take k).flatMap elY).length ≤ 12000 := by
      have := flat_len (l.take k)
      simp only [List.length_cons, List.length_take] at *
      omega
    have hcs := hown.cs
    have htk : (L :: (l.take (k + 1)).flatMap elY) = (L :: (l.take k).flatMap elY) ++ elY x := by
      rw [take_snoc hx]; simp
    rw [htk]
    generalize (L :: (l.take k).flatMap elY) = bs at *
    clear htk hL
    obtain ⟨kd, s, kk, vv, nm⟩ := x
    have hk3 : kd = 1 ∨ (kd = 2 ∧ 0 ≤ nm ∧ nm ≤ 18446744073709551615) ∨ (¬ kd = 1 ∧ ¬ kd = 2) := by
      simp only at hox
      omega
    clear hox hxm
    have hav : El.av ⟨kd, s, kk, vv, nm⟩ = [.c (.int .i64 kd), .c (.int .i64 s), .c (.int .i64 kk), .c (.int .i64 vv), .c (.int .u64 nm)] := rfl
    simp only [elY]
    replace hown := Lib.hid hown
    replace hk3 := Lib.hid hk3
    repeat' (first
    | refine AW_seq_kn fun K hK => ?_
    | refine AW_block ?_
    | ((first
      | refine AW_region_draw (id := 8) E0 (fun f => [].contains f) dLBY0 dABY0 mixed (by kernel_rfl) ?_
      | refine AW_region E0 ?_ | refine AW_ret ?_ | refine AW_exit ?_ | refine AW_skip ?_ | unfold retQ); try simp only [push_cast, seval, *])
    | (apply AW_cond; (case hc => (simp only [push_cast, seval]; rfl)); all_goals (intro hc; first | (exfalso; simp only [push_cast, seval, *] at hc; done) | (exact absurd hc (by decide)) | ((try first | rw [Bool.not_true] at hc | rw [Bool.not_false] at hc); first | (with_reducible replace hc := tTT hc); clear hc | (with_reducible replace hc := tFF hc); clear hc | (have hp := hc; try simp only [decide_eq_true_eq, decide_eq_false_iff_not, bA, bB, bC, bD, bE, bF, bG, bH] at hp))))
    | (refine Kn.go hK ?_; clear hK K)
    | refine Kn.go (by assumption) ?_
    | (intro n hn; (try simp only [upd_none2, join_none_iff, ite_none, ne_eq] at hn); (try simp only [push_cast, seval, *]))
    | (intro hc)
    | fail)
    rename_i n1 h1
    have hn2 := hn.2
    have hn1n : ¬ n = n1 := hn.1.1
    have hH1 : H n1 = none := (unhid hown).none h1
    have hown2 := (unhid hown).new h1 (.r 37 5 1 [[.c (.int .i64 kd), .c (.int .i64 s), .c (.int .i64 kk), .c (.int .i64 vv), .c (.int .u64 nm)]])
    refine does_append1 hown2 rfl rfl rfl (by rw [upd_ne hn1n]; exact hn2) tE22 tS5 tB5 tZ5 rfl (by decide) ?_ ?_ ?_
    · simp only [List.length_map, maxLen]; omega
    · simp only [List.length_map]; omega
    intro x1 B1 hown3
    have hcs1 := hown3.cs
    have hBn : B1 n1 = some (.r 37 5 1 [[.c (.int .i64 kd), .c (.int .i64 s), .c (.int .i64 kk), .c (.int .i64 vv), .c (.int .u64 nm)]]) := hown3.get (upd_same _ _ _)
    have hne := ne_old hBn
    replace hown3 : OwnL B1 x1 5 1 ((bs ++ [IntKind.u8.wrap kd]).map by1) (upd H n1 (.r 37 5 1 [[.c (.int .i64 kd), .c (.int .i64 s), .c (.int .i64 kk), .c (.int .i64 vv), .c (.int .u64 nm)]])) := by
      rw [List.map_append]; exact hown3
    have hle1 : Heap.le H (upd H n1 (.r 37 5 1 [[.c (.int .i64 kd), .c (.int .i64 s), .c (.int .i64 kk), .c (.int .i64 vv), .c (.int .u64 nm)]])) := Heap.le_new (Heap.le_refl _) hH1
    have hH1n := upd_same H n1 (.r 37 5 1 [[.c (.int .i64 kd), .c (.int .i64 s), .c (.int .i64 kk), .c (.int .i64 vv), .c (.int .u64 nm)]])
    generalize upd H n1 _ = H1 at *
    have hk4 := unhid hk3
    generalize hbs : bs ++ [IntKind.u8.wrap kd] = bs1 at *
    have hb1l : bs1.length ≤ 12050 := by rw [← hbs, List.length_append]; simp; omega
    replace hown3 := Lib.hid hown3
    replace hbs := Lib.hid hbs
    replace hle1 := Lib.hid hle1
    replace hx := Lib.hid hx
    clear hown2 hown hn hn1n hn2 hH1 h1 hk3 hcs
    rcases hk4 with rfl | ⟨rfl, h0, h1⟩ | ⟨h5, h6⟩
    · (try simp only [push_cast, seval, *])
      repeat' (first
    | refine AW_seq_kn fun K hK => ?_
    | refine AW_block ?_
    | ((first
      | refine AW_region_draw (id := 8) E0 (fun f => [].contains f) dLBY0 dABY0 mixed (by kernel_rfl) ?_
      | refine AW_region E0 ?_ | refine AW_ret ?_ | refine AW_exit ?_ | refine AW_skip ?_ | unfold retQ); try simp only [push_cast, seval, *])
    | (apply AW_cond; (case hc => (simp only [push_cast, seval]; rfl)); all_goals (intro hc; first | (exfalso; simp only [push_cast, seval, *] at hc; done) | (exact absurd hc (by decide)) | ((try first | rw [Bool.not_true] at hc | rw [Bool.not_false] at hc); first | (with_reducible replace hc := tTT hc); clear hc | (with_reducible replace hc := tFF hc); clear hc | (have hp := hc; try simp only [decide_eq_true_eq, decide_eq_false_iff_not, bA, bB, bC, bD, bE, bF, bG, bH] at hp))))
    | (refine Kn.go hK ?_; clear hK K)
    | refine Kn.go (by assumption) ?_
    | (intro n hn; (try simp only [upd_none2, join_none_iff, ite_none, ne_eq] at hn); (try simp only [push_cast, seval, *]))
    | (intro hc)
    | fail)
      refine does_appN rfl rfl rfl rfl rfl (unhid hown3) hn tE22 tS5 tB5 tZ5 rfl (by decide) ?_ ?_ ?_
      · simp only [List.length_map, List.length_cons, List.length_nil, maxLen]; omega
      · simp only [List.length_map, List.length_cons, List.length_nil]; omega
      intro x2 B2 hown4
      have hcs2 := hown4.cs
      have hB2n := hown4.get hH1n
      replace hown4 : OwnL B2 x2 5 1 ((bs1 ++ [IntKind.u8.wrap s, IntKind.u8.wrap kk]).map by1) H1 := by
        rw [List.map_append]; exact hown4
      have huv : 0 ≤ IntKind.u64.wrap vv ∧ IntKind.u64.wrap vv ≤ 18446744073709551615 := by rw [IntKind.wrap_u64]; omega
      have hpt := both_l (bs1 ++ [IntKind.u8.wrap s, IntKind.u8.wrap kk]) (beB 8 (IntKind.u64.wrap vv)) (by simp; omega) (by rw [beB_len]; omega) x2 B2 H1 hown4
      have hhi := High_l 8 (IntKind.u64.wrap vv) (by omega) huv.1 huv.2
      have hle3 : Heap.le H B2 := Heap.le_trans (unhid hle1) hown4.le
      replace hpt := Lib.hid hpt
      replace hle3 := Lib.hid hle3
      generalize beB 8 (IntKind.u64.wrap vv) = L8 at *
      clear hown3 hown4 huv
      (try simp only [push_cast, seval, *])
      repeat' (first
    | refine AW_seq_kn fun K hK => ?_
    | refine AW_block ?_
    | (refine does_call rfl rfl ?_; simp only [push_cast, seval, *]; refine ACall.monoP (hhi _) ?_; (try simp only [push_cast, seval, *]))
    | ((first
      | refine AW_region_draw (id := 8) E0 (fun f => [].contains f) dLBY0 dABY0 mixed (by kernel_rfl) ?_
      | refine AW_region E0 ?_ | refine AW_ret ?_ | refine AW_exit ?_ | refine AW_skip ?_ | unfold retQ); try simp only [push_cast, seval, *])
    | (apply AW_cond; (case hc => (simp only [push_cast, seval]; rfl)); all_goals (intro hc; first | (exfalso; simp only [push_cast, seval, *] at hc; done) | (exact absurd hc (by decide)) | ((try first | rw [Bool.not_true] at hc | rw [Bool.not_false] at hc); first | (with_reducible replace hc := tTT hc); clear hc | (with_reducible replace hc := tFF hc); clear hc | (have hp := hc; try simp only [decide_eq_true_eq, decide_eq_false_iff_not, bA, bB, bC, bD, bE, bF, bG, bH] at hp))))
    | (refine Kn.go hK ?_; clear hK K)
    | refine Kn.go (by assumption) ?_
    | (intro n hn; (try simp only [upd_none2, join_none_iff, ite_none, ne_eq] at hn); (try simp only [push_cast, seval, *]))
    | (intro hc)
    | fail)
      refine does_call rfl rfl ?_
      simp only [push_cast, seval, *]
      refine ACall.mono (unhid hpt) ?_
      intro x3 B3 hown5
      have hcs3 := hown5.cs
      have hB3n := hown5.get hB2n
      replace hown5 := Lib.hid hown5
      clear hpt
      (try simp only [push_cast, seval, *])
      repeat' (first
    | refine AW_seq_kn fun K hK => ?_
    | refine AW_block ?_
    | ((first
      | refine AW_region_draw (id := 8) E0 (fun f => [].contains f) dLBY0 dABY0 mixed (by kernel_rfl) ?_
      | refine AW_region E0 ?_ | refine AW_ret ?_ | refine AW_exit ?_ | refine AW_skip ?_ | unfold retQ); try simp only [push_cast, seval, *])
    | (apply AW_cond; (case hc => (simp only [push_cast, seval]; rfl)); all_goals (intro hc; first | (exfalso; simp only [push_cast, seval, *] at hc; done) | (exact absurd hc (by decide)) | ((try first | rw [Bool.not_true] at hc | rw [Bool.not_false] at hc); first | (with_reducible replace hc := tTT hc); clear hc | (with_reducible replace hc := tFF hc); clear hc | (have hp := hc; try simp only [decide_eq_true_eq, decide_eq_false_iff_not, bA, bB, bC, bD, bE, bF, bG, bH] at hp))))
    | (refine Kn.go hK ?_; clear hK K)
    | refine Kn.go (by assumption) ?_
    | (intro n hn; (try simp only [upd_none2, join_none_iff, ite_none, ne_eq] at hn); (try simp only [push_cast, seval, *]))
    | (intro hc)
    | fail)
      obtain ⟨B4, hle2, hown6⟩ := OwnL.cut (unhid hown5) (unhid hle3)
      refine ⟨(x3, B4), ?_, by (first | trivial | (simp only [push_cast, seval, *]; done)), hle2⟩
      rw [← unhid hbs] at hown6
      simpa using hown6
    · have hpt := both_l bs1 (beB 8 nm) (by omega) (by rw [beB_len]; omega) x1 B1 H1 (unhid hown3)
      have hhi := High_l 8 nm (by omega) h0 h1
      have hle3 : Heap.le H B1 := Heap.le_trans (unhid hle1) (unhid hown3).le
      replace hpt := Lib.hid hpt
      replace hle3 := Lib.hid hle3
      generalize beB 8 nm = L8 at *
      clear hown3
      (try simp only [push_cast, seval, *])
      repeat' (first
    | refine AW_seq_kn fun K hK => ?_
    | refine AW_block ?_
    | (refine does_call rfl rfl ?_; simp only [push_cast, seval, *]; refine ACall.monoP (hhi _) ?_; (try simp only [push_cast, seval, *]))
    | ((first
      | refine AW_region_draw (id := 8) E0 (fun f => [].contains f) dLBY0 dABY0 mixed (by kernel_rfl) ?_
      | refine AW_region E0 ?_ | refine AW_ret ?_ | refine AW_exit ?_ | refine AW_skip ?_ | unfold retQ); try simp only [push_cast, seval, *])
    | (apply AW_cond; (case hc => (simp only [push_cast, seval]; rfl)); all_goals (intro hc; first | (exfalso; simp only [push_cast, seval, *] at hc; done) | (exact absurd hc (by decide)) | ((try first | rw [Bool.not_true] at hc | rw [Bool.not_false] at hc); first | (with_reducible replace hc := tTT hc); clear hc | (with_reducible replace hc := tFF hc); clear hc | (have hp := hc; try simp only [decide_eq_true_eq, decide_eq_false_iff_not, bA, bB, bC, bD, bE, bF, bG, bH] at hp))))
    | (refine Kn.go hK ?_; clear hK K)
    | refine Kn.go (by assumption) ?_
    | (intro n hn; (try simp only [upd_none2, join_none_iff, ite_none, ne_eq] at hn); (try simp only [push_cast, seval, *]))
    | (intro hc)
    | fail)
      refine does_call rfl rfl ?_
      simp only [push_cast, seval, *]
      refine ACall.mono (unhid hpt) ?_
      intro x2 B2 hown4
      have hcs2 := hown4.cs
      replace hown4 := Lib.hid hown4
      clear hpt
      (try simp only [push_cast, seval, *])
      repeat' (first
    | refine AW_seq_kn fun K hK => ?_
    | refine AW_block ?_
    | ((first
      | refine AW_region_draw (id := 8) E0 (fun f => [].contains f) dLBY0 dABY0 mixed (by kernel_rfl) ?_
      | refine AW_region E0 ?_ | refine AW_ret ?_ | refine AW_exit ?_ | refine AW_skip ?_ | unfold retQ); try simp only [push_cast, seval, *])
    | (apply AW_cond; (case hc => (simp only [push_cast, seval]; rfl)); all_goals (intro hc; first | (exfalso; simp only [push_cast, seval, *] at hc; done) | (exact absurd hc (by decide)) | ((try first | rw [Bool.not_true] at hc | rw [Bool.not_false] at hc); first | (with_reducible replace hc := tTT hc); clear hc | (with_reducible replace hc := tFF hc); clear hc | (have hp := hc; try simp only [decide_eq_true_eq, decide_eq_false_iff_not, bA, bB, bC, bD, bE, bF, bG, bH] at hp))))
    | (refine Kn.go hK ?_; clear hK K)
    | refine Kn.go (by assumption) ?_
    | (intro n hn; (try simp only [upd_none2, join_none_iff, ite_none, ne_eq] at hn); (try simp only [push_cast, seval, *]))
    | (intro hc)
    | fail)
      obtain ⟨B3, hle2, hown5⟩ := OwnL.cut (unhid hown4) (unhid hle3)
      refine ⟨(x2, B3), ?_, by (first | trivial | (simp only [push_cast, seval, *]; done)), hle2⟩
      rw [← unhid hbs] at hown5
      simpa using hown5
    · (try simp only [push_cast, seval, *])
      repeat' (first
    | refine AW_seq_kn fun K hK => ?_
    | refine AW_block ?_
    | ((first
      | refine AW_region_draw (id := 8) E0 (fun f => [].contains f) dLBY0 dABY0 mixed (by kernel_rfl) ?_
      | refine AW_region E0 ?_ | refine AW_ret ?_ | refine AW_exit ?_ | refine AW_skip ?_ | unfold retQ); try simp only [push_cast, seval, *])
    | (apply AW_cond; (case hc => (simp only [push_cast, seval]; rfl)); all_goals (intro hc; first | (exfalso; simp only [push_cast, seval, *] at hc; done) | (exact absurd hc (by decide)) | ((try first | rw [Bool.not_true] at hc | rw [Bool.not_false] at hc); first | (with_reducible replace hc := tTT hc); clear hc | (with_reducible replace hc := tFF hc); clear hc | (have hp := hc; try simp only [decide_eq_true_eq, decide_eq_false_iff_not, bA, bB, bC, bD, bE, bF, bG, bH] at hp))))
    | (refine Kn.go hK ?_; clear hK K)
    | refine Kn.go (by assumption) ?_
    | (intro n hn; (try simp only [upd_none2, join_none_iff, ite_none, ne_eq] at hn); (try simp only [push_cast, seval, *]))
    | (intro hc)
    | fail)
      obtain ⟨B3, hle2, hown5⟩ := OwnL.cut (unhid hown3) (unhid hle1)
      refine ⟨(x1, B3), ?_, by (first | trivial | (simp only [push_cast, seval, *]; done)), hle2⟩
      rw [← unhid hbs] at hown5
      simpa using hown5
  · rintro ⟨v, B⟩ hown
    simp only at hown
    rw [List.take_length] at hown
    have hcs := hown.cs
    replace hown := Lib.hid hown
    repeat' (first
    | refine AW_seq_kn fun K hK => ?_
    | refine AW_block ?_
    | ((first
      | refine AW_region_draw (id := 8) E0 (fun f => [].contains f) dLBY0 dABY0 mixed (by kernel_rfl) ?_
      | refine AW_region E0 ?_ | refine AW_ret ?_ | refine AW_exit ?_ | refine AW_skip ?_ | unfold retQ); try simp only [push_cast, seval, *])
    | (apply AW_cond; (case hc => (simp only [push_cast, seval]; rfl)); all_goals (intro hc; first | (exfalso; simp only [push_cast, seval, *] at hc; done) | (exact absurd hc (by decide)) | ((try first | rw [Bool.not_true] at hc | rw [Bool.not_false] at hc); first | (with_reducible replace hc := tTT hc); clear hc | (with_reducible replace hc := tFF hc); clear hc | (have hp := hc; try simp only [decide_eq_true_eq, decide_eq_false_iff_not, bA, bB, bC, bD, bE, bF, bG, bH] at hp))))
    | (refine Kn.go hK ?_; clear hK K)
    | refine Kn.go (by assumption) ?_
    | (intro n hn; (try simp only [upd_none2, join_none_iff, ite_none, ne_eq] at hn); (try simp only [push_cast, seval, *]))
    | (intro hc)
    | fail)
    exact ⟨_, _, Weak.refl _ _, unhid hown⟩
theorem Bytes_p (l : List El) (hl : l.length ≤ 1000) (hok : ∀ x ∈ l, 0 ≤ x.num ∧ x.num ≤ 18446744073709551615) : Pure Try.prog 26 [.l 5 (l.map El.av)] (.l 1 ((rowY l).map by1)) := fun H =>
  ACall.weak ((Bytes_o l hl hok H).mono fun r H' h => ⟨_, _, h.weak (fun F F' hF hi _ => hi), rfl, rfl⟩)
end Go.Proofs.Ytfdedgeljijfdaa
