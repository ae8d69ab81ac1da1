/- Walks: Do, Run. -/
import Derived.Test.YtmkncbddjnaklaaG
namespace Go.Proofs.Ytmkncbddjnaklaa
open Go.RowKit
open Nat renaming reduceEqDiff → nA, reduceLT → nB, reduceLeDiff → nC, reduceAdd → nD, reduceMul → nE, reduceSub → nF, reduceBEq → nG
open Int renaming reduceToNat → iA, reduceLT → iB, reduceLE → iC, reduceEq → iD
open Bool renaming and_eq_true → bA, or_eq_true → bB, or_eq_false_iff → bC, and_eq_false_iff → bD, not_eq_true' → bE, not_eq_false' → bF, not_true → bG, not_false → bH
set_option linter.all false
set_option maxHeartbeats 4000000
attribute [local irreducible] AW Does ACall tE tS tB tZ

theorem lend3 {f : FuncId} {args args' : List AV} {G : Heap} {c : CellD} {e : Int} {rows : List Int} (hl : Lents G args args') (h : ∀ H, ACall Try.prog f args' H fun r H' => ∃ y, r = .t [.g (CellD.av c), y, .c (.int .i64 e)] ∧ OwnL H' y 2 1 (rows.map i1) H) :
    ACall Try.prog f args G fun r H' => r = .t [.g (CellD.av c), .l 1 (rows.map i1), .c (.int .i64 e)] ∧ H' = G :=
  ACall.weak ((ACall.lendT (R := fun y => .t [.g (CellD.av c), y, .c (.int .i64 e)]) (flat_run c e) (flatR_i1 rows) hl (h _)).mono fun r H' h => by
    obtain ⟨y, rfl, hy⟩ := h
    exact ⟨_, _, own_t3 hy, rfl, rfl⟩)
theorem Do_o (o : OpD) (c : CellD) (v : Int) (hlO : o.ins.length ≤ maxLen) (hA : o.A ≤ 9223372036854775807) (H : Heap) :
    ACall Try.prog 25 [.g (OpD.av o), .g (CellD.av c), .c (.int .i64 v)] H fun r H' => ∃ y, r = .t [.g (CellD.av (runS o c [v]).1), y, .c (.int .i64 (runS o c [v]).2.2)] ∧ OwnL H' y 2 1 ((runS o c [v]).2.1.map i1) H := by
  have hro := run_o o c [v] hlO hA (by simp)
  generalize runS o c [v] = T at *
  obtain ⟨⟨n', s'⟩, out, e⟩ := T
  simp only at hro
  have hfl : ∀ y, Flat y → Flat (.t [.g (CellD.av ⟨n', s'⟩), y, .c (.int .i64 e)]) := flat_run ⟨n', s'⟩ e
  obtain ⟨t, w, l, A, B⟩ := o
  obtain ⟨cn, cs⟩ := c
  simp only [OpD.av, CellD.av, List.map_cons, List.map_nil, i1] at hro hfl
  replace hro := Lib.hid hro
  replace hfl := Lib.hid hfl
  simp only [OpD.av, CellD.av]
  clear hlO hA
  refine ACall_of' Try.func25 rfl (Ent_of Try.func25 (by kernel_rfl) rfl) (by simp [Try.ntmps25]) ?_; simp only [Try.ntmps25, Try.results25]
  repeat' (first
    | refine AW_seq_kn fun K hK => ?_
    | refine AW_block ?_
    | (refine does_call rfl rfl ?_; simp only [push_cast, seval, *]; refine ACall.monoP (run_p ⟨_, _, _, _, _⟩ ⟨_, _⟩ _ (by assumption) (by assumption) (by assumption) _) ?_; (try simp only [push_cast, seval, *]))
    | ((first
      | refine AW_region E0 ?_ | refine AW_ret ?_ | refine AW_exit ?_ | refine AW_skip ?_ | unfold retQ); try simp only [push_cast, seval, *])
    | (apply AW_cond; (case hc => (simp only [push_cast, seval]; rfl)); all_goals (intro hc; first | (exfalso; simp only [push_cast, seval, *] at hc; done) | (exact absurd hc (by decide)) | ((try first | rw [Bool.not_true] at hc | rw [Bool.not_false] at hc); first | (with_reducible replace hc := tTT hc); clear hc | (with_reducible replace hc := tFF hc); clear hc | (have hp := hc; try simp only [decide_eq_true_eq, decide_eq_false_iff_not, bA, bB, bC, bD, bE, bF, bG, bH] at hp))))
    | (refine Kn.go hK ?_; clear hK K)
    | refine Kn.go (by assumption) ?_
    | (intro n hn; (try simp only [upd_none2, join_none_iff, ite_none, ne_eq] at hn); (try simp only [push_cast, seval, *]))
    | (intro hc)
    | fail)
  rename_i n1 h1 n2 h2 m6 h6
  obtain ⟨Hs, hHs⟩ : ∃ Hs : Heap, Hs = upd (upd (upd (upd H n1 (.r 24 5 1 [[.c (.int .i64 t), .c (.int .i64 w), .l 1 (l.map i1), .c (.int .i64 A), .c (.int .i64 B)]])) n2 (.r 26 2 1 [[.c (.int .i64 cn), .c (.int .i64 cs)]])) m6 (.r 26 2 1 [[.c (.int .i64 0), .c (.int .i64 0)]])) n (.r 2 1 1 [[.c (.int .i64 v)]]) := ⟨_, rfl⟩
  have g6 : Hs m6 = some (.r 26 2 1 [[.c (.int .i64 0), .c (.int .i64 0)]]) := by rw [hHs]; simp only [push_cast, seval, *]
  have gn : Hs n = some (.r 2 1 1 [[.c (.int .i64 v)]]) := by rw [hHs]; simp only [push_cast, seval, *]
  have hle : Heap.le H (upd Hs m6 (.r 26 2 1 [[.c (.int .i64 n'), .c (.int .i64 s')]])) := fun q b hq => by
    have hne := ne_old hq
    have c6 : ¬ q = m6 := by rintro rfl; have := h6.2.2; rw [hq] at this; cases this
    rw [upd_ne c6, hHs]; simp only [push_cast, seval, *]
  rw [← hHs]
  clear hHs h1 h2 h6 hn
  refine does_call rfl rfl ?_
  simp only [push_cast, seval, *]
  refine ACall.mono (ACall.lendT (R := fun y => .t [.g [.c (.int .i64 n'), .c (.int .i64 s')], y, .c (.int .i64 e)]) (unhid hfl) (flatR_i1 out) (args' := [.g [.c (.int .i64 t), .c (.int .i64 w), .l 1 (l.map i1), .c (.int .i64 A), .c (.int .i64 B)], .g [.c (.int .i64 cn), .c (.int .i64 cs)], .l 1 [[.c (.int .i64 v)]]]) (show Lent _ _ _ ∧ Lent _ _ _ ∧ Lent _ _ _ ∧ True from ⟨Lent.refl _ _, Lent.refl _ _, Lent.s gn, trivial⟩) (unhid hro _)) ?_
  rintro r G ⟨y, rfl, hown⟩
  have k6 := hown.get g6
  have ht := hown.turn g6 (.r 26 2 1 [[.c (.int .i64 n'), .c (.int .i64 s')]])
  obtain ⟨H2, l1, l2⟩ := ht.cut hle
  have hcs := hown.cs
  clear hown ht hle hro g6 gn hfl
  replace l1 := Lib.hid l1
  replace l2 := Lib.hid l2
  (try simp only [push_cast, seval, *])
  repeat' (first
    | refine AW_seq_kn fun K hK => ?_
    | refine AW_block ?_
    | (refine does_call rfl rfl ?_; simp only [push_cast, seval, *]; refine ACall.monoP (run_p ⟨_, _, _, _, _⟩ ⟨_, _⟩ _ (by assumption) (by assumption) (by assumption) _) ?_; (try simp only [push_cast, seval, *]))
    | ((first
      | refine AW_region E0 ?_ | refine AW_ret ?_ | refine AW_exit ?_ | refine AW_skip ?_ | unfold retQ); try simp only [push_cast, seval, *])
    | (apply AW_cond; (case hc => (simp only [push_cast, seval]; rfl)); all_goals (intro hc; first | (exfalso; simp only [push_cast, seval, *] at hc; done) | (exact absurd hc (by decide)) | ((try first | rw [Bool.not_true] at hc | rw [Bool.not_false] at hc); first | (with_reducible replace hc := tTT hc); clear hc | (with_reducible replace hc := tFF hc); clear hc | (have hp := hc; try simp only [decide_eq_true_eq, decide_eq_false_iff_not, bA, bB, bC, bD, bE, bF, bG, bH] at hp))))
    | (refine Kn.go hK ?_; clear hK K)
    | refine Kn.go (by assumption) ?_
    | (intro n hn; (try simp only [upd_none2, join_none_iff, ite_none, ne_eq] at hn); (try simp only [push_cast, seval, *]))
    | (intro hc)
    | fail)
  exact ⟨_, H2, Weak.less (unhid l1), _, rfl, unhid l2⟩
theorem Do_p (o : OpD) (c : CellD) (v : Int) (hlO : o.ins.length ≤ maxLen) (hA : o.A ≤ 9223372036854775807) :
    Pure Try.prog 25 [.g (OpD.av o), .g (CellD.av c), .c (.int .i64 v)] (.t [.g (CellD.av (runS o c [v]).1), .l 1 ((runS o c [v]).2.1.map i1), .c (.int .i64 (runS o c [v]).2.2)]) := fun H =>
  ACall.weak ((Do_o o c v hlO hA H).mono fun r H' h => by
    obtain ⟨x, rfl, hx⟩ := h
    exact ⟨_, _, own_t3 hx, rfl, rfl⟩)

def RunS (o : OpD) (c : CellD) (vs : List Int) : CellD × List Int × Int := if 40 < vs.length then (zeroC, [], 3) else runS o c vs
theorem Run_o (o : OpD) (c : CellD) (vs : List Int) (hlO : o.ins.length ≤ maxLen) (hA : o.A ≤ 9223372036854775807) (H : Heap) :
    ACall Try.prog 18 [.g (OpD.av o), .g (CellD.av c), .l 1 (vs.map i1)] H fun r H' => ∃ y, r = .t [.g (CellD.av (RunS o c vs).1), y, .c (.int .i64 (RunS o c vs).2.2)] ∧ OwnL H' y 2 1 ((RunS o c vs).2.1.map i1) H := by
  by_cases h40 : 40 < vs.length
  · have hR : RunS o c vs = (zeroC, [], 3) := by unfold RunS; rw [if_pos h40]
    rw [hR]
    have h40I : (40 : Int) < vs.length := by omega
    obtain ⟨t, w, l, A, B⟩ := o
    obtain ⟨cn, cs⟩ := c
    simp only [OpD.av, CellD.av, zeroC]
    clear hR hlO hA
    refine ACall_of' Try.func18 rfl (Ent_of Try.func18 (by kernel_rfl) rfl) (by simp [Try.ntmps18]) ?_; simp only [Try.ntmps18, Try.results18]
    repeat' (first
    | refine AW_seq_kn fun K hK => ?_
    | refine AW_block ?_
    | (refine does_call rfl rfl ?_; simp only [push_cast, seval, *]; refine ACall.monoP (run_p ⟨_, _, _, _, _⟩ ⟨_, _⟩ _ (by assumption) (by assumption) (by assumption) _) ?_; (try simp only [push_cast, seval, *]))
    | ((first
      | refine AW_region E0 ?_ | refine AW_ret ?_ | refine AW_exit ?_ | refine AW_skip ?_ | unfold retQ); try simp only [push_cast, seval, *])
    | (apply AW_cond; (case hc => (simp only [push_cast, seval]; rfl)); all_goals (intro hc; first | (exfalso; simp only [push_cast, seval, *] at hc; done) | (exact absurd hc (by decide)) | ((try first | rw [Bool.not_true] at hc | rw [Bool.not_false] at hc); first | (with_reducible replace hc := tTT hc); clear hc | (with_reducible replace hc := tFF hc); clear hc | (have hp := hc; try simp only [decide_eq_true_eq, decide_eq_false_iff_not, bA, bB, bC, bD, bE, bF, bG, bH] at hp))))
    | (refine Kn.go hK ?_; clear hK K)
    | refine Kn.go (by assumption) ?_
    | (intro n hn; (try simp only [upd_none2, join_none_iff, ite_none, ne_eq] at hn); (try simp only [push_cast, seval, *]))
    | (intro hc)
    | fail)
    exact ⟨_, _, Weak.less (by (simp only [push_cast, seval, *])), _, rfl, .inl ⟨⟨_, rfl⟩, rfl, rfl⟩⟩
  have hR : RunS o c vs = runS o c vs := by unfold RunS; rw [if_neg h40]
  rw [hR]
  have h40I : ¬ (40 : Int) < vs.length := by omega
  have hro := run_o o c vs hlO hA (by omega)
  clear hR
  generalize runS o c vs = T at *
  obtain ⟨⟨n', s'⟩, out, e⟩ := T
  simp only at hro
  obtain ⟨t, w, l, A, B⟩ := o
  obtain ⟨cn, cs⟩ := c
  simp only [OpD.av, CellD.av] at hro ⊢
  replace hro := Lib.hid hro
  clear hlO hA
  refine ACall_of' Try.func18 rfl (Ent_of Try.func18 (by kernel_rfl) rfl) (by simp [Try.ntmps18]) ?_; simp only [Try.ntmps18, Try.results18]
  repeat' (first
    | refine AW_seq_kn fun K hK => ?_
    | refine AW_block ?_
    | (refine does_call rfl rfl ?_; simp only [push_cast, seval, *]; refine ACall.monoP (run_p ⟨_, _, _, _, _⟩ ⟨_, _⟩ _ (by assumption) (by assumption) (by assumption) _) ?_; (try simp only [push_cast, seval, *]))
    | ((first
      | refine AW_region E0 ?_ | refine AW_ret ?_ | refine AW_exit ?_ | refine AW_skip ?_ | unfold retQ); try simp only [push_cast, seval, *])
    | (apply AW_cond; (case hc => (simp only [push_cast, seval]; rfl)); all_goals (intro hc; first | (exfalso; simp only [push_cast, seval, *] at hc; done) | (exact absurd hc (by decide)) | ((try first | rw [Bool.not_true] at hc | rw [Bool.not_false] at hc); first | (with_reducible replace hc := tTT hc); clear hc | (with_reducible replace hc := tFF hc); clear hc | (have hp := hc; try simp only [decide_eq_true_eq, decide_eq_false_iff_not, bA, bB, bC, bD, bE, bF, bG, bH] at hp))))
    | (refine Kn.go hK ?_; clear hK K)
    | refine Kn.go (by assumption) ?_
    | (intro n hn; (try simp only [upd_none2, join_none_iff, ite_none, ne_eq] at hn); (try simp only [push_cast, seval, *]))
    | (intro hc)
    | fail)
  rename_i n1 h1 n2 h2
  obtain ⟨Hs, hHs⟩ : ∃ Hs : Heap, Hs = upd (upd (upd H n1 (.r 24 5 1 [[.c (.int .i64 t), .c (.int .i64 w), .l 1 (l.map i1), .c (.int .i64 A), .c (.int .i64 B)]])) n2 (.r 26 2 1 [[.c (.int .i64 cn), .c (.int .i64 cs)]])) n (.r 26 2 1 [[.c (.int .i64 0), .c (.int .i64 0)]]) := ⟨_, rfl⟩
  have g6 : Hs n = some (.r 26 2 1 [[.c (.int .i64 0), .c (.int .i64 0)]]) := by rw [hHs]; simp only [push_cast, seval, *]
  have hle : Heap.le H (upd Hs n (.r 26 2 1 [[.c (.int .i64 n'), .c (.int .i64 s')]])) := fun q b hq => by
    have hne := ne_old hq
    have c6 : ¬ q = n := by rintro rfl; have := hn.2.2; rw [hq] at this; cases this
    rw [upd_ne c6, hHs]; simp only [push_cast, seval, *]
  rw [← hHs]
  clear hHs h1 h2 hn
  refine does_call rfl rfl ?_
  simp only [push_cast, seval, *]
  refine ACall.mono (unhid hro _) ?_
  rintro r G ⟨y, rfl, hown⟩
  have k6 := hown.get g6
  have ht := hown.turn g6 (.r 26 2 1 [[.c (.int .i64 n'), .c (.int .i64 s')]])
  obtain ⟨H2, l1, l2⟩ := ht.cut hle
  have hcs := hown.cs
  clear hown ht hle hro g6
  replace l1 := Lib.hid l1
  replace l2 := Lib.hid l2
  (try simp only [push_cast, seval, *])
  repeat' (first
    | refine AW_seq_kn fun K hK => ?_
    | refine AW_block ?_
    | (refine does_call rfl rfl ?_; simp only [push_cast, seval, *]; refine ACall.monoP (run_p ⟨_, _, _, _, _⟩ ⟨_, _⟩ _ (by assumption) (by assumption) (by assumption) _) ?_; (try simp only [push_cast, seval, *]))
    | ((first
      | refine AW_region E0 ?_ | refine AW_ret ?_ | refine AW_exit ?_ | refine AW_skip ?_ | unfold retQ); try simp only [push_cast, seval, *])
    | (apply AW_cond; (case hc => (simp only [push_cast, seval]; rfl)); all_goals (intro hc; first | (exfalso; simp only [push_cast, seval, *] at hc; done) | (exact absurd hc (by decide)) | ((try first | rw [Bool.not_true] at hc | rw [Bool.not_false] at hc); first | (with_reducible replace hc := tTT hc); clear hc | (with_reducible replace hc := tFF hc); clear hc | (have hp := hc; try simp only [decide_eq_true_eq, decide_eq_false_iff_not, bA, bB, bC, bD, bE, bF, bG, bH] at hp))))
    | (refine Kn.go hK ?_; clear hK K)
    | refine Kn.go (by assumption) ?_
    | (intro n hn; (try simp only [upd_none2, join_none_iff, ite_none, ne_eq] at hn); (try simp only [push_cast, seval, *]))
    | (intro hc)
    | fail)
  exact ⟨_, H2, Weak.less (unhid l1), _, rfl, unhid l2⟩
theorem Run_p (o : OpD) (c : CellD) (vs : List Int) (hlO : o.ins.length ≤ maxLen) (hA : o.A ≤ 9223372036854775807) :
    Pure Try.prog 18 [.g (OpD.av o), .g (CellD.av c), .l 1 (vs.map i1)] (.t [.g (CellD.av (RunS o c vs).1), .l 1 ((RunS o c vs).2.1.map i1), .c (.int .i64 (RunS o c vs).2.2)]) := fun H =>
  ACall.weak ((Run_o o c vs hlO hA H).mono fun r H' h => by
    obtain ⟨x, rfl, hx⟩ := h
    exact ⟨_, _, own_t3 hx, rfl, rfl⟩)

end Go.Proofs.Ytmkncbddjnaklaa
