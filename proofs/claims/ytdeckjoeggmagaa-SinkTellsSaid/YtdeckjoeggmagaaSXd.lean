/- SinkTells, part Xd. -/
import Derived.Test.YtdeckjoeggmagaaSJ
import Derived.Test.YtdeckjoeggmagaaSK
import Derived.Test.YtdeckjoeggmagaaSH
namespace Go.Proofs.Ytdeckjoeggmagaa
open Go.RowKit
open Nat renaming reduceEqDiff → nA, reduceLT → nB, reduceLeDiff → nC, reduceAdd → nD, reduceMul → nE, reduceSub → nF, reduceBEq → nG
open Int renaming reduceToNat → iA, reduceLT → iB, reduceLE → iC, reduceEq → iD
open Bool renaming and_eq_true → bA, or_eq_true → bB, or_eq_false_iff → bC, and_eq_false_iff → bD, not_eq_true' → bE, not_eq_false' → bF, not_true → bG, not_false → bH
set_option linter.all false
set_option maxHeartbeats 4000000
attribute [local irreducible] AW Does ACall tE tS tB tZ
set_option maxRecDepth 5000

theorem sinkTells_Xd (s t : Sk) (hs : s.rdy.length ≤ maxLen) (ht : t.rdy.length ≤ maxLen) (h2 : ¬ 200 < s.rdy.length) (h3 : ¬ 200 < t.rdy.length) (hcase : ((¬ s.sub < 0 ∧ ¬ 15 < s.sub ∧ ¬ s.att < 1 ∧ ¬ 1048576 < s.att) ∧ (skOk (newSk s.sub s.att s.rdy) = true ∧ newR s.sub s.att s.rdy = (newSk s.sub s.att s.rdy, 0)))) (H : Heap) : ACall Try.prog 8 [.g (Sk.av s), .g (Sk.av t)] H fun q _ => q = .c (.bool true) := by
  have hwk := wakes17_p
  have hcp := copied17_p s (by omega)
  have hck := sCheck_p s hs
  have hri := refRight17_p s hs
  have hsm := sSame_p s t hs ht
  have hrs := refSame17_p s t hs ht
  have hss := sSame_p s s hs hs
  rw [decide_eq_true (show s = s from rfl)] at hss
  have hne := fun M => New_lf s.sub s.att s.rdy (by omega) (Lent.refl M _)
  have hrw := refRight17_p (newSk s.sub s.att s.rdy) hs
  have hsw := refSame17_p (newSk s.sub s.att s.rdy) (newSk s.sub s.att s.rdy) hs hs
  rw [decide_eq_true rfl] at hsw
  generalize newR s.sub s.att s.rdy = N at *
  generalize decide (s = t) = B at *
  generalize hQ : skOk (newSk s.sub s.att s.rdy) = Q at *
  generalize skOk s = C at *
  obtain ⟨a, b, c, d, l⟩ := s
  obtain ⟨a2, b2, c2, d2, l2⟩ := t
  simp only at h2 h3
  simp only [Sk.av, newSk] at hcp hck hri hsm hrs hss hne hrw hsw hcase ⊢
  have h2I : ¬ (200 : Int) < l.length := by omega
  have h3I : ¬ (200 : Int) < l2.length := by omega
  have hE := tE22
  have hS := tS26
  have hBt := tB26
  have hZ := tZ26
  have hl6 : l.length ≤ 1000000 := by omega
  clear hs ht hQ h2 h3
  replace hwk := Lib.hid hwk
  replace hcp := Lib.hid hcp
  replace hsm := Lib.hid hsm
  replace hrs := Lib.hid hrs
  replace hss := Lib.hid hss
  rcases hcase with ⟨⟨k1, k2, k3, k4⟩, rfl, rfl⟩
  all_goals
    simp only [zeroSk, List.map_nil] at hne
    replace hne := Lib.hid hne
    replace hrw := Lib.hid hrw
    replace hsw := Lib.hid hsw
    cases C
  all_goals
    simp only [Bool.false_eq_true, if_false, if_true] at hck
    refine ACall_of' Try.func8 rfl (Ent_of Try.func8 (by kernel_rfl) rfl) (by simp [Try.ntmps8]) ?_; simp only [Try.ntmps8, Try.results8]
    repeat' (first
    | refine AW_seq_kn fun K hK => ?_
    | refine AW_block ?_
    | (refine does_call rfl rfl ?_; simp only [push_cast, seval, *]; refine ACall.monoP (unhid hwk _) ?_; (try simp only [push_cast, seval, *]))
    | (refine does_call rfl rfl ?_; simp only [push_cast, seval, *]; refine ACall.monoP (unhid hcp _) ?_; (try simp only [push_cast, seval, *]))
    | (refine does_call rfl rfl ?_; simp only [push_cast, seval, *]; refine ACall.monoP (hck _) ?_; (try simp only [push_cast, seval, *]))
    | (refine does_call rfl rfl ?_; simp only [push_cast, seval, *]; refine ACall.monoP (hri _) ?_; (try simp only [push_cast, seval, *]))
    | (refine does_call rfl rfl ?_; simp only [push_cast, seval, *]; refine ACall.monoP (unhid hss _) ?_; (try simp only [push_cast, seval, *]))
    | (refine does_call rfl rfl ?_; simp only [push_cast, seval, *]; refine ACall.monoP (unhid hsm _) ?_; (try simp only [push_cast, seval, *]))
    | (refine does_call rfl rfl ?_; simp only [push_cast, seval, *]; refine ACall.monoP (unhid hrs _) ?_; (try simp only [push_cast, seval, *]))
    | (refine Does.frozen (ty := 26) (does_appL (news := l.map Nm.av) rfl rfl rfl (OwnL.fresh (by simp only [upd_none2]; assumption)) hE hS hBt hZ rfl (by decide) (by simp only [List.length_map, List.length_nil, maxLen]; omega) (by simp only [List.length_map, List.length_nil]; omega) (fun _ _ h' => h')) ?_; (try simp only [List.nil_append]); (try simp only [push_cast, seval, *]))
    | (refine does_call rfl rfl ?_; simp only [push_cast, seval, *]; refine ACall.monoP (unhid hne _) ?_; (try simp only [push_cast, seval, *]))
    | (refine does_call rfl rfl ?_; simp only [push_cast, seval, *]; refine ACall.monoP (unhid hrw _) ?_; (try simp only [push_cast, seval, *]))
    | (refine does_call rfl rfl ?_; simp only [push_cast, seval, *]; refine ACall.monoP (unhid hsw _) ?_; (try simp only [push_cast, seval, *]))
    | ((first
      | refine AW_region_draw (id := 7) E0 (fun f => [].contains f) [(0, false, []), (1, false, []), (2, false, []), (3, false, []), (4, false, []), (5, false, []), (6, false, []), (7, false, []), (8, false, []), (9, false, []), (10, false, []), (11, false, []), (12, false, []), (13, false, []), (14, false, []), (16, true, []), (17, true, []), (15, false, [16, 17]), (18, false, []), (19, false, []), (20, false, []), (21, false, []), (22, true, []), (23, false, []), (24, false, [22]), (25, false, []), (26, false, []), (27, false, [])] [[], [], [1], [0, 1, 2], [0, 1, 2, 3], [0, 1, 2, 3, 4], [0, 1, 2, 3, 4, 5], [0, 1, 2, 3, 4, 5, 6], [0, 1, 2, 3, 4, 5, 6, 7], [0, 1, 2, 3, 4, 5, 6, 7, 8], [0, 1, 2, 3, 4, 5, 6, 7, 8, 9], [0, 1, 2, 3, 4, 5, 6, 7, 8, 9, 10], [0, 1, 2, 3, 4, 5, 6, 7, 8, 9, 10, 11], [0, 1, 2, 3, 4, 5, 6, 7, 8, 9, 10, 11, 12], [0, 1, 2, 3, 4, 5, 6, 7, 8, 9, 10, 11, 12], [0, 1, 2, 3, 4, 5, 6, 7, 8, 9, 10, 11, 12, 13, 14], [0, 1, 2, 3, 4, 5, 6, 7, 8, 9, 10, 11, 12], [0, 1, 2, 3, 4, 5, 6, 7, 8, 9, 10, 11, 12], [0, 1, 2, 3, 4, 5, 6, 7, 8, 9, 10, 11, 12, 13, 14, 15, 16, 17], [0, 1, 2, 3, 4, 5, 6, 7, 8, 9, 10, 11, 12, 13, 14, 15, 16, 17, 18], [0, 1, 2, 3, 4, 5, 6, 7, 8, 9, 10, 11, 12, 13, 14, 15, 16, 17, 18, 19], [0, 1, 2, 3, 4, 5, 6, 7, 8, 9, 10, 11, 12, 13, 14, 15, 16, 17, 18, 19, 20], [0, 1, 2, 3, 4, 5, 6, 7, 8, 9, 10, 11, 12, 13, 14, 15, 16, 17, 18, 19, 20, 21], [0, 1, 2, 3, 4, 5, 6, 7, 8, 9, 10, 11, 12, 13, 14, 15, 16, 17, 18, 19, 20, 21], [0, 1, 2, 3, 4, 5, 6, 7, 8, 9, 10, 11, 12, 13, 14, 15, 16, 17, 18, 19, 20, 21, 23], [0, 1, 2, 3, 4, 5, 6, 7, 8, 9, 10, 11, 12, 13, 14, 15, 16, 17, 18, 19, 20, 21, 22, 23, 24], [0, 1, 2, 3, 4, 5, 6, 7, 8, 9, 10, 11, 12, 13, 14, 15, 16, 17, 18, 19, 20, 21, 22, 23, 24, 25], [0, 1, 2, 3, 4, 5, 6, 7, 8, 9, 10, 11, 12, 13, 14, 15, 16, 17, 18, 19, 20, 21, 22, 23, 24, 25, 26]] mixed (by kernel_rfl) ?_
      | refine AW_region_draw (id := 9) E0 (fun f => [].contains f) [(0, false, []), (1, true, []), (2, false, []), (3, true, []), (5, false, []), (6, false, []), (4, false, []), (7, false, [1, 3, 12]), (8, false, [12]), (9, false, []), (10, false, []), (11, false, []), (12, false, []), (13, false, []), (14, false, [])] [[], [0], [], [2], [], [], [5], [4, 5, 6], [0, 1, 2, 3, 4, 5, 6, 7], [0, 1, 2, 3, 4, 5, 6, 7, 8], [0, 1, 2, 3, 4, 5, 6, 7, 8, 9], [0, 1, 2, 3, 4, 5, 6, 7, 8, 9], [], [0, 1, 2, 3, 4, 5, 6, 7, 8, 9, 10, 12], [0, 1, 2, 3, 4, 5, 6, 7, 8, 9, 10, 11, 12, 13]] mixed (by kernel_rfl) ?_
      | refine AW_region E0 ?_ | refine AW_ret ?_ | refine AW_exit ?_ | refine AW_skip ?_ | unfold retQ); try simp only [push_cast, seval, *])
    | ((first | (apply AW_cond; (case hc => (simp only [push_cast, seval]; rfl))) | (apply ER_guard; (case hb => (simp only [push_cast, seval]; rfl)))); all_goals ((intro hc; first | (exfalso; simp only [push_cast, seval, *] at hc; done) | (exact absurd hc (by decide)) | ((try first | rw [Bool.not_true] at hc | rw [Bool.not_false] at hc); first | (with_reducible replace hc := tTT hc); clear hc | (with_reducible replace hc := tFF hc); clear hc | (have hp := hc; try simp only [decide_eq_true_eq, decide_eq_false_iff_not, bA, bB, bC, bD, bE, bF, bG, bH] at hp))) <;> try simp only [push_cast, seval, *]))
    | (refine Kn.go hK ?_; clear hK K)
    | refine Kn.go (by assumption) ?_
    | (intro n hn; (try simp only [upd_none2, join_none_iff, ite_none, ne_eq] at hn); (try simp only [push_cast, seval, *]))
    | (intro hc)
    | (apply ER_blk; (case hp => rfl); (case hb => (simp only [push_cast, seval]; rfl)); (case hd => (simp only [push_cast, seval]; done)); (case h => (intro hc; simp only [push_cast, seval, *]; rfl)); simp only [push_cast, seval, *])
    | fail)
    exact ⟨_, _, Weak.refl _ _, rfl⟩
end Go.Proofs.Ytdeckjoeggmagaa
