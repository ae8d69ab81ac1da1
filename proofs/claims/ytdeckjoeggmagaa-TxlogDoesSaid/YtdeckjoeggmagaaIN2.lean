/- Walks: of the library, one less in a row of transactions. -/
import Derived.Test.YtdeckjoeggmagaaB
namespace Go.Proofs.Ytdeckjoeggmagaa
open Go.RowKit
open Nat renaming reduceEqDiff → nA, reduceLT → nB, reduceLeDiff → nC, reduceAdd → nD, reduceMul → nE, reduceSub → nF, reduceBEq → nG
open Int renaming reduceToNat → iA, reduceLT → iB, reduceLE → iC, reduceEq → iD
open Bool renaming and_eq_true → bA, or_eq_true → bB, or_eq_false_iff → bC, and_eq_false_iff → bD, not_eq_true' → bE, not_eq_false' → bF, not_true → bG, not_false → bH
set_option linter.all false
set_option maxHeartbeats 4000000
attribute [local irreducible] AW Does ACall tE tS tB tZ
def dLIN20 : List En := [(0, false, []), (1, false, []), (2, false, []), (3, false, []), (4, false, []), (5, false, []), (6, false, []), (7, false, [])]
def dAIN20 : List (List Nat) := [[], [], [0, 1], [], [], [3, 4], [0, 1, 2, 3, 4, 5], [0, 1, 2, 3, 4, 5, 6]]
attribute [push_cast] dLIN20

theorem tdel {rows : List (List AV)} {n cap i j : Nat} (H : Heap) (hn : H n = some (.r 86 5 cap rows)) (hij : i ≤ j) (hj : j ≤ rows.length) :
    ACall Try.prog 79 [.s n 5 0 rows.length cap, .c (.int .i64 i), .c (.int .i64 j)] H fun r H' => r = .s n 5 0 (rows.take i ++ rows.drop j).length cap ∧ H' = upd H n (.r 86 5 cap (rows.take i ++ rows.drop j)) := by
  refine ACall.blk (Ent_of Try.func79 (by kernel_rfl) rfl) hn fun hcap hmax _ _ => ?_
  have hcapI : (rows.length : Int) ≤ cap := by omega
  have hijI : (i : Int) ≤ j := by omega
  have hjI : (j : Int) ≤ rows.length := by omega
  have hiI : (i : Int) ≤ rows.length := by omega
  have hicI : (i : Int) ≤ cap := by omega
  have hjcI : (j : Int) ≤ cap := by omega
  by_cases e : i = j
  · subst e
    refine ACall_of' Try.func79 rfl (Ent_of Try.func79 (by kernel_rfl) rfl) (by simp [Try.ntmps79]) ?_; simp only [Try.ntmps79, Try.results79]
    repeat' (first
    | refine AW_seq_kn fun K hK => ?_
    | refine AW_block ?_
    | ((first
      | refine AW_region_draw (id := 5) E1 (fun f => [].contains f) dLIN20 dAIN20 mixed (by kernel_rfl) ?_
      | refine AW_region E1 ?_ | refine AW_ret ?_ | refine AW_exit ?_ | refine AW_skip ?_ | unfold retQ); try simp only [push_cast, seval, *])
    | (apply AW_cond; (case hc => (simp only [push_cast, seval]; rfl)); all_goals (intro hc; first | (exfalso; simp only [push_cast, seval, *] at hc; done) | (exact absurd hc (by decide)) | ((try first | rw [Bool.not_true] at hc | rw [Bool.not_false] at hc); first | (with_reducible replace hc := tTT hc); clear hc | (with_reducible replace hc := tFF hc); clear hc | (have hp := hc; try simp only [decide_eq_true_eq, decide_eq_false_iff_not, bA, bB, bC, bD, bE, bF, bG, bH] at hp))))
    | (refine Kn.go hK ?_; clear hK K)
    | refine Kn.go (by assumption) ?_
    | (intro n hn; (try simp only [upd_none2, join_none_iff, ite_none, ne_eq] at hn); (try simp only [push_cast, seval, *]))
    | (intro hc)
    | fail)
    refine ⟨_, _, Weak.refl _ _, ?_, ?_⟩
    · rw [List.take_append_drop]
    · rw [List.take_append_drop, upd_self hn]
  · have heI : ¬ (i : Int) = j := by omega
    refine ACall_of' Try.func79 rfl (Ent_of Try.func79 (by kernel_rfl) rfl) (by simp [Try.ntmps79]) ?_; simp only [Try.ntmps79, Try.results79]
    repeat' (first
    | refine AW_seq_kn fun K hK => ?_
    | refine AW_block ?_
    | ((first
      | refine AW_region_draw (id := 5) E1 (fun f => [].contains f) dLIN20 dAIN20 mixed (by kernel_rfl) ?_
      | refine AW_region E1 ?_ | refine AW_ret ?_ | refine AW_exit ?_ | refine AW_skip ?_ | unfold retQ); try simp only [push_cast, seval, *])
    | (apply AW_cond; (case hc => (simp only [push_cast, seval]; rfl)); all_goals (intro hc; first | (exfalso; simp only [push_cast, seval, *] at hc; done) | (exact absurd hc (by decide)) | ((try first | rw [Bool.not_true] at hc | rw [Bool.not_false] at hc); first | (with_reducible replace hc := tTT hc); clear hc | (with_reducible replace hc := tFF hc); clear hc | (have hp := hc; try simp only [decide_eq_true_eq, decide_eq_false_iff_not, bA, bB, bC, bD, bE, bF, bG, bH] at hp))))
    | (refine Kn.go hK ?_; clear hK K)
    | refine Kn.go (by assumption) ?_
    | (intro n hn; (try simp only [upd_none2, join_none_iff, ite_none, ne_eq] at hn); (try simp only [push_cast, seval, *]))
    | (intro hc)
    | fail)
    refine does_appself rfl rfl rfl hn tE44 tS86 (by omega) (by omega) (by omega) ?_
    have e1 : (rows.drop j).take (rows.length - j) = rows.drop j := List.take_of_length_le (by simp)
    rw [e1]
    have hRl : (rows.take i ++ rows.drop j).length = i + (rows.length - j) := by simp; omega
    generalize hL : i + (rows.length - j) = L at *
    generalize rows.take i ++ rows.drop j = R at *
    have hL1 : (L : Int) ≤ rows.length := by omega
    have hL2 : (L : Int) ≤ cap := by omega
    have hH := upd_same H n (.r 86 5 cap R)
    have hE24 := tE44
    have hZ33 := tZ86
    (try simp only [push_cast, seval, *])
    repeat' (first
    | refine AW_seq_kn fun K hK => ?_
    | refine AW_block ?_
    | (refine does_clear rfl rfl hH hE24 hZ33 rfl (by decide) (by omega) (by omega) ?_; (try simp only [push_cast, seval, *]))
    | ((first
      | refine AW_region_draw (id := 5) E1 (fun f => [].contains f) dLIN20 dAIN20 mixed (by kernel_rfl) ?_
      | refine AW_region E1 ?_ | refine AW_ret ?_ | refine AW_exit ?_ | refine AW_skip ?_ | unfold retQ); try simp only [push_cast, seval, *])
    | (apply AW_cond; (case hc => (simp only [push_cast, seval]; rfl)); all_goals (intro hc; first | (exfalso; simp only [push_cast, seval, *] at hc; done) | (exact absurd hc (by decide)) | ((try first | rw [Bool.not_true] at hc | rw [Bool.not_false] at hc); first | (with_reducible replace hc := tTT hc); clear hc | (with_reducible replace hc := tFF hc); clear hc | (have hp := hc; try simp only [decide_eq_true_eq, decide_eq_false_iff_not, bA, bB, bC, bD, bE, bF, bG, bH] at hp))))
    | (refine Kn.go hK ?_; clear hK K)
    | refine Kn.go (by assumption) ?_
    | (intro n hn; (try simp only [upd_none2, join_none_iff, ite_none, ne_eq] at hn); (try simp only [push_cast, seval, *]))
    | (intro hc)
    | fail)
    exact ⟨_, _, Weak.refl _ _, by first | rfl | rw [hRl], rfl⟩
theorem tdel_o {x : AV} {rows : List (List AV)} {i j : Nat} {H H0 : Heap} (hown : OwnL H x 86 5 rows H0) (hij : i ≤ j) (hj : j ≤ rows.length) :
    ACall Try.prog 79 [x, .c (.int .i64 i), .c (.int .i64 j)] H fun r H' => OwnL H' r 86 5 (rows.take i ++ rows.drop j) H0 := by
  rcases hown with ⟨⟨ad, rfl⟩, rfl, rfl⟩ | ⟨n, cap, rfl, hn, rfl⟩
  · obtain rfl : j = 0 := by simpa using hj
    obtain rfl : i = 0 := by omega
    have hE24 := tE44
    have hS33 := tS86
    refine ACall_of' Try.func79 rfl (Ent_of Try.func79 (by kernel_rfl) rfl) (by simp [Try.ntmps79]) ?_; simp only [Try.ntmps79, Try.results79]
    repeat' (first
    | refine AW_seq_kn fun K hK => ?_
    | refine AW_block ?_
    | (refine does_slice_c rfl rfl hE24 hS33 rfl rfl rfl (fun _ => rfl) ?_; (try simp only [push_cast, seval, *]))
    | ((first
      | refine AW_region_draw (id := 5) E1 (fun f => [].contains f) dLIN20 dAIN20 mixed (by kernel_rfl) ?_
      | refine AW_region E1 ?_ | refine AW_ret ?_ | refine AW_exit ?_ | refine AW_skip ?_ | unfold retQ); try simp only [push_cast, seval, *])
    | (apply AW_cond; (case hc => (simp only [push_cast, seval]; rfl)); all_goals (intro hc; first | (exfalso; simp only [push_cast, seval, *] at hc; done) | (exact absurd hc (by decide)) | ((try first | rw [Bool.not_true] at hc | rw [Bool.not_false] at hc); first | (with_reducible replace hc := tTT hc); clear hc | (with_reducible replace hc := tFF hc); clear hc | (have hp := hc; try simp only [decide_eq_true_eq, decide_eq_false_iff_not, bA, bB, bC, bD, bE, bF, bG, bH] at hp))))
    | (refine Kn.go hK ?_; clear hK K)
    | refine Kn.go (by assumption) ?_
    | (intro n hn; (try simp only [upd_none2, join_none_iff, ite_none, ne_eq] at hn); (try simp only [push_cast, seval, *]))
    | (intro hc)
    | fail)
    exact ⟨_, _, Weak.refl _ _, .inl ⟨⟨_, rfl⟩, rfl, rfl⟩⟩
  · refine (tdel H hn hij hj).mono ?_
    (rintro _ _ ⟨rfl, e2⟩; have e3 := e2.symm; clear e2; subst e3)
    refine .inr ⟨n, cap, rfl, upd_same _ _ _, ?_⟩
    funext q
    simp only [del, upd]
    by_cases e : q = n <;> simp [e]

end Go.Proofs.Ytdeckjoeggmagaa
