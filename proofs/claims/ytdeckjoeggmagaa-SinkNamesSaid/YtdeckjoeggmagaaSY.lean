/- SinkNames. -/
import Derived.Test.YtdeckjoeggmagaaSY0
import Derived.Test.YtdeckjoeggmagaaSH
namespace Go.Proofs.Ytdeckjoeggmagaa
open Go.RowKit
open Nat renaming reduceEqDiff → nA, reduceLT → nB, reduceLeDiff → nC, reduceAdd → nD, reduceMul → nE, reduceSub → nF, reduceBEq → nG
open Int renaming reduceToNat → iA, reduceLT → iB, reduceLE → iC, reduceEq → iD
open Bool renaming and_eq_true → bA, or_eq_true → bB, or_eq_false_iff → bC, and_eq_false_iff → bD, not_eq_true' → bE, not_eq_false' → bF, not_true → bG, not_false → bH
set_option linter.all false
set_option maxHeartbeats 4000000
attribute [local irreducible] AW Does ACall tE tS tB tZ
def dLSY0 : List En := [(0, false, []), (1, false, []), (2, false, []), (3, false, []), (4, false, []), (5, false, []), (6, false, []), (7, false, []), (8, false, []), (9, false, []), (10, false, []), (11, false, []), (12, false, []), (13, false, []), (14, false, []), (15, false, []), (16, false, []), (17, false, []), (18, false, []), (19, false, []), (20, false, []), (21, false, []), (22, false, []), (23, false, []), (24, false, []), (25, false, []), (26, false, []), (27, false, []), (28, false, []), (29, false, []), (30, false, []), (31, false, []), (32, false, []), (33, false, []), (34, false, []), (35, false, []), (36, false, []), (37, false, []), (38, false, []), (39, false, []), (40, false, []), (41, false, [])]
def dASY0 : List (List Nat) := [[], [0], [0, 1], [0, 1, 2], [0, 1, 2, 3], [0, 1, 2, 3, 4], [0, 1, 2, 3, 4, 5], [0, 1, 2, 3, 4, 5, 6], [0, 1, 2, 3, 4, 5, 6, 7], [0, 1, 2, 3, 4, 5, 6, 7], [0, 1, 2, 3, 4, 5, 6, 7, 9], [0, 1, 2, 3, 4, 5, 6, 7, 9, 10], [0, 1, 2, 3, 4, 5, 6, 7, 8, 9, 10, 11], [0, 1, 2, 3, 4, 5, 6, 7, 8, 9, 10, 11, 12], [0, 1, 2, 3, 4, 5, 6, 7, 8, 9, 10, 11, 12, 13], [0, 1, 2, 3, 4, 5, 6, 7], [0, 1, 2, 3, 4, 5, 6, 7, 8, 9, 10, 11, 12, 13, 14, 15], [0, 1, 2, 3, 4, 5, 6, 7, 8, 9, 10, 11, 12, 13, 14, 15, 16], [0, 1, 2, 3, 4, 5, 6, 7, 8, 9, 10, 11, 12, 13, 14, 15, 16, 17], [0, 1, 2, 3, 4, 5, 6, 7, 8, 9, 10, 11, 12, 13, 14, 15, 16, 17, 18], [0, 1, 2, 3, 4, 5, 6, 7, 8, 9, 10, 11, 12, 13, 14, 15, 16, 17, 18, 19], [0, 1, 2, 3, 4, 5, 6, 7, 8, 9, 10, 11, 12, 13, 14, 15, 16, 17, 18], [0, 1, 2, 3, 4, 5, 6, 7, 8, 9, 10, 11, 12, 13, 14, 15, 16, 17, 18], [0, 1, 2, 3, 4, 5, 6, 7, 8, 9, 10, 11, 12, 13, 14, 15, 16, 17, 18, 21, 22], [0, 1, 2, 3, 4, 5, 6, 7, 8, 9, 10, 11, 12, 13, 14, 15, 16, 17, 18, 19, 20, 21, 22, 23], [0, 1, 2, 3, 4, 5, 6, 7, 8, 9, 10, 11, 12, 13, 14, 15, 16, 17, 18, 19, 20, 21, 22, 23, 24], [0, 1, 2, 3, 4, 5, 6, 7, 8, 9, 10, 11, 12, 13, 14, 15, 16, 17, 18, 19, 20, 21, 22, 23, 24, 25], [0, 1, 2, 3, 4, 5, 6, 7, 8, 9, 10, 11, 12, 13, 14, 15, 16, 17, 18, 19, 20, 21, 22, 23, 24, 25, 26], [0, 1, 2, 3, 4, 5, 6, 7, 8, 9, 10, 11, 12, 13, 14, 15, 16, 17, 18, 19, 20, 21, 22, 23, 24, 25, 26, 27], [0, 1, 2, 3, 4, 5, 6, 7, 8, 9, 10, 11, 12, 13, 14, 15, 16, 17, 18, 19, 20, 21, 22, 23, 24, 25, 26, 27, 28], [0, 1, 2, 3, 4, 5, 6, 7, 8, 9, 10, 11, 12, 13, 14, 15, 16, 17, 18, 19, 20, 21, 22, 23, 24, 25, 26, 27, 28, 29], [0, 1, 2, 3, 4, 5, 6, 7, 8, 9, 10, 11, 12, 13, 14, 15, 16, 17, 18, 19, 20, 21, 22, 23, 24, 25, 26, 27, 28, 29, 30], [0, 1, 2, 3, 4, 5, 6, 7, 8, 9, 10, 11, 12, 13, 14, 15, 16, 17, 18, 19, 20, 21, 22, 23, 24, 25, 26, 27, 28, 29, 30], [0, 1, 2, 3, 4, 5, 6, 7, 8, 9, 10, 11, 12, 13, 14, 15, 16, 17, 18, 19, 20, 21, 22, 23, 24, 25, 26, 27, 28, 29, 30, 31, 32], [0, 1, 2, 3, 4, 5, 6, 7, 8, 9, 10, 11, 12, 13, 14, 15, 16, 17, 18, 19, 20, 21, 22, 23, 24, 25, 26, 27, 28, 29, 30, 31, 32, 33], [0, 1, 2, 3, 4, 5, 6, 7, 8, 9, 10, 11, 12, 13, 14, 15, 16, 17, 18, 19, 20, 21, 22, 23, 24, 25, 26, 27, 28, 29, 30, 31, 32, 33, 34], [0, 1, 2, 3, 4, 5, 6, 7, 8, 9, 10, 11, 12, 13, 14, 15, 16, 17, 18, 19, 20, 21, 22, 23, 24, 25, 26, 27, 28, 29, 30, 31, 32, 33, 34, 35], [0, 1, 2, 3, 4, 5, 6, 7, 8, 9, 10, 11, 12, 13, 14, 15, 16, 17, 18, 19, 20, 21, 22, 23, 24, 25, 26, 27, 28, 29, 30, 31, 32, 33, 34, 35], [0, 1, 2, 3, 4, 5, 6, 7, 8, 9, 10, 11, 12, 13, 14, 15, 16, 17, 18, 19, 20, 21, 22, 23, 24, 25, 26, 27, 28, 29, 30, 31, 32, 33, 34, 35, 36, 37], [0, 1, 2, 3, 4, 5, 6, 7, 8, 9, 10, 11, 12, 13, 14, 15, 16, 17, 18, 19, 20, 21, 22, 23, 24, 25, 26, 27, 28, 29, 30, 31, 32, 33, 34, 35, 36, 37, 38], [0, 1, 2, 3, 4, 5, 6, 7, 8, 9, 10, 11, 12, 13, 14, 15, 16, 17, 18, 19, 20, 21, 22, 23, 24, 25, 26, 27, 28, 29, 30, 31, 32, 33, 34, 35, 36, 37, 38, 39], [0, 1, 2, 3, 4, 5, 6, 7, 8, 9, 10, 11, 12, 13, 14, 15, 16, 17, 18, 19, 20, 21, 22, 23, 24, 25, 26, 27, 28, 29, 30, 31, 32, 33, 34, 35, 36, 37, 38, 39, 40]]
attribute [push_cast] dLSY0
def dLSY1 : List En := [(0, false, []), (1, false, []), (2, false, []), (3, false, []), (4, false, []), (5, false, []), (6, false, []), (7, false, []), (8, false, []), (9, false, []), (10, false, []), (11, false, []), (12, false, []), (13, false, []), (14, false, [])]
def dASY1 : List (List Nat) := [[], [0], [], [2], [2, 3], [0, 1, 2, 3, 4], [0, 1, 2, 3, 4, 5], [0, 1, 2, 3, 4, 5, 6], [0, 1, 2, 3, 4, 5, 6], [0, 1, 2, 3, 4, 5, 6, 8], [0, 1, 2, 3, 4, 5, 6, 7, 8, 9], [0, 1, 2, 3, 4, 5, 6, 7, 8, 9, 10], [0, 1, 2, 3, 4, 5, 6], [0, 1, 2, 3, 4, 5, 6, 7, 8, 9, 10, 11, 12], [0, 1, 2, 3, 4, 5, 6, 7, 8, 9, 10, 11, 12, 13]]
attribute [push_cast] dLSY1
def dLSY2 : List En := [(0, false, []), (1, false, []), (2, false, []), (3, false, []), (4, false, []), (5, false, []), (6, false, []), (7, false, []), (8, false, [])]
def dASY2 : List (List Nat) := [[], [], [0, 1], [0, 1, 2], [], [], [4, 5], [4, 5, 6], [0, 1, 2, 3, 4, 5, 6, 7]]
attribute [push_cast] dLSY2
set_option maxRecDepth 5000

section
variable {P : Program} {N : Nat} {a : Nat → AV} {H : Heap} {Q : Post}
theorem AW_loopH {c : Code} (n : Nat) (fr : Nat → List (Nat × AV)) (hf : Sl a (fr 0))
    (step : ∀ k, k < n → AW P N c (frm (fr k)) H (thenA (fun a' H' => Nxt True (Sl a' (fr (k + 1))) (Heap.le H H')) Q))
    (done : AW P N c (frm (fr n)) H (thenA (fun _ _ => False) Q)) : AW P N (.loop c) a H Q :=
  AW_loopN n (fun _ => True) fr (fun _ => H) trivial hf (Heap.le_refl _) (fun k hk _ => step k hk) (fun _ => done)
end
def InvN (s : Sk) (v : Nm) : Prop := skOk s = true ∧ ((s.opn = true ∧ v = nameS s s.ser) ∨ (s.opn = false ∧ (v = zNm ∨ v = nameS s s.ser)))
theorem sinkNames_a (s : Sk) (hs : s.rdy.length ≤ maxLen) (rs : List Rec) (hrs : rs.length ≤ maxLen) (H : Heap) : ACall Try.prog 6 [.g (Sk.av s), .l 3 (rs.map Rec.av)] H fun q _ => q = .c (.bool true) := by
  have hwk := wakes17_p
  unfold maxLen at hrs
  by_cases h2 : 200 < s.rdy.length
  · obtain ⟨a, b, c, d, l⟩ := s
    simp only at h2
    simp only [Sk.av]
    have h2I : (200 : Int) < l.length := by omega
    refine ACall_of' Try.func6 rfl (Ent_of Try.func6 (by kernel_rfl) rfl) (by simp [Try.ntmps6]) ?_; simp only [Try.ntmps6, Try.results6]
    repeat' (first
    | refine AW_seq_kn fun K hK => ?_
    | refine AW_block ?_
    | (refine does_call rfl rfl ?_; simp only [push_cast, seval, *]; refine ACall.monoP (hwk _) ?_; (try simp only [push_cast, seval, *]))
    | (refine does_call rfl rfl ?_; simp only [push_cast, seval, *]; refine ACall.monoP (Compare_p ⟨_, _, _⟩ ⟨_, _, _⟩ _) ?_; (try simp only [push_cast, seval, *]))
    | ((first
      | refine AW_region_draw (id := 13) E0 (fun f => [].contains f) dLSY0 dASY0 mixed (by kernel_rfl) ?_
      | refine AW_region_draw (id := 19) E0 (fun f => [].contains f) dLSY1 dASY1 mixed (by kernel_rfl) ?_
      | refine AW_region_draw (id := 24) E0 (fun f => [].contains f) dLSY2 dASY2 mixed (by kernel_rfl) ?_
      | refine AW_region_draw (id := 27) E0 (fun f => [].contains f) [(0, false, []), (1, true, []), (2, false, [1]), (3, false, [])] [[], [], [0], [0, 1, 2]] mixed (by kernel_rfl) ?_
      | refine AW_region E0 ?_ | refine AW_ret ?_ | refine AW_exit ?_ | refine AW_skip ?_ | unfold retQ); try simp only [push_cast, seval, *])
    | ((first | (apply AW_cond; (case hc => (simp only [push_cast, seval]; rfl))) | (apply ER_guard; (case hb => (simp only [push_cast, seval]; rfl)))); all_goals ((intro hc; first | (exfalso; simp only [push_cast, seval, *] at hc; done) | (exact absurd hc (by decide)) | ((try first | rw [Bool.not_true] at hc | rw [Bool.not_false] at hc); first | (with_reducible replace hc := tTT hc); clear hc | (with_reducible replace hc := tFF hc); clear hc | (have hp := hc; try simp only [decide_eq_true_eq, decide_eq_false_iff_not, bA, bB, bC, bD, bE, bF, bG, bH] at hp))) <;> try simp only [push_cast, seval, *]))
    | (refine Kn.go hK ?_; clear hK K)
    | refine Kn.go (by assumption) ?_
    | (intro n hn; (try simp only [upd_none2, join_none_iff, ite_none, ne_eq] at hn); (try simp only [push_cast, seval, *]))
    | (intro hc)
    | (apply ER_blk; (case hp => rfl); (case hb => (simp only [push_cast, seval]; rfl)); (case hd => (simp only [push_cast, seval]; done)); (case h => (intro hc; simp only [push_cast, seval, *]; rfl)); simp only [push_cast, seval, *])
    | fail)
    exact ⟨_, _, Weak.refl _ _, rfl⟩
  have hck := sCheck_p s hs
  cases hok : skOk s
  · rw [hok] at hck
    obtain ⟨a, b, c, d, l⟩ := s
    simp only at h2
    simp only [Sk.av, Bool.false_eq_true, if_false] at hck ⊢
    have h2I : ¬ (200 : Int) < l.length := by omega
    clear hok
    refine ACall_of' Try.func6 rfl (Ent_of Try.func6 (by kernel_rfl) rfl) (by simp [Try.ntmps6]) ?_; simp only [Try.ntmps6, Try.results6]
    repeat' (first
    | refine AW_seq_kn fun K hK => ?_
    | refine AW_block ?_
    | (refine does_call rfl rfl ?_; simp only [push_cast, seval, *]; refine ACall.monoP (hwk _) ?_; (try simp only [push_cast, seval, *]))
    | (refine does_call rfl rfl ?_; simp only [push_cast, seval, *]; refine ACall.monoP (hck _) ?_; (try simp only [push_cast, seval, *]))
    | (refine does_call rfl rfl ?_; simp only [push_cast, seval, *]; refine ACall.monoP (Compare_p ⟨_, _, _⟩ ⟨_, _, _⟩ _) ?_; (try simp only [push_cast, seval, *]))
    | ((first
      | refine AW_region_draw (id := 13) E0 (fun f => [].contains f) dLSY0 dASY0 mixed (by kernel_rfl) ?_
      | refine AW_region_draw (id := 19) E0 (fun f => [].contains f) dLSY1 dASY1 mixed (by kernel_rfl) ?_
      | refine AW_region_draw (id := 24) E0 (fun f => [].contains f) dLSY2 dASY2 mixed (by kernel_rfl) ?_
      | refine AW_region_draw (id := 27) E0 (fun f => [].contains f) [(0, false, []), (1, true, []), (2, false, [1]), (3, false, [])] [[], [], [0], [0, 1, 2]] mixed (by kernel_rfl) ?_
      | refine AW_region E0 ?_ | refine AW_ret ?_ | refine AW_exit ?_ | refine AW_skip ?_ | unfold retQ); try simp only [push_cast, seval, *])
    | ((first | (apply AW_cond; (case hc => (simp only [push_cast, seval]; rfl))) | (apply ER_guard; (case hb => (simp only [push_cast, seval]; rfl)))); all_goals ((intro hc; first | (exfalso; simp only [push_cast, seval, *] at hc; done) | (exact absurd hc (by decide)) | ((try first | rw [Bool.not_true] at hc | rw [Bool.not_false] at hc); first | (with_reducible replace hc := tTT hc); clear hc | (with_reducible replace hc := tFF hc); clear hc | (have hp := hc; try simp only [decide_eq_true_eq, decide_eq_false_iff_not, bA, bB, bC, bD, bE, bF, bG, bH] at hp))) <;> try simp only [push_cast, seval, *]))
    | (refine Kn.go hK ?_; clear hK K)
    | refine Kn.go (by assumption) ?_
    | (intro n hn; (try simp only [upd_none2, join_none_iff, ite_none, ne_eq] at hn); (try simp only [push_cast, seval, *]))
    | (intro hc)
    | (apply ER_blk; (case hp => rfl); (case hb => (simp only [push_cast, seval]; rfl)); (case hd => (simp only [push_cast, seval]; done)); (case h => (intro hc; simp only [push_cast, seval, *]; rfl)); simp only [push_cast, seval, *])
    | fail)
    exact ⟨_, _, Weak.refl _ _, rfl⟩
  rw [hok] at hck
  have hnm := sName_p s hs
  have hinv : InvN s (nameR s).1 := by
    refine ⟨hok, ?_⟩
    cases ho : s.opn
    · exact .inr ⟨rfl, .inl (by unfold nameR; rw [if_neg (by rw [ho]; simp)])⟩
    · exact .inl ⟨rfl, by unfold nameR; rw [if_pos ⟨hok, ho⟩]⟩
  obtain ⟨v0, g0⟩ : ∃ v0 : Nm × Bool, v0 = nameR s := ⟨_, rfl⟩
  rw [← g0] at hnm hinv
  clear g0
  obtain ⟨v0, vb⟩ := v0
  simp only at hinv hnm
  obtain ⟨sv, gsv⟩ : ∃ sv, sv = Sk.av s := ⟨_, rfl⟩
  replace hinv := Lib.hid hinv
  obtain ⟨a, b, c, d, l⟩ := s
  obtain ⟨v1, v2, v3⟩ := v0
  simp only at h2
  simp only [Sk.av, Nm.av, if_true] at hck hnm ⊢
  have h2I : ¬ (200 : Int) < l.length := by omega
  clear hok gsv
  refine ACall_of' Try.func6 rfl (Ent_of Try.func6 (by kernel_rfl) rfl) (by simp [Try.ntmps6]) ?_; simp only [Try.ntmps6, Try.results6]
  repeat' (first
    | (refine AW_atB (id := 6) ?_)
    | refine AW_seq_kn fun K hK => ?_
    | refine AW_block ?_
    | (refine does_call rfl rfl ?_; simp only [push_cast, seval, *]; refine ACall.monoP (hwk _) ?_; (try simp only [push_cast, seval, *]))
    | (refine does_call rfl rfl ?_; simp only [push_cast, seval, *]; refine ACall.monoP (hck _) ?_; (try simp only [push_cast, seval, *]))
    | (refine does_call rfl rfl ?_; simp only [push_cast, seval, *]; refine ACall.monoP (hnm _) ?_; (try simp only [push_cast, seval, *]))
    | (refine does_call rfl rfl ?_; simp only [push_cast, seval, *]; refine ACall.monoP (Compare_p ⟨_, _, _⟩ ⟨_, _, _⟩ _) ?_; (try simp only [push_cast, seval, *]))
    | ((first
      | refine AW_region_draw (id := 13) E0 (fun f => [].contains f) dLSY0 dASY0 mixed (by kernel_rfl) ?_
      | refine AW_region_draw (id := 19) E0 (fun f => [].contains f) dLSY1 dASY1 mixed (by kernel_rfl) ?_
      | refine AW_region_draw (id := 24) E0 (fun f => [].contains f) dLSY2 dASY2 mixed (by kernel_rfl) ?_
      | refine AW_region_draw (id := 27) E0 (fun f => [].contains f) [(0, false, []), (1, true, []), (2, false, [1]), (3, false, [])] [[], [], [0], [0, 1, 2]] mixed (by kernel_rfl) ?_
      | refine AW_region E0 ?_ | refine AW_ret ?_ | refine AW_exit ?_ | refine AW_skip ?_ | unfold retQ); try simp only [push_cast, seval, *])
    | ((first | (apply AW_cond; (case hc => (simp only [push_cast, seval]; rfl))) | (apply ER_guard; (case hb => (simp only [push_cast, seval]; rfl)))); all_goals ((intro hc; first | (exfalso; simp only [push_cast, seval, *] at hc; done) | (exact absurd hc (by decide)) | ((try first | rw [Bool.not_true] at hc | rw [Bool.not_false] at hc); first | (with_reducible replace hc := tTT hc); clear hc | (with_reducible replace hc := tFF hc); clear hc | (have hp := hc; try simp only [decide_eq_true_eq, decide_eq_false_iff_not, bA, bB, bC, bD, bE, bF, bG, bH] at hp))) <;> try simp only [push_cast, seval, *]))
    | (refine Kn.go hK ?_; clear hK K)
    | refine Kn.go (by assumption) ?_
    | (intro n hn; (try simp only [upd_none2, join_none_iff, ite_none, ne_eq] at hn); (try simp only [push_cast, seval, *]))
    | (intro hc)
    | (apply ER_blk; (case hp => rfl); (case hb => (simp only [push_cast, seval]; rfl)); (case hd => (simp only [push_cast, seval]; done)); (case h => (intro hc; simp only [push_cast, seval, *]; rfl)); simp only [push_cast, seval, *])
    | fail)
  refine ⟨?_⟩
  rename_i n2 g2
  generalize n = n5 at *
  have h52 := hn.1
  have g5 : H n5 = none := hn.2
  clear hwk hck hnm hn
  refine AW_seqX (σ := Unit) (fun _ => True) (fun _ => []) (fun _ => H) ?_ ?_
  · repeat' (first
    | refine AW_seq_kn fun K hK => ?_
    | refine AW_block ?_
    | (refine does_call rfl rfl ?_; simp only [push_cast, seval, *]; refine ACall.monoP (Compare_p ⟨_, _, _⟩ ⟨_, _, _⟩ _) ?_; (try simp only [push_cast, seval, *]))
    | ((first
      | refine AW_region_draw (id := 13) E0 (fun f => [].contains f) dLSY0 dASY0 mixed (by kernel_rfl) ?_
      | refine AW_region_draw (id := 19) E0 (fun f => [].contains f) dLSY1 dASY1 mixed (by kernel_rfl) ?_
      | refine AW_region_draw (id := 24) E0 (fun f => [].contains f) dLSY2 dASY2 mixed (by kernel_rfl) ?_
      | refine AW_region_draw (id := 27) E0 (fun f => [].contains f) [(0, false, []), (1, true, []), (2, false, [1]), (3, false, [])] [[], [], [0], [0, 1, 2]] mixed (by kernel_rfl) ?_
      | refine AW_region E0 ?_ | refine AW_ret ?_ | refine AW_exit ?_ | refine AW_skip ?_ | unfold retQ); try simp only [push_cast, seval, *])
    | ((first | (apply AW_cond; (case hc => (simp only [push_cast, seval]; rfl))) | (apply ER_guard; (case hb => (simp only [push_cast, seval]; rfl)))); all_goals ((intro hc; first | (exfalso; simp only [push_cast, seval, *] at hc; done) | (exact absurd hc (by decide)) | ((try first | rw [Bool.not_true] at hc | rw [Bool.not_false] at hc); first | (with_reducible replace hc := tTT hc); clear hc | (with_reducible replace hc := tFF hc); clear hc | (have hp := hc; try simp only [decide_eq_true_eq, decide_eq_false_iff_not, bA, bB, bC, bD, bE, bF, bG, bH] at hp))) <;> try simp only [push_cast, seval, *]))
    | (refine Kn.go hK ?_; clear hK K)
    | refine Kn.go (by assumption) ?_
    | (intro n hn; (try simp only [upd_none2, join_none_iff, ite_none, ne_eq] at hn); (try simp only [push_cast, seval, *]))
    | (intro hc)
    | (apply ER_blk; (case hp => rfl); (case hb => (simp only [push_cast, seval]; rfl)); (case hd => (simp only [push_cast, seval]; done)); (case h => (intro hc; simp only [push_cast, seval, *]; rfl)); simp only [push_cast, seval, *])
    | fail)
    refine AW_loopX (σ := Sk × Nm) rs.length (fun k s => InvN s.1 s.2) (fun k s => [(2, .p n2 5 0 0), (5, .p n5 3 0 0), (35, .l 3 (rs.map Rec.av)), (36, ci rs.length), (37, ci k)]) (fun _ s => upd (upd H n2 (.r 34 5 1 [Sk.av s.1])) n5 (.r 26 3 1 [Nm.av s.2])) (⟨a, b, c, d, l⟩, ⟨v1, v2, v3⟩) (unhid hinv) ?_ ?_ ?_ ?_
    · (first | trivial | (simp only [push_cast, seval, *]; done))
    · exact Heap.le_refl _
    · clear hinv h2 h2I hs
      clear a b c d l v1 v2 v3 vb
      rintro k ⟨s, v⟩ hk hinv
      simp only at hinv
      have hr := List.getElem?_eq_getElem (l := rs) hk; generalize rs[k] = r at hr; have hrm := List.mem_of_getElem? hr; have hkl : (k : Int) < rs.length := (by omega); have hkw : IntKind.i64.wrap ((k : Int) + 1) = (k : Int) + 1 := wrap_i64 (by omega) (by omega)
      have hsl : s.rdy.length ≤ 24 := ((skOk_iff s).1 hinv.1).1.2.2.2.2
      have hw := sWrite_p s (by unfold maxLen; omega) r
      by_cases h30 : (k : Int) = 30
      · obtain ⟨a, b, c, d, l⟩ := s
        obtain ⟨v1, v2, v3⟩ := v
        obtain ⟨r1, r2, r3⟩ := r
        simp only [Sk.av, Nm.av, Rec.av] at hw ⊢
        have e30 : k = 30 := by omega
        have hx30 := hr
        rw [e30] at hx30
        clear e30
        have hl30 : (30 : Int) < rs.length := by omega
        clear hinv hw
        repeat' (first
    | refine AW_seq_kn fun K hK => ?_
    | refine AW_block ?_
    | (refine does_call rfl rfl ?_; simp only [push_cast, seval, *]; refine ACall.monoP (Compare_p ⟨_, _, _⟩ ⟨_, _, _⟩ _) ?_; (try simp only [push_cast, seval, *]))
    | ((first
      | refine AW_region_draw (id := 13) E0 (fun f => [].contains f) dLSY0 dASY0 mixed (by kernel_rfl) ?_
      | refine AW_region_draw (id := 19) E0 (fun f => [].contains f) dLSY1 dASY1 mixed (by kernel_rfl) ?_
      | refine AW_region_draw (id := 24) E0 (fun f => [].contains f) dLSY2 dASY2 mixed (by kernel_rfl) ?_
      | refine AW_region_draw (id := 27) E0 (fun f => [].contains f) [(0, false, []), (1, true, []), (2, false, [1]), (3, false, [])] [[], [], [0], [0, 1, 2]] mixed (by kernel_rfl) ?_
      | refine AW_region E0 ?_ | refine AW_ret ?_ | refine AW_exit ?_ | refine AW_skip ?_ | unfold retQ); try simp only [push_cast, seval, *])
    | ((first | (apply AW_cond; (case hc => (simp only [push_cast, seval]; rfl))) | (apply ER_guard; (case hb => (simp only [push_cast, seval]; rfl)))); all_goals ((intro hc; first | (exfalso; simp only [push_cast, seval, *] at hc; done) | (exact absurd hc (by decide)) | ((try first | rw [Bool.not_true] at hc | rw [Bool.not_false] at hc); first | (with_reducible replace hc := tTT hc); clear hc | (with_reducible replace hc := tFF hc); clear hc | (have hp := hc; try simp only [decide_eq_true_eq, decide_eq_false_iff_not, bA, bB, bC, bD, bE, bF, bG, bH] at hp))) <;> try simp only [push_cast, seval, *]))
    | (refine Kn.go hK ?_; clear hK K)
    | refine Kn.go (by assumption) ?_
    | (intro n hn; (try simp only [upd_none2, join_none_iff, ite_none, ne_eq] at hn); (try simp only [push_cast, seval, *]))
    | (intro hc)
    | (apply ER_blk; (case hp => rfl); (case hb => (simp only [push_cast, seval]; rfl)); (case hd => (simp only [push_cast, seval]; done)); (case h => (intro hc; simp only [push_cast, seval, *]; rfl)); simp only [push_cast, seval, *])
    | fail)
        first | exact ⟨(), trivial, trivial, trivial⟩ | exact ⟨(), trivial, by (first | trivial | (simp only [push_cast, seval, *]; done)), by (repeat' (first | exact Heap.le_refl _ | refine hle_upd2 ?_ _ _ | (refine Heap.le_new ?_ ?_; rotate_left 1; focus (first | assumption | (simp only [upd_none2, upd_get, ne_eq, push_cast, seval, *]; done) | (simp [upd_get, *]; done)))))⟩
      by_cases he : (writeSk s r).2.2 = 0
      rotate_left
      · generalize writeSk s r = W at *
        obtain ⟨⟨W1, W2, W3, W4, W5⟩, WA, We⟩ := W
        replace hinv := Lib.hid hinv
        obtain ⟨a, b, c, d, l⟩ := s
        obtain ⟨v1, v2, v3⟩ := v
        obtain ⟨r1, r2, r3⟩ := r
        simp only at he
        simp only [Sk.av, Nm.av, Rec.av] at hw ⊢
        repeat' (first
    | refine AW_seq_kn fun K hK => ?_
    | refine AW_block ?_
    | (refine does_call rfl rfl ?_; simp only [push_cast, seval, *]; refine ACall.monoP (hw _) ?_; (try simp only [push_cast, seval, *]))
    | (refine does_call rfl rfl ?_; simp only [push_cast, seval, *]; refine ACall.monoP (Compare_p ⟨_, _, _⟩ ⟨_, _, _⟩ _) ?_; (try simp only [push_cast, seval, *]))
    | ((first
      | refine AW_region_draw (id := 13) E0 (fun f => [].contains f) dLSY0 dASY0 mixed (by kernel_rfl) ?_
      | refine AW_region_draw (id := 19) E0 (fun f => [].contains f) dLSY1 dASY1 mixed (by kernel_rfl) ?_
      | refine AW_region_draw (id := 24) E0 (fun f => [].contains f) dLSY2 dASY2 mixed (by kernel_rfl) ?_
      | refine AW_region_draw (id := 27) E0 (fun f => [].contains f) [(0, false, []), (1, true, []), (2, false, [1]), (3, false, [])] [[], [], [0], [0, 1, 2]] mixed (by kernel_rfl) ?_
      | refine AW_region E0 ?_ | refine AW_ret ?_ | refine AW_exit ?_ | refine AW_skip ?_ | unfold retQ); try simp only [push_cast, seval, *])
    | ((first | (apply AW_cond; (case hc => (simp only [push_cast, seval]; rfl))) | (apply ER_guard; (case hb => (simp only [push_cast, seval]; rfl)))); all_goals ((intro hc; first | (exfalso; simp only [push_cast, seval, *] at hc; done) | (exact absurd hc (by decide)) | ((try first | rw [Bool.not_true] at hc | rw [Bool.not_false] at hc); first | (with_reducible replace hc := tTT hc); clear hc | (with_reducible replace hc := tFF hc); clear hc | (have hp := hc; try simp only [decide_eq_true_eq, decide_eq_false_iff_not, bA, bB, bC, bD, bE, bF, bG, bH] at hp))) <;> try simp only [push_cast, seval, *]))
    | (refine Kn.go hK ?_; clear hK K)
    | refine Kn.go (by assumption) ?_
    | (intro n hn; (try simp only [upd_none2, join_none_iff, ite_none, ne_eq] at hn); (try simp only [push_cast, seval, *]))
    | (intro hc)
    | (apply ER_blk; (case hp => rfl); (case hb => (simp only [push_cast, seval]; rfl)); (case hd => (simp only [push_cast, seval]; done)); (case h => (intro hc; simp only [push_cast, seval, *]; rfl)); simp only [push_cast, seval, *])
    | fail)
        exact ⟨(⟨a, b, c, d, l⟩, ⟨v1, v2, v3⟩), unhid hinv, by (first | trivial | (simp only [push_cast, seval, *]; done)), by
          (repeat' (first | exact Heap.le_refl _ | refine hle_upd2 ?_ _ _ | (refine Heap.le_new ?_ ?_; rotate_left 1; focus (first | assumption | (simp only [upd_none2, upd_get, ne_eq, push_cast, seval, *]; done) | (simp [upd_get, *]; done)))))
          all_goals first | rfl | exact ⟨rfl, rfl⟩⟩
      obtain ⟨c', A, x, hW, hxn, hxo, hcs⟩ := write_good hinv.1 he
      clear he
      rw [hW] at hw
      have hna := sName_p ⟨s.sub, s.att, c', true, s.rdy⟩ (by simp only; unfold maxLen; omega)
      rw [name_open hxo] at hna
      have hba := sBarrier_p ⟨s.sub, s.att, c', true, s.rdy⟩ (by simp only; unfold maxLen; omega)
      obtain ⟨⟨hb1, hb2, hb3, hb4, hb5⟩, -⟩ := (skOk_iff _).1 hxo
      simp only at hb1 hb2 hb3 hb4 hb5
      have hatt : ¬ s.att = 0 := by omega
      have hcmp : s.opn = false → c' = s.ser + 1 → cmpN (nameS s s.ser) ⟨s.sub, s.att, c'⟩ < 0 := fun _ e => by
        rw [cmpN_lt, ltN, decide_eq_true_eq]
        exact .inr ⟨rfl, .inr ⟨rfl, by show s.ser < c'; omega⟩⟩
      have hcm := Compare_p (nameS s s.ser) ⟨s.sub, s.att, c'⟩
      generalize cmpN (nameS s s.ser) ⟨s.sub, s.att, c'⟩ = C at *
      have hcase : (s.opn = true ∧ v = ⟨s.sub, s.att, c'⟩ ∧ A = [x]) ∨ (s.opn = false ∧ v = zNm ∧ ∃ y, A = [y, x]) ∨ (s.opn = false ∧ v = ⟨s.sub, s.att, s.ser⟩ ∧ ¬ c' = s.ser ∧ ¬ s.ser = c' ∧ ¬ 0 ≤ C ∧ ∃ y, A = [y, x]) := by
        rcases hcs with ⟨o, e, ha⟩ | ⟨o, e, ha⟩
        · rcases hinv.2 with ⟨-, q⟩ | ⟨o2, -⟩
          · exact .inl ⟨o, by rw [q, e]; rfl, ha⟩
          · rw [o] at o2; cases o2
        · rcases hinv.2 with ⟨o2, -⟩ | ⟨-, q | q⟩
          · rw [o] at o2; cases o2
          · exact .inr (.inl ⟨o, q, ha⟩)
          · exact .inr (.inr ⟨o, q, by omega, by omega, by have := hcmp o e; omega, ha⟩)
      clear hcs hcmp hinv hW hb1 hb2 hb3 hb4
      have hfull := fun h : s.rdy.length = 24 => bar_full hxo h
      have hgood := fun h : ¬ s.rdy.length = 24 => bar_good hxo h
      obtain ⟨B, hB⟩ : ∃ B, B = barSk ⟨s.sub, s.att, c', true, s.rdy⟩ := ⟨_, rfl⟩
      rw [← hB] at hba hfull hgood
      clear hB hxo
      obtain ⟨a, b, c, d, l⟩ := s
      obtain ⟨r1, r2, r3⟩ := r
      obtain ⟨xk, xn, xr⟩ := x
      simp only at hxn hcase hatt hfull hgood hsl
      subst hxn
      simp only [Sk.av, Nm.av, Rec.av, nameS] at hw hna hba hcm
      have hz1 : (decide (a = 0) && (decide (b = 0) && decide (c' = 0))) = false := by rw [decide_eq_false hatt]; simp
      have hz2 : (decide (a = 0) && (decide (b = 0) && decide (c = 0))) = false := by rw [decide_eq_false hatt]; simp
      clear hatt
      have w0 : IntKind.i64.wrap 0 = 0 := by decide
      have w1 : IntKind.i64.wrap 1 = 1 := by decide
      by_cases h24 : l.length = 24
      · have hB := hfull h24
        subst hB
        have h24I : (l.length : Int) = 24 := by omega
        clear hgood hfull h24 hsl
        simp only [zeroSk, List.map_nil] at hba
        rcases hcase with ⟨rfl, rfl, rfl⟩ | ⟨rfl, rfl, y, rfl⟩ | ⟨rfl, rfl, k1, k2, k3, y, rfl⟩
        all_goals
          simp only [List.map_cons, List.map_nil, Act.av] at hw
          simp only [zNm]
          repeat' (first
    | refine AW_seq_kn fun K hK => ?_
    | refine AW_block ?_
    | (refine does_call rfl rfl ?_; simp only [push_cast, seval, *]; refine ACall.monoP (hw _) ?_; (try simp only [push_cast, seval, *]))
    | (refine does_call rfl rfl ?_; simp only [push_cast, seval, *]; refine ACall.monoP (hna _) ?_; (try simp only [push_cast, seval, *]))
    | (refine does_call rfl rfl ?_; simp only [push_cast, seval, *]; refine ACall.monoP (hcm _) ?_; (try simp only [push_cast, seval, *]))
    | (refine Does.frozen (ty := 26) (does_appL (news := l.map Nm.av) rfl rfl rfl (OwnL.fresh (by simp only [upd_none2]; assumption)) tE22 tS26 tB26 tZ26 rfl (by decide) (by simp only [List.length_map, List.length_nil, maxLen]; omega) (by simp only [List.length_map, List.length_nil]; omega) (fun _ _ h' => h')) ?_; (try simp only [List.nil_append]); (try simp only [push_cast, seval, *]))
    | (refine does_call rfl rfl ?_; simp only [push_cast, seval, *]; refine ACall.monoP (hba _) ?_; (try simp only [push_cast, seval, *]))
    | (refine does_call rfl rfl ?_; simp only [push_cast, seval, *]; refine ACall.monoP (Compare_p ⟨_, _, _⟩ ⟨_, _, _⟩ _) ?_; (try simp only [push_cast, seval, *]))
    | ((first
      | refine AW_region_draw (id := 13) E0 (fun f => [].contains f) dLSY0 dASY0 mixed (by kernel_rfl) ?_
      | refine AW_region_draw (id := 19) E0 (fun f => [].contains f) dLSY1 dASY1 mixed (by kernel_rfl) ?_
      | refine AW_region_draw (id := 24) E0 (fun f => [].contains f) dLSY2 dASY2 mixed (by kernel_rfl) ?_
      | refine AW_region_draw (id := 27) E0 (fun f => [].contains f) [(0, false, []), (1, true, []), (2, false, [1]), (3, false, [])] [[], [], [0], [0, 1, 2]] mixed (by kernel_rfl) ?_
      | refine AW_region E0 ?_ | refine AW_ret ?_ | refine AW_exit ?_ | refine AW_skip ?_ | unfold retQ); try simp only [push_cast, seval, *])
    | ((first | (apply AW_cond; (case hc => (simp only [push_cast, seval]; rfl))) | (apply ER_guard; (case hb => (simp only [push_cast, seval]; rfl)))); all_goals ((intro hc; first | (exfalso; simp only [push_cast, seval, *] at hc; done) | (exact absurd hc (by decide)) | ((try first | rw [Bool.not_true] at hc | rw [Bool.not_false] at hc); first | (with_reducible replace hc := tTT hc); clear hc | (with_reducible replace hc := tFF hc); clear hc | (have hp := hc; try simp only [decide_eq_true_eq, decide_eq_false_iff_not, bA, bB, bC, bD, bE, bF, bG, bH] at hp))) <;> try simp only [push_cast, seval, *]))
    | (refine Kn.go hK ?_; clear hK K)
    | refine Kn.go (by assumption) ?_
    | (intro n hn; (try simp only [upd_none2, join_none_iff, ite_none, ne_eq] at hn); (try simp only [push_cast, seval, *]))
    | (intro hc)
    | (apply ER_blk; (case hp => rfl); (case hb => (simp only [push_cast, seval]; rfl)); (case hd => (simp only [push_cast, seval]; done)); (case h => (intro hc; simp only [push_cast, seval, *]; rfl)); simp only [push_cast, seval, *])
    | fail)
          exact ⟨_, _, Weak.refl _ _, rfl⟩
      obtain ⟨hB, hyo⟩ := hgood h24
      subst hB
      clear hfull hgood
      obtain ⟨L, hL⟩ : ∃ L, L = l ++ [(⟨a, b, c'⟩ : Nm)] := ⟨_, rfl⟩
      have hL1 : L.length = l.length + 1 := by rw [hL]; simp
      have hLx : L[l.length]? = some ⟨a, b, c'⟩ := by rw [hL]; simp
      have hLj : ∀ (j : Nat) (y : Nm), l[j]? = some y → L[j]? = some y := fun j y h => by rw [hL, List.getElem?_append_left (List.getElem?_eq_some_iff.1 h).1]; exact h
      rw [← hL] at hba hyo
      clear hL
      have hLI : (L.length : Int) = l.length + 1 := by omega
      have hLw : IntKind.i64.wrap ((l.length : Int) + 1) = (l.length : Int) + 1 := wrap_i64 (by omega) (by omega)
      have hLl : (l.length : Int) < (l.length : Int) + 1 := by omega
      replace hLj := Lib.hid hLj
      replace hL1 := Lib.hid hL1
      have hnew : InvN ⟨a, b, c', false, L⟩ ⟨a, b, c'⟩ := ⟨hyo, .inr ⟨rfl, .inr rfl⟩⟩
      replace hnew := Lib.hid hnew
      clear hyo
      have h24I : ¬ (l.length : Int) = 24 := by omega
      rcases hcase with ⟨rfl, rfl, rfl⟩ | ⟨rfl, rfl, y, rfl⟩ | ⟨rfl, rfl, k1, k2, k3, y, rfl⟩
      all_goals
        simp only [List.map_cons, List.map_nil, Act.av] at hw
        simp only [zNm]
        repeat' (first
    | refine AW_seq_kn fun K hK => ?_
    | refine AW_block ?_
    | (refine does_call rfl rfl ?_; simp only [push_cast, seval, *]; refine ACall.monoP (hw _) ?_; (try simp only [push_cast, seval, *]))
    | (refine does_call rfl rfl ?_; simp only [push_cast, seval, *]; refine ACall.monoP (hna _) ?_; (try simp only [push_cast, seval, *]))
    | (refine does_call rfl rfl ?_; simp only [push_cast, seval, *]; refine ACall.monoP (hcm _) ?_; (try simp only [push_cast, seval, *]))
    | (refine Does.frozen (ty := 26) (does_appL (news := l.map Nm.av) rfl rfl rfl (OwnL.fresh (by simp only [upd_none2]; assumption)) tE22 tS26 tB26 tZ26 rfl (by decide) (by simp only [List.length_map, List.length_nil, maxLen]; omega) (by simp only [List.length_map, List.length_nil]; omega) (fun _ _ h' => h')) ?_; (try simp only [List.nil_append]); (try simp only [push_cast, seval, *]))
    | (refine does_call rfl rfl ?_; simp only [push_cast, seval, *]; refine ACall.monoP (hba _) ?_; (try simp only [push_cast, seval, *]))
    | (refine does_call rfl rfl ?_; simp only [push_cast, seval, *]; refine ACall.monoP (Compare_p ⟨_, _, _⟩ ⟨_, _, _⟩ _) ?_; (try simp only [push_cast, seval, *]))
    | ((first
      | refine AW_region_draw (id := 13) E0 (fun f => [].contains f) dLSY0 dASY0 mixed (by kernel_rfl) ?_
      | refine AW_region_draw (id := 19) E0 (fun f => [].contains f) dLSY1 dASY1 mixed (by kernel_rfl) ?_
      | refine AW_region_draw (id := 24) E0 (fun f => [].contains f) dLSY2 dASY2 mixed (by kernel_rfl) ?_
      | refine AW_region_draw (id := 27) E0 (fun f => [].contains f) [(0, false, []), (1, true, []), (2, false, [1]), (3, false, [])] [[], [], [0], [0, 1, 2]] mixed (by kernel_rfl) ?_
      | refine AW_region E0 ?_ | refine AW_ret ?_ | refine AW_exit ?_ | refine AW_skip ?_ | unfold retQ); try simp only [push_cast, seval, *])
    | ((first | (apply AW_cond; (case hc => (simp only [push_cast, seval]; rfl))) | (apply ER_guard; (case hb => (simp only [push_cast, seval]; rfl)))); all_goals ((intro hc; first | (exfalso; simp only [push_cast, seval, *] at hc; done) | (exact absurd hc (by decide)) | ((try first | rw [Bool.not_true] at hc | rw [Bool.not_false] at hc); first | (with_reducible replace hc := tTT hc); clear hc | (with_reducible replace hc := tFF hc); clear hc | (have hp := hc; try simp only [decide_eq_true_eq, decide_eq_false_iff_not, bA, bB, bC, bD, bE, bF, bG, bH] at hp))) <;> try simp only [push_cast, seval, *]))
    | (refine Kn.go hK ?_; clear hK K)
    | refine Kn.go (by assumption) ?_
    | (intro n hn; (try simp only [upd_none2, join_none_iff, ite_none, ne_eq] at hn); (try simp only [push_cast, seval, *]))
    | (intro hc)
    | (apply ER_blk; (case hp => rfl); (case hb => (simp only [push_cast, seval]; rfl)); (case hd => (simp only [push_cast, seval]; done)); (case h => (intro hc; simp only [push_cast, seval, *]; rfl)); simp only [push_cast, seval, *])
    | fail)
        rename_i n8 g8 n9 g9 n12 g12 nT gT
        generalize n = n15 at *
        clear hw hna hcm hba
        refine AW_loopH l.length (fun j => [(2, .p n2 5 0 0), (5, .p n5 3 0 0), (12, .p n12 3 0 0), (14, .l 3 (l.map Nm.av)), (15, .p n15 5 0 0), (17, .l 3 (L.map Nm.av)), (35, .l 3 (rs.map Rec.av)), (36, ci rs.length), (37, ci k), (136, ci l.length), (137, ci j)]) ?_ ?_ ?_
        · (first | trivial | (simp only [push_cast, seval, *]; done))
        · intro j hj
          have hjl : (j : Int) < l.length := by omega
          have hjl2 : (j : Int) < (l.length : Int) + 1 := by omega
          have hjw : IntKind.i64.wrap ((j : Int) + 1) = (j : Int) + 1 := wrap_i64 (by omega) (by omega)
          obtain ⟨z, hz⟩ : ∃ z, l[j]? = some z := ⟨_, List.getElem?_eq_getElem hj⟩
          have hz2 := unhid hLj j z hz
          obtain ⟨z1, z2, z3⟩ := z
          repeat' (first
    | refine AW_seq_kn fun K hK => ?_
    | refine AW_block ?_
    | (refine does_call rfl rfl ?_; simp only [push_cast, seval, *]; refine ACall.monoP (Compare_p ⟨_, _, _⟩ ⟨_, _, _⟩ _) ?_; (try simp only [push_cast, seval, *]))
    | ((first
      | refine AW_region_draw (id := 13) E0 (fun f => [].contains f) dLSY0 dASY0 mixed (by kernel_rfl) ?_
      | refine AW_region_draw (id := 19) E0 (fun f => [].contains f) dLSY1 dASY1 mixed (by kernel_rfl) ?_
      | refine AW_region_draw (id := 24) E0 (fun f => [].contains f) dLSY2 dASY2 mixed (by kernel_rfl) ?_
      | refine AW_region_draw (id := 27) E0 (fun f => [].contains f) [(0, false, []), (1, true, []), (2, false, [1]), (3, false, [])] [[], [], [0], [0, 1, 2]] mixed (by kernel_rfl) ?_
      | refine AW_region E0 ?_ | refine AW_ret ?_ | refine AW_exit ?_ | refine AW_skip ?_ | unfold retQ); try simp only [push_cast, seval, *])
    | ((first | (apply AW_cond; (case hc => (simp only [push_cast, seval]; rfl))) | (apply ER_guard; (case hb => (simp only [push_cast, seval]; rfl)))); all_goals ((intro hc; first | (exfalso; simp only [push_cast, seval, *] at hc; done) | (exact absurd hc (by decide)) | ((try first | rw [Bool.not_true] at hc | rw [Bool.not_false] at hc); first | (with_reducible replace hc := tTT hc); clear hc | (with_reducible replace hc := tFF hc); clear hc | (have hp := hc; try simp only [decide_eq_true_eq, decide_eq_false_iff_not, bA, bB, bC, bD, bE, bF, bG, bH] at hp))) <;> try simp only [push_cast, seval, *]))
    | (refine Kn.go hK ?_; clear hK K)
    | refine Kn.go (by assumption) ?_
    | (intro n hn; (try simp only [upd_none2, join_none_iff, ite_none, ne_eq] at hn); (try simp only [push_cast, seval, *]))
    | (intro hc)
    | (apply ER_blk; (case hp => rfl); (case hb => (simp only [push_cast, seval]; rfl)); (case hd => (simp only [push_cast, seval]; done)); (case h => (intro hc; simp only [push_cast, seval, *]; rfl)); simp only [push_cast, seval, *])
    | fail)
          first | exact ⟨trivial, trivial, trivial⟩ | exact ⟨trivial, by (first | trivial | (simp only [push_cast, seval, *]; done)), by (repeat' (first | exact Heap.le_refl _ | refine hle_upd2 ?_ _ _ | (refine Heap.le_new ?_ ?_; rotate_left 1; focus (first | assumption | (simp only [upd_none2, upd_get, ne_eq, push_cast, seval, *]; done) | (simp [upd_get, *]; done)))))⟩
        · skip
          repeat' (first
    | refine AW_seq_kn fun K hK => ?_
    | refine AW_block ?_
    | (refine does_call rfl rfl ?_; simp only [push_cast, seval, *]; refine ACall.monoP (Compare_p ⟨_, _, _⟩ ⟨_, _, _⟩ _) ?_; (try simp only [push_cast, seval, *]))
    | ((first
      | refine AW_region_draw (id := 13) E0 (fun f => [].contains f) dLSY0 dASY0 mixed (by kernel_rfl) ?_
      | refine AW_region_draw (id := 19) E0 (fun f => [].contains f) dLSY1 dASY1 mixed (by kernel_rfl) ?_
      | refine AW_region_draw (id := 24) E0 (fun f => [].contains f) dLSY2 dASY2 mixed (by kernel_rfl) ?_
      | refine AW_region_draw (id := 27) E0 (fun f => [].contains f) [(0, false, []), (1, true, []), (2, false, [1]), (3, false, [])] [[], [], [0], [0, 1, 2]] mixed (by kernel_rfl) ?_
      | refine AW_region E0 ?_ | refine AW_ret ?_ | refine AW_exit ?_ | refine AW_skip ?_ | unfold retQ); try simp only [push_cast, seval, *])
    | ((first | (apply AW_cond; (case hc => (simp only [push_cast, seval]; rfl))) | (apply ER_guard; (case hb => (simp only [push_cast, seval]; rfl)))); all_goals ((intro hc; first | (exfalso; simp only [push_cast, seval, *] at hc; done) | (exact absurd hc (by decide)) | ((try first | rw [Bool.not_true] at hc | rw [Bool.not_false] at hc); first | (with_reducible replace hc := tTT hc); clear hc | (with_reducible replace hc := tFF hc); clear hc | (have hp := hc; try simp only [decide_eq_true_eq, decide_eq_false_iff_not, bA, bB, bC, bD, bE, bF, bG, bH] at hp))) <;> try simp only [push_cast, seval, *]))
    | (refine Kn.go hK ?_; clear hK K)
    | refine Kn.go (by assumption) ?_
    | (intro n hn; (try simp only [upd_none2, join_none_iff, ite_none, ne_eq] at hn); (try simp only [push_cast, seval, *]))
    | (intro hc)
    | (apply ER_blk; (case hp => rfl); (case hb => (simp only [push_cast, seval]; rfl)); (case hd => (simp only [push_cast, seval]; done)); (case h => (intro hc; simp only [push_cast, seval, *]; rfl)); simp only [push_cast, seval, *])
    | fail)
          first
          | exact ⟨(⟨a, b, c', false, L⟩, ⟨a, b, c'⟩), unhid hnew, trivial, trivial⟩
          | exact ⟨(⟨a, b, c', false, L⟩, ⟨a, b, c'⟩), unhid hnew, by (first | trivial | (simp only [push_cast, seval, *]; done)), by
              (repeat' (first | exact Heap.le_refl _ | refine hle_upd2 ?_ _ _ | (refine Heap.le_new ?_ ?_; rotate_left 1; focus (first | assumption | (simp only [upd_none2, upd_get, ne_eq, push_cast, seval, *]; done) | (simp [upd_get, *]; done)))))
              all_goals first | rfl | exact ⟨rfl, rfl⟩⟩
          | exact ⟨(⟨a, b, c, false, L⟩, ⟨a, b, c⟩), unhid hnew, by (first | trivial | (simp only [push_cast, seval, *]; done)), by
              (repeat' (first | exact Heap.le_refl _ | refine hle_upd2 ?_ _ _ | (refine Heap.le_new ?_ ?_; rotate_left 1; focus (first | assumption | (simp only [upd_none2, upd_get, ne_eq, push_cast, seval, *]; done) | (simp [upd_get, *]; done)))))
              all_goals first | rfl | exact ⟨rfl, rfl⟩⟩
    · rintro s -
      clear hinv
      obtain ⟨⟨a, b, c, d, l⟩, ⟨v1, v2, v3⟩⟩ := s
      repeat' (first
    | refine AW_seq_kn fun K hK => ?_
    | refine AW_block ?_
    | (refine does_call rfl rfl ?_; simp only [push_cast, seval, *]; refine ACall.monoP (Compare_p ⟨_, _, _⟩ ⟨_, _, _⟩ _) ?_; (try simp only [push_cast, seval, *]))
    | ((first
      | refine AW_region_draw (id := 13) E0 (fun f => [].contains f) dLSY0 dASY0 mixed (by kernel_rfl) ?_
      | refine AW_region_draw (id := 19) E0 (fun f => [].contains f) dLSY1 dASY1 mixed (by kernel_rfl) ?_
      | refine AW_region_draw (id := 24) E0 (fun f => [].contains f) dLSY2 dASY2 mixed (by kernel_rfl) ?_
      | refine AW_region_draw (id := 27) E0 (fun f => [].contains f) [(0, false, []), (1, true, []), (2, false, [1]), (3, false, [])] [[], [], [0], [0, 1, 2]] mixed (by kernel_rfl) ?_
      | refine AW_region E0 ?_ | refine AW_ret ?_ | refine AW_exit ?_ | refine AW_skip ?_ | unfold retQ); try simp only [push_cast, seval, *])
    | ((first | (apply AW_cond; (case hc => (simp only [push_cast, seval]; rfl))) | (apply ER_guard; (case hb => (simp only [push_cast, seval]; rfl)))); all_goals ((intro hc; first | (exfalso; simp only [push_cast, seval, *] at hc; done) | (exact absurd hc (by decide)) | ((try first | rw [Bool.not_true] at hc | rw [Bool.not_false] at hc); first | (with_reducible replace hc := tTT hc); clear hc | (with_reducible replace hc := tFF hc); clear hc | (have hp := hc; try simp only [decide_eq_true_eq, decide_eq_false_iff_not, bA, bB, bC, bD, bE, bF, bG, bH] at hp))) <;> try simp only [push_cast, seval, *]))
    | (refine Kn.go hK ?_; clear hK K)
    | refine Kn.go (by assumption) ?_
    | (intro n hn; (try simp only [upd_none2, join_none_iff, ite_none, ne_eq] at hn); (try simp only [push_cast, seval, *]))
    | (intro hc)
    | (apply ER_blk; (case hp => rfl); (case hb => (simp only [push_cast, seval]; rfl)); (case hd => (simp only [push_cast, seval]; done)); (case h => (intro hc; simp only [push_cast, seval, *]; rfl)); simp only [push_cast, seval, *])
    | fail)
      first | exact ⟨(), trivial, trivial, trivial⟩ | exact ⟨(), trivial, by (first | trivial | (simp only [push_cast, seval, *]; done)), by (repeat' (first | exact Heap.le_refl _ | refine hle_upd2 ?_ _ _ | (refine Heap.le_new ?_ ?_; rotate_left 1; focus (first | assumption | (simp only [upd_none2, upd_get, ne_eq, push_cast, seval, *]; done) | (simp [upd_get, *]; done)))))⟩ | exact trivial
  · rintro ⟨⟩ -
    repeat' (first
    | refine AW_seq_kn fun K hK => ?_
    | refine AW_block ?_
    | (refine does_call rfl rfl ?_; simp only [push_cast, seval, *]; refine ACall.monoP (Compare_p ⟨_, _, _⟩ ⟨_, _, _⟩ _) ?_; (try simp only [push_cast, seval, *]))
    | ((first
      | refine AW_region_draw (id := 13) E0 (fun f => [].contains f) dLSY0 dASY0 mixed (by kernel_rfl) ?_
      | refine AW_region_draw (id := 19) E0 (fun f => [].contains f) dLSY1 dASY1 mixed (by kernel_rfl) ?_
      | refine AW_region_draw (id := 24) E0 (fun f => [].contains f) dLSY2 dASY2 mixed (by kernel_rfl) ?_
      | refine AW_region_draw (id := 27) E0 (fun f => [].contains f) [(0, false, []), (1, true, []), (2, false, [1]), (3, false, [])] [[], [], [0], [0, 1, 2]] mixed (by kernel_rfl) ?_
      | refine AW_region E0 ?_ | refine AW_ret ?_ | refine AW_exit ?_ | refine AW_skip ?_ | unfold retQ); try simp only [push_cast, seval, *])
    | ((first | (apply AW_cond; (case hc => (simp only [push_cast, seval]; rfl))) | (apply ER_guard; (case hb => (simp only [push_cast, seval]; rfl)))); all_goals ((intro hc; first | (exfalso; simp only [push_cast, seval, *] at hc; done) | (exact absurd hc (by decide)) | ((try first | rw [Bool.not_true] at hc | rw [Bool.not_false] at hc); first | (with_reducible replace hc := tTT hc); clear hc | (with_reducible replace hc := tFF hc); clear hc | (have hp := hc; try simp only [decide_eq_true_eq, decide_eq_false_iff_not, bA, bB, bC, bD, bE, bF, bG, bH] at hp))) <;> try simp only [push_cast, seval, *]))
    | (refine Kn.go hK ?_; clear hK K)
    | refine Kn.go (by assumption) ?_
    | (intro n hn; (try simp only [upd_none2, join_none_iff, ite_none, ne_eq] at hn); (try simp only [push_cast, seval, *]))
    | (intro hc)
    | (apply ER_blk; (case hp => rfl); (case hb => (simp only [push_cast, seval]; rfl)); (case hd => (simp only [push_cast, seval]; done)); (case h => (intro hc; simp only [push_cast, seval, *]; rfl)); simp only [push_cast, seval, *])
    | fail)
    exact ⟨_, _, Weak.refl _ _, rfl⟩
end Go.Proofs.Ytdeckjoeggmagaa
