/- Walks: Cut, Lose; what an op names, brings and does. -/
import Derived.Test.YtiepahhneagjhaaI
import Derived.Test.YtiepahhneagjhaaJ
import Derived.Test.YtiepahhneagjhaaR
namespace Go.Proofs.Ytiepahhneagjhaa
open Go.RowKit
open Nat renaming reduceEqDiff → nA, reduceLT → nB, reduceLeDiff → nC, reduceAdd → nD, reduceMul → nE, reduceSub → nF, reduceBEq → nG
open Int renaming reduceToNat → iA, reduceLT → iB, reduceLE → iC, reduceEq → iD
open Bool renaming and_eq_true → bA, or_eq_true → bB, or_eq_false_iff → bC, and_eq_false_iff → bD, not_eq_true' → bE, not_eq_false' → bF, not_true → bG, not_false → bH
set_option linter.all false
set_option maxHeartbeats 4000000
attribute [local irreducible] AW Does ACall tE tS tB tZ
def dLS0 : List En := [(0, false, []), (1, true, []), (2, false, []), (3, false, [1]), (4, false, []), (5, false, [])]
def dAS0 : List (List Nat) := [[], [], [], [0], [0, 1, 3], [0, 1, 2, 3, 4]]
attribute [push_cast] dLS0
def dLS1 : List En := [(0, false, []), (1, false, []), (2, false, []), (3, false, []), (4, false, []), (5, false, []), (6, false, []), (7, false, []), (8, false, []), (9, false, []), (10, false, []), (11, false, []), (12, false, []), (13, false, [])]
def dAS1 : List (List Nat) := [[], [0], [], [2], [2, 3], [], [5], [5, 6], [5, 6, 7], [2, 3, 4, 5, 6, 7, 8], [0, 1, 2, 3, 4, 5, 6, 7, 8, 9], [0, 1, 2, 3, 4, 5, 6, 7, 8, 9, 10], [0, 1, 2, 3, 4, 5, 6, 7, 8, 9, 10, 11], [0, 1, 2, 3, 4, 5, 6, 7, 8, 9, 10, 11, 12]]
attribute [push_cast] dLS1
def dLS2 : List En := [(0, true, []), (1, false, []), (2, false, []), (4, false, []), (5, true, []), (3, false, [0, 5]), (6, false, []), (7, false, []), (8, false, []), (9, false, []), (10, false, []), (11, false, []), (12, false, []), (13, false, []), (14, false, []), (15, false, []), (16, false, [])]
def dAS2 : List (List Nat) := [[], [], [], [1, 2], [], [4], [0, 1, 2, 3, 4, 5], [0, 1, 2, 3, 4, 5, 6], [0, 1, 2, 3, 4, 5, 6, 7], [0, 1, 2, 3, 4, 5, 6, 7], [0, 1, 2, 3, 4, 5, 6, 7], [0, 1, 2, 3, 4, 5, 6, 7, 8], [0, 1, 2, 3, 4, 5, 6, 7, 8, 11], [0, 1, 2, 3, 4, 5, 6, 7, 8, 9, 11, 12], [0, 1, 2, 3, 4, 5, 6, 7, 8, 9, 11, 12, 13], [0, 1, 2, 3, 4, 5, 6, 7, 8, 9, 10, 11, 12, 13, 14], [0, 1, 2, 3, 4, 5, 6, 7, 8, 9, 10, 11, 12, 13, 14, 15]]
attribute [push_cast] dLS2
def dLS3 : List En := [(0, true, []), (1, false, []), (2, false, []), (3, false, [0]), (4, false, []), (5, false, []), (6, false, []), (7, false, []), (8, false, []), (9, false, []), (10, false, []), (11, false, [])]
def dAS3 : List (List Nat) := [[], [], [], [1, 2], [0, 1, 2, 3], [0, 1, 2, 3, 4], [0, 1, 2, 3, 4, 5], [0, 1, 2, 3, 4, 5], [0, 1, 2, 3, 4, 5, 6], [0, 1, 2, 3, 4, 5, 6, 8], [0, 1, 2, 3, 4, 5, 6, 7, 8, 9], [0, 1, 2, 3, 4, 5, 6, 7, 8, 9, 10]]
attribute [push_cast] dLS3

def cutE (n : Nt) (own : Int) : Int := if nOk n = true then cutF own else 380
def cutS (n : Nt) (own : Int) : Nt := if cutE n own = 0 then cutA n own else zNt
def cutC (n : Nt) (own : Int) : Int := if cutE n own = 0 then cutG n own else 0
theorem cut_p (n : Nt) (hz : Sz n) (own : Int) : Pure Try.prog 63 [.g (Nt.av n), .c (.int .i64 own)] (.t [.g (Nt.av (cutS n own)), .c (.int .i64 (cutC n own)), .c (.int .i64 (cutE n own))]) := by
  intro H
  have hE : cutE n own = if nOk n = true then cutF own else 380 := rfl
  obtain ⟨sent, l⟩ := n
  cases hok : nOk ⟨sent, l⟩
  · have h2 : cutE ⟨sent, l⟩ own = 380 := by rw [hE, hok]; rfl
    have hS : cutS ⟨sent, l⟩ own = zNt := by unfold cutS; rw [h2]; rfl
    have hP : cutC ⟨sent, l⟩ own = 0 := by unfold cutC; rw [h2]; rfl
    rw [hS, h2, hP]
    have hw := with_no ⟨sent, l⟩ hz hok
    simp only [Nt.av, zNt, List.map_nil] at hw ⊢
    clear hE hS h2 hok hP
    refine ACall_of' Try.func63 rfl (Ent_of Try.func63 (by kernel_rfl) rfl) (by simp [Try.ntmps63]) ?_; simp only [Try.ntmps63, Try.results63]
    repeat' (first
    | refine AW_seq_kn fun K hK => ?_
    | refine AW_block ?_
    | (refine does_call rfl rfl ?_; simp only [push_cast, reduceIte, nA, nB, nC, reduceCtorEq, nD, nE, nF, nG, iA, iB, iC, iD, *]; refine ACall.mono (hw _ _ _) ?_; (rintro _ _ ⟨rfl, e2⟩; have e3 := e2.symm; clear e2; subst e3); (try simp only [push_cast, reduceIte, nA, nB, nC, reduceCtorEq, nD, nE, nF, nG, iA, iB, iC, iD, *]))
    | ((first
      | refine AW_region_draw (id := 3) E1 (fun f => [].contains f) dLS0 dAS0 mixed (by kernel_rfl) ?_
      | refine AW_region E1 ?_ | refine AW_ret ?_ | refine AW_exit ?_ | refine AW_skip ?_ | unfold retQ); try simp only [push_cast, reduceIte, nA, nB, nC, reduceCtorEq, nD, nE, nF, nG, iA, iB, iC, iD, *])
    | (apply AW_cond; (case hc => (simp only [push_cast, reduceIte, nA, nB, nC, reduceCtorEq, nD, nE, nF, nG, iA, iB, iC, iD]; rfl)); all_goals (intro hc; first | (exfalso; simp only [push_cast, reduceIte, nA, nB, nC, reduceCtorEq, nD, nE, nF, nG, iA, iB, iC, iD, *] at hc; done) | (exact absurd hc (by decide)) | (with_reducible (have hcc : true = true := hc); clear hcc hc) | (with_reducible (have hcc : false = false := hc); clear hcc hc) | ((try simp only [Bool.not_true, Bool.not_false] at hc); (first | (with_reducible (have hcc : true = true := hc); clear hcc hc) | (with_reducible (have hcc : false = false := hc); clear hcc hc) | (have hp := hc; (try simp only [decide_eq_true_eq, decide_eq_false_iff_not, bA, bB, bC, bD, bE, bF, bG, bH] at hp))))))
    | (refine Kn.go hK ?_; clear hK K)
    | refine Kn.go (by assumption) ?_
    | (intro n hn; (try simp only [upd_none2, join_none_iff, ite_none, ne_eq] at hn); (try simp only [push_cast, reduceIte, nA, nB, nC, reduceCtorEq, nD, nE, nF, nG, iA, iB, iC, iD, *]))
    | (intro hc)
    | fail)
    exact ⟨_, _, Weak.less (by (simp only [push_cast, reduceIte, nA, nB, nC, reduceCtorEq, nD, nE, nF, nG, iA, iB, iC, iD, *])), rfl, rfl⟩
  · have h2 : cutE ⟨sent, l⟩ own = cutF own := by rw [hE, hok]; rfl
    have hS : cutS ⟨sent, l⟩ own = if cutF own = 0 then cutA ⟨sent, l⟩ own else zNt := by unfold cutS; rw [h2]
    have hP : cutC ⟨sent, l⟩ own = if cutF own = 0 then cutG ⟨sent, l⟩ own else 0 := by unfold cutC; rw [h2]
    have hw := with_a sent l hz hok 103
    have h1 := cut1_a sent l hz.l own
    rw [h2, hS, hP]
    generalize cutF own = E at *
    generalize cutA ⟨sent, l⟩ own = A at *
    generalize cutG ⟨sent, l⟩ own = Q at *
    clear hE h2 hS hok hP
    replace hw := Lib.hid hw
    replace h1 := Lib.hid h1
    refine ACall_of' Try.func63 rfl (Ent_of Try.func63 (by kernel_rfl) rfl) (by simp [Try.ntmps63]) ?_; simp only [Try.ntmps63, Try.results63]
    repeat' (first
    | refine AW_seq_kn fun K hK => ?_
    | refine AW_block ?_
    | ((first
      | refine AW_region_draw (id := 3) E1 (fun f => [].contains f) dLS0 dAS0 mixed (by kernel_rfl) ?_
      | refine AW_region E1 ?_ | refine AW_ret ?_ | refine AW_exit ?_ | refine AW_skip ?_ | unfold retQ); try simp only [push_cast, reduceIte, nA, nB, nC, reduceCtorEq, nD, nE, nF, nG, iA, iB, iC, iD, *])
    | (apply AW_cond; (case hc => (simp only [push_cast, reduceIte, nA, nB, nC, reduceCtorEq, nD, nE, nF, nG, iA, iB, iC, iD]; rfl)); all_goals (intro hc; first | (exfalso; simp only [push_cast, reduceIte, nA, nB, nC, reduceCtorEq, nD, nE, nF, nG, iA, iB, iC, iD, *] at hc; done) | (exact absurd hc (by decide)) | (with_reducible (have hcc : true = true := hc); clear hcc hc) | (with_reducible (have hcc : false = false := hc); clear hcc hc) | ((try simp only [Bool.not_true, Bool.not_false] at hc); (first | (with_reducible (have hcc : true = true := hc); clear hcc hc) | (with_reducible (have hcc : false = false := hc); clear hcc hc) | (have hp := hc; (try simp only [decide_eq_true_eq, decide_eq_false_iff_not, bA, bB, bC, bD, bE, bF, bG, bH] at hp))))))
    | (refine Kn.go hK ?_; clear hK K)
    | refine Kn.go (by assumption) ?_
    | (intro n hn; (try simp only [upd_none2, join_none_iff, ite_none, ne_eq] at hn); (try simp only [push_cast, reduceIte, nA, nB, nC, reduceCtorEq, nD, nE, nF, nG, iA, iB, iC, iD, *]))
    | (intro hc)
    | fail)
    rename_i m2 h2 m3 h3 m4 h4
    generalize n = m7 at *
    obtain ⟨Hs, hHs⟩ : ∃ Hs : Heap, Hs = upd (upd (upd (upd H m2 (.r 25 2 1 [[.c (.int .u64 sent), .l 4 (l.map Pk.av)]])) m3 (bxI own)) m4 (.r 25 2 1 [[.c (.int .u64 0), .c (.slice none 0 0)]])) m7 (bxI 0) := ⟨_, rfl⟩
    have g3 : Hs m3 = some (bxI own) := by rw [hHs]; simp only [push_cast, reduceIte, nA, nB, nC, reduceCtorEq, nD, nE, nF, nG, iA, iB, iC, iD, *]
    have g4 : Hs m4 = some (.r 25 2 1 [[.c (.int .u64 0), .c (.slice none 0 0)]]) := by rw [hHs]; simp only [push_cast, reduceIte, nA, nB, nC, reduceCtorEq, nD, nE, nF, nG, iA, iB, iC, iD, *]
    have g7 : Hs m7 = some (bxI 0) := by rw [hHs]; exact upd_same _ _ _
    have n37 : ¬ m3 = m7 := hn.2.1.2
    have n47 : ¬ m4 = m7 := hn.1.2
    have n74 : ¬ m7 = m4 := hn.1.1
    have hm4 : H m4 = none := h4.2.2
    have hm7 : H m7 = none := hn.2.2.2
    have hle : Heap.le H Hs := by rw [hHs]; (repeat' (first | exact Heap.le_refl _ | refine hle_upd2 ?_ _ _ | (refine Heap.le_new ?_ ?_; rotate_left 1; focus (first | assumption | (simp only [upd_none2, upd_get, ne_eq, push_cast, reduceIte, nA, nB, nC, reduceCtorEq, nD, nE, nF, nG, iA, iB, iC, iD, *]; done) | (simp [upd_get, *]; done)))))
    rw [← hHs]
    clear hHs
    refine does_call rfl rfl ?_
    simp only [push_cast, reduceIte, nA, nB, nC, reduceCtorEq, nD, nE, nF, nG, iA, iB, iC, iD, *]
    refine ACall.mono ((unhid hw) [.p m3 1 0 0, .p m7 1 0 0] Hs E A (fun G => upd G m7 (bxI Q)) (Turns.upd g7 _) (fun he G x B nb hG hnb hown => (unhid h1 G m3 m7 (hG _ _ g3) (hG _ _ g7) n37 x B nb hnb hown).mono fun r H' h => ⟨h.1, h.2.1 he⟩) (fun he G x B nb hG hnb hown => (unhid h1 G m3 m7 (hG _ _ g3) (hG _ _ g7) n37 x B nb hnb hown).mono fun r H' h => ⟨by rw [h.1, he], h.2.2 he⟩)) ?_
    rintro _ _ ⟨rfl, e2⟩
    clear hw h1 h2 h3 h4 hn
    have hne4 := ne_old g4
    have hne7 := ne_old g7
    have hfin : ∀ (B : Heap), (∀ q, ¬ q = m4 → ¬ q = m7 → ∀ k, Hs q = some k → B q = some k) → Heap.le H B := fun B hB q b hq => by
      have c4 : ¬ q = m4 := by rintro rfl; rw [hm4] at hq; cases hq
      have c7 : ¬ q = m7 := by rintro rfl; rw [hm7] at hq; cases hq
      exact hB q c4 c7 b (hle _ _ hq)
    replace hfin := Lib.hid hfin
    by_cases hE0 : E = 0
    · subst hE0
      simp only [if_true] at e2 ⊢
      obtain ⟨rs, rl⟩ := A
      subst e2
      (try simp only [push_cast, reduceIte, nA, nB, nC, reduceCtorEq, nD, nE, nF, nG, iA, iB, iC, iD, *])
      repeat' (first
    | refine AW_seq_kn fun K hK => ?_
    | refine AW_block ?_
    | ((first
      | refine AW_region_draw (id := 3) E1 (fun f => [].contains f) dLS0 dAS0 mixed (by kernel_rfl) ?_
      | refine AW_region E1 ?_ | refine AW_ret ?_ | refine AW_exit ?_ | refine AW_skip ?_ | unfold retQ); try simp only [push_cast, reduceIte, nA, nB, nC, reduceCtorEq, nD, nE, nF, nG, iA, iB, iC, iD, *])
    | (apply AW_cond; (case hc => (simp only [push_cast, reduceIte, nA, nB, nC, reduceCtorEq, nD, nE, nF, nG, iA, iB, iC, iD]; rfl)); all_goals (intro hc; first | (exfalso; simp only [push_cast, reduceIte, nA, nB, nC, reduceCtorEq, nD, nE, nF, nG, iA, iB, iC, iD, *] at hc; done) | (exact absurd hc (by decide)) | (with_reducible (have hcc : true = true := hc); clear hcc hc) | (with_reducible (have hcc : false = false := hc); clear hcc hc) | ((try simp only [Bool.not_true, Bool.not_false] at hc); (first | (with_reducible (have hcc : true = true := hc); clear hcc hc) | (with_reducible (have hcc : false = false := hc); clear hcc hc) | (have hp := hc; (try simp only [decide_eq_true_eq, decide_eq_false_iff_not, bA, bB, bC, bD, bE, bF, bG, bH] at hp))))))
    | (refine Kn.go hK ?_; clear hK K)
    | refine Kn.go (by assumption) ?_
    | (intro n hn; (try simp only [upd_none2, join_none_iff, ite_none, ne_eq] at hn); (try simp only [push_cast, reduceIte, nA, nB, nC, reduceCtorEq, nD, nE, nF, nG, iA, iB, iC, iD, *]))
    | (intro hc)
    | fail)
      refine ⟨_, H, Weak.less (unhid hfin _ fun q c4 c7 k hk => ?_), rfl, rfl⟩
      have cn : ¬ q = n := by rintro rfl; rw [hn.2] at hk; cases hk
      simp only [upd_get, c4, c7, cn, if_false]; exact hk
    · simp only [hE0, if_false] at e2 ⊢
      subst e2
      simp only [zNt]
      (try simp only [push_cast, reduceIte, nA, nB, nC, reduceCtorEq, nD, nE, nF, nG, iA, iB, iC, iD, *])
      repeat' (first
    | refine AW_seq_kn fun K hK => ?_
    | refine AW_block ?_
    | ((first
      | refine AW_region_draw (id := 3) E1 (fun f => [].contains f) dLS0 dAS0 mixed (by kernel_rfl) ?_
      | refine AW_region E1 ?_ | refine AW_ret ?_ | refine AW_exit ?_ | refine AW_skip ?_ | unfold retQ); try simp only [push_cast, reduceIte, nA, nB, nC, reduceCtorEq, nD, nE, nF, nG, iA, iB, iC, iD, *])
    | (apply AW_cond; (case hc => (simp only [push_cast, reduceIte, nA, nB, nC, reduceCtorEq, nD, nE, nF, nG, iA, iB, iC, iD]; rfl)); all_goals (intro hc; first | (exfalso; simp only [push_cast, reduceIte, nA, nB, nC, reduceCtorEq, nD, nE, nF, nG, iA, iB, iC, iD, *] at hc; done) | (exact absurd hc (by decide)) | (with_reducible (have hcc : true = true := hc); clear hcc hc) | (with_reducible (have hcc : false = false := hc); clear hcc hc) | ((try simp only [Bool.not_true, Bool.not_false] at hc); (first | (with_reducible (have hcc : true = true := hc); clear hcc hc) | (with_reducible (have hcc : false = false := hc); clear hcc hc) | (have hp := hc; (try simp only [decide_eq_true_eq, decide_eq_false_iff_not, bA, bB, bC, bD, bE, bF, bG, bH] at hp))))))
    | (refine Kn.go hK ?_; clear hK K)
    | refine Kn.go (by assumption) ?_
    | (intro n hn; (try simp only [upd_none2, join_none_iff, ite_none, ne_eq] at hn); (try simp only [push_cast, reduceIte, nA, nB, nC, reduceCtorEq, nD, nE, nF, nG, iA, iB, iC, iD, *]))
    | (intro hc)
    | fail)
      refine ⟨_, H, Weak.less (unhid hfin _ fun q c4 c7 k hk => ?_), rfl, rfl⟩
      have cn : ¬ q = n := by rintro rfl; rw [hn] at hk; cases hk
      simp only [upd_get, c4, c7, cn, if_false]; exact hk
theorem lose_p (n : Nt) (hz : Sz n) (num : Int) : Pure Try.prog 62 [.g (Nt.av n), .c (.int .u64 num)] (.t [.g (Nt.av (comeS n num false)), .c (.int .i64 (comeE n num))]) := by
  intro H
  have hco := come_p n hz num false
  obtain ⟨sent, l⟩ := n
  generalize comeS ⟨sent, l⟩ num false = R at *
  generalize comeP ⟨sent, l⟩ num = P at *
  generalize comeE ⟨sent, l⟩ num = E at *
  obtain ⟨rs, rl⟩ := R
  obtain ⟨p1, p2, p3, p4⟩ := P
  simp only [Nt.av, Pk.av] at hco
  clear hz
  refine ACall_of' Try.func62 rfl (Ent_of Try.func62 (by kernel_rfl) rfl) (by simp [Try.ntmps62]) ?_; simp only [Try.ntmps62, Try.results62]
  repeat' (first
    | refine AW_seq_kn fun K hK => ?_
    | refine AW_block ?_
    | (refine does_call rfl rfl ?_; simp only [push_cast, reduceIte, nA, nB, nC, reduceCtorEq, nD, nE, nF, nG, iA, iB, iC, iD, *]; refine ACall.mono (hco _) ?_; (rintro _ _ ⟨rfl, e2⟩; have e3 := e2.symm; clear e2; subst e3); (try simp only [push_cast, reduceIte, nA, nB, nC, reduceCtorEq, nD, nE, nF, nG, iA, iB, iC, iD, *]))
    | ((first
      | refine AW_region E1 ?_ | refine AW_ret ?_ | refine AW_exit ?_ | refine AW_skip ?_ | unfold retQ); try simp only [push_cast, reduceIte, nA, nB, nC, reduceCtorEq, nD, nE, nF, nG, iA, iB, iC, iD, *])
    | (apply AW_cond; (case hc => (simp only [push_cast, reduceIte, nA, nB, nC, reduceCtorEq, nD, nE, nF, nG, iA, iB, iC, iD]; rfl)); all_goals (intro hc; first | (exfalso; simp only [push_cast, reduceIte, nA, nB, nC, reduceCtorEq, nD, nE, nF, nG, iA, iB, iC, iD, *] at hc; done) | (exact absurd hc (by decide)) | (with_reducible (have hcc : true = true := hc); clear hcc hc) | (with_reducible (have hcc : false = false := hc); clear hcc hc) | ((try simp only [Bool.not_true, Bool.not_false] at hc); (first | (with_reducible (have hcc : true = true := hc); clear hcc hc) | (with_reducible (have hcc : false = false := hc); clear hcc hc) | (have hp := hc; (try simp only [decide_eq_true_eq, decide_eq_false_iff_not, bA, bB, bC, bD, bE, bF, bG, bH] at hp))))))
    | (refine Kn.go hK ?_; clear hK K)
    | refine Kn.go (by assumption) ?_
    | (intro n hn; (try simp only [upd_none2, join_none_iff, ite_none, ne_eq] at hn); (try simp only [push_cast, reduceIte, nA, nB, nC, reduceCtorEq, nD, nE, nF, nG, iA, iB, iC, iD, *]))
    | (intro hc)
    | fail)
  exact ⟨_, _, Weak.less (by (simp only [push_cast, reduceIte, nA, nB, nC, reduceCtorEq, nD, nE, nF, nG, iA, iB, iC, iD, *])), rfl, rfl⟩
structure Op28 where
  kd : Int
  fr : Int
  to : Int
  at_ : Int
  st : Bool
  ot : Bool
  bs : List Int
def Op28.av (o : Op28) : List AV := [.c (.int .i64 o.kd), .c (.int .i64 o.fr), .c (.int .i64 o.to), .c (.int .i64 o.at_), .c (.bool o.st), .c (.bool o.ot), .l 1 (o.bs.map by1)]
attribute [push_cast] Op28.av
def uw (x : Int) : Nat := (IntKind.u64.wrap x).toNat
theorem uw_eq (x : Int) : IntKind.u64.wrap x = (uw x : Int) := by
  unfold uw; simp [IntKind.wrap, IntKind.signed, IntKind.bits]; omega
def numO (o : Op28) (n : Nt) : Int := if o.ot = true then (uw o.at_ : Int) else match n.ps[uw o.at_ % n.ps.length]? with | some p => p.num | none => (uw o.at_ : Int)
theorem num_p (o : Op28) (n : Nt) (hl : n.ps.length ≤ 1000000) : Pure Try.prog 19 [.g (Op28.av o), .g (Nt.av n)] (.c (.int .u64 (numO o n))) := by
  intro H
  obtain ⟨kd, fr, to, at_, st, ot, bs⟩ := o
  obtain ⟨sent, l⟩ := n
  simp only at hl
  have hat := uw_eq at_
  have hN : numO ⟨kd, fr, to, at_, st, ot, bs⟩ ⟨sent, l⟩ = if ot = true then (uw at_ : Int) else match l[uw at_ % l.length]? with | some p => p.num | none => (uw at_ : Int) := rfl
  rcases Nat.eq_zero_or_pos l.length with h0 | hpos
  · cases List.eq_nil_of_length_eq_zero h0
    have hN2 : numO ⟨kd, fr, to, at_, st, ot, bs⟩ ⟨sent, []⟩ = (uw at_ : Int) := by rw [hN]; cases ot <;> rfl
    rw [hN2]
    clear hN hN2
    refine ACall_of' Try.func19 rfl (Ent_of Try.func19 (by kernel_rfl) rfl) (by simp [Try.ntmps19]) ?_; simp only [Try.ntmps19, Try.results19]
    repeat' (first
    | refine AW_seq_kn fun K hK => ?_
    | refine AW_block ?_
    | ((first
      | refine AW_region_draw (id := 2) E1 (fun f => [].contains f) dLS1 dAS1 mixed (by kernel_rfl) ?_
      | refine AW_region E1 ?_ | refine AW_ret ?_ | refine AW_exit ?_ | refine AW_skip ?_ | unfold retQ); try simp only [push_cast, reduceIte, nA, nB, nC, reduceCtorEq, nD, nE, nF, nG, iA, iB, iC, iD, *])
    | (apply AW_cond; (case hc => (simp only [push_cast, reduceIte, nA, nB, nC, reduceCtorEq, nD, nE, nF, nG, iA, iB, iC, iD]; rfl)); all_goals (intro hc; first | (exfalso; simp only [push_cast, reduceIte, nA, nB, nC, reduceCtorEq, nD, nE, nF, nG, iA, iB, iC, iD, *] at hc; done) | (exact absurd hc (by decide)) | (with_reducible (have hcc : true = true := hc); clear hcc hc) | (with_reducible (have hcc : false = false := hc); clear hcc hc) | ((try simp only [Bool.not_true, Bool.not_false] at hc); (first | (with_reducible (have hcc : true = true := hc); clear hcc hc) | (with_reducible (have hcc : false = false := hc); clear hcc hc) | (have hp := hc; (try simp only [decide_eq_true_eq, decide_eq_false_iff_not, bA, bB, bC, bD, bE, bF, bG, bH] at hp))))))
    | (refine Kn.go hK ?_; clear hK K)
    | refine Kn.go (by assumption) ?_
    | (intro n hn; (try simp only [upd_none2, join_none_iff, ite_none, ne_eq] at hn); (try simp only [push_cast, reduceIte, nA, nB, nC, reduceCtorEq, nD, nE, nF, nG, iA, iB, iC, iD, *]))
    | (intro hc)
    | (apply ER_blk; (case hp => rfl); (case hb => (simp only [push_cast, reduceIte, nA, nB, nC, reduceCtorEq, nD, nE, nF, nG, iA, iB, iC, iD]; rfl)); (case hd => (simp only [push_cast, reduceIte, nA, nB, nC, reduceCtorEq, nD, nE, nF, nG, iA, iB, iC, iD]; done)); (case h => (intro hc; simp only [push_cast, reduceIte, nA, nB, nC, reduceCtorEq, nD, nE, nF, nG, iA, iB, iC, iD, *]; rfl)); simp only [push_cast, reduceIte, nA, nB, nC, reduceCtorEq, nD, nE, nF, nG, iA, iB, iC, iD, *])
    | (apply ER_guard; (case hb => (simp only [push_cast, reduceIte, nA, nB, nC, reduceCtorEq, nD, nE, nF, nG, iA, iB, iC, iD]; rfl)); all_goals ((intro hc; first | (exfalso; simp only [push_cast, reduceIte, nA, nB, nC, reduceCtorEq, nD, nE, nF, nG, iA, iB, iC, iD, *] at hc; done) | (exact absurd hc (by decide)) | (with_reducible (have hcc : true = true := hc); clear hcc hc) | (with_reducible (have hcc : false = false := hc); clear hcc hc) | ((try simp only [Bool.not_true, Bool.not_false] at hc); (first | (with_reducible (have hcc : true = true := hc); clear hcc hc) | (with_reducible (have hcc : false = false := hc); clear hcc hc) | (have hp := hc; (try simp only [decide_eq_true_eq, decide_eq_false_iff_not, bA, bB, bC, bD, bE, bF, bG, bH] at hp))))) <;> try simp only [push_cast, reduceIte, nA, nB, nC, reduceCtorEq, nD, nE, nF, nG, iA, iB, iC, iD, *]))
    | fail)
    exact ⟨_, _, Weak.less (by (simp only [push_cast, reduceIte, nA, nB, nC, reduceCtorEq, nD, nE, nF, nG, iA, iB, iC, iD, *])), rfl, rfl⟩
  have hp0 : (0 : Int) < l.length := by omega
  cases ot
  · have hj : uw at_ % l.length < l.length := Nat.mod_lt _ hpos
    have ht := tmod_nat (uw at_) l.length
    obtain ⟨x, hx⟩ : ∃ x, l[uw at_ % l.length]? = some x := ⟨_, List.getElem?_eq_getElem hj⟩
    rw [hx] at hN
    simp only [Bool.false_eq_true, if_false] at hN
    rw [hN]
    have hlw : IntKind.u64.wrap (l.length : Int) = (l.length : Int) := wrap_u64 (by omega) (by omega)
    have hl0 : ¬ (l.length : Int) = 0 := by omega
    clear hN
    generalize uw at_ % l.length = j at *
    generalize uw at_ = u at *
    have hjI : (j : Int) < l.length := by omega
    refine ACall_of' Try.func19 rfl (Ent_of Try.func19 (by kernel_rfl) rfl) (by simp [Try.ntmps19]) ?_; simp only [Try.ntmps19, Try.results19]
    repeat' (first
    | refine AW_seq_kn fun K hK => ?_
    | refine AW_block ?_
    | ((first
      | refine AW_region_draw (id := 2) E1 (fun f => [].contains f) dLS1 dAS1 mixed (by kernel_rfl) ?_
      | refine AW_region E1 ?_ | refine AW_ret ?_ | refine AW_exit ?_ | refine AW_skip ?_ | unfold retQ); try simp only [push_cast, reduceIte, nA, nB, nC, reduceCtorEq, nD, nE, nF, nG, iA, iB, iC, iD, *])
    | (apply AW_cond; (case hc => (simp only [push_cast, reduceIte, nA, nB, nC, reduceCtorEq, nD, nE, nF, nG, iA, iB, iC, iD]; rfl)); all_goals (intro hc; first | (exfalso; simp only [push_cast, reduceIte, nA, nB, nC, reduceCtorEq, nD, nE, nF, nG, iA, iB, iC, iD, *] at hc; done) | (exact absurd hc (by decide)) | (with_reducible (have hcc : true = true := hc); clear hcc hc) | (with_reducible (have hcc : false = false := hc); clear hcc hc) | ((try simp only [Bool.not_true, Bool.not_false] at hc); (first | (with_reducible (have hcc : true = true := hc); clear hcc hc) | (with_reducible (have hcc : false = false := hc); clear hcc hc) | (have hp := hc; (try simp only [decide_eq_true_eq, decide_eq_false_iff_not, bA, bB, bC, bD, bE, bF, bG, bH] at hp))))))
    | (refine Kn.go hK ?_; clear hK K)
    | refine Kn.go (by assumption) ?_
    | (intro n hn; (try simp only [upd_none2, join_none_iff, ite_none, ne_eq] at hn); (try simp only [push_cast, reduceIte, nA, nB, nC, reduceCtorEq, nD, nE, nF, nG, iA, iB, iC, iD, *]))
    | (intro hc)
    | (apply ER_blk; (case hp => rfl); (case hb => (simp only [push_cast, reduceIte, nA, nB, nC, reduceCtorEq, nD, nE, nF, nG, iA, iB, iC, iD]; rfl)); (case hd => (simp only [push_cast, reduceIte, nA, nB, nC, reduceCtorEq, nD, nE, nF, nG, iA, iB, iC, iD]; done)); (case h => (intro hc; simp only [push_cast, reduceIte, nA, nB, nC, reduceCtorEq, nD, nE, nF, nG, iA, iB, iC, iD, *]; rfl)); simp only [push_cast, reduceIte, nA, nB, nC, reduceCtorEq, nD, nE, nF, nG, iA, iB, iC, iD, *])
    | (apply ER_guard; (case hb => (simp only [push_cast, reduceIte, nA, nB, nC, reduceCtorEq, nD, nE, nF, nG, iA, iB, iC, iD]; rfl)); all_goals ((intro hc; first | (exfalso; simp only [push_cast, reduceIte, nA, nB, nC, reduceCtorEq, nD, nE, nF, nG, iA, iB, iC, iD, *] at hc; done) | (exact absurd hc (by decide)) | (with_reducible (have hcc : true = true := hc); clear hcc hc) | (with_reducible (have hcc : false = false := hc); clear hcc hc) | ((try simp only [Bool.not_true, Bool.not_false] at hc); (first | (with_reducible (have hcc : true = true := hc); clear hcc hc) | (with_reducible (have hcc : false = false := hc); clear hcc hc) | (have hp := hc; (try simp only [decide_eq_true_eq, decide_eq_false_iff_not, bA, bB, bC, bD, bE, bF, bG, bH] at hp))))) <;> try simp only [push_cast, reduceIte, nA, nB, nC, reduceCtorEq, nD, nE, nF, nG, iA, iB, iC, iD, *]))
    | fail)
    exact ⟨_, _, Weak.less (by (simp only [push_cast, reduceIte, nA, nB, nC, reduceCtorEq, nD, nE, nF, nG, iA, iB, iC, iD, *])), rfl, rfl⟩
  · simp only [if_true] at hN
    rw [hN]
    clear hN
    refine ACall_of' Try.func19 rfl (Ent_of Try.func19 (by kernel_rfl) rfl) (by simp [Try.ntmps19]) ?_; simp only [Try.ntmps19, Try.results19]
    repeat' (first
    | refine AW_seq_kn fun K hK => ?_
    | refine AW_block ?_
    | ((first
      | refine AW_region_draw (id := 2) E1 (fun f => [].contains f) dLS1 dAS1 mixed (by kernel_rfl) ?_
      | refine AW_region E1 ?_ | refine AW_ret ?_ | refine AW_exit ?_ | refine AW_skip ?_ | unfold retQ); try simp only [push_cast, reduceIte, nA, nB, nC, reduceCtorEq, nD, nE, nF, nG, iA, iB, iC, iD, *])
    | (apply AW_cond; (case hc => (simp only [push_cast, reduceIte, nA, nB, nC, reduceCtorEq, nD, nE, nF, nG, iA, iB, iC, iD]; rfl)); all_goals (intro hc; first | (exfalso; simp only [push_cast, reduceIte, nA, nB, nC, reduceCtorEq, nD, nE, nF, nG, iA, iB, iC, iD, *] at hc; done) | (exact absurd hc (by decide)) | (with_reducible (have hcc : true = true := hc); clear hcc hc) | (with_reducible (have hcc : false = false := hc); clear hcc hc) | ((try simp only [Bool.not_true, Bool.not_false] at hc); (first | (with_reducible (have hcc : true = true := hc); clear hcc hc) | (with_reducible (have hcc : false = false := hc); clear hcc hc) | (have hp := hc; (try simp only [decide_eq_true_eq, decide_eq_false_iff_not, bA, bB, bC, bD, bE, bF, bG, bH] at hp))))))
    | (refine Kn.go hK ?_; clear hK K)
    | refine Kn.go (by assumption) ?_
    | (intro n hn; (try simp only [upd_none2, join_none_iff, ite_none, ne_eq] at hn); (try simp only [push_cast, reduceIte, nA, nB, nC, reduceCtorEq, nD, nE, nF, nG, iA, iB, iC, iD, *]))
    | (intro hc)
    | (apply ER_blk; (case hp => rfl); (case hb => (simp only [push_cast, reduceIte, nA, nB, nC, reduceCtorEq, nD, nE, nF, nG, iA, iB, iC, iD]; rfl)); (case hd => (simp only [push_cast, reduceIte, nA, nB, nC, reduceCtorEq, nD, nE, nF, nG, iA, iB, iC, iD]; done)); (case h => (intro hc; simp only [push_cast, reduceIte, nA, nB, nC, reduceCtorEq, nD, nE, nF, nG, iA, iB, iC, iD, *]; rfl)); simp only [push_cast, reduceIte, nA, nB, nC, reduceCtorEq, nD, nE, nF, nG, iA, iB, iC, iD, *])
    | (apply ER_guard; (case hb => (simp only [push_cast, reduceIte, nA, nB, nC, reduceCtorEq, nD, nE, nF, nG, iA, iB, iC, iD]; rfl)); all_goals ((intro hc; first | (exfalso; simp only [push_cast, reduceIte, nA, nB, nC, reduceCtorEq, nD, nE, nF, nG, iA, iB, iC, iD, *] at hc; done) | (exact absurd hc (by decide)) | (with_reducible (have hcc : true = true := hc); clear hcc hc) | (with_reducible (have hcc : false = false := hc); clear hcc hc) | ((try simp only [Bool.not_true, Bool.not_false] at hc); (first | (with_reducible (have hcc : true = true := hc); clear hcc hc) | (with_reducible (have hcc : false = false := hc); clear hcc hc) | (have hp := hc; (try simp only [decide_eq_true_eq, decide_eq_false_iff_not, bA, bB, bC, bD, bE, bF, bG, bH] at hp))))) <;> try simp only [push_cast, reduceIte, nA, nB, nC, reduceCtorEq, nD, nE, nF, nG, iA, iB, iC, iD, *]))
    | fail)
    exact ⟨_, _, Weak.less (by (simp only [push_cast, reduceIte, nA, nB, nC, reduceCtorEq, nD, nE, nF, nG, iA, iB, iC, iD, *])), rfl, rfl⟩
theorem bytes28_o (o : Op28) (hl : o.bs.length ≤ maxLen) (H : Heap) : ACall Try.prog 22 [.g (Op28.av o)] H fun r H' => OwnL H' r 5 1 ((o.bs.take 30001).map by1) H := by
  obtain ⟨kd, fr, to, at_, st, ot, bs⟩ := o
  simp only at hl
  unfold maxLen at hl
  obtain ⟨mn, hmn, hm1, hm2, hm3⟩ : ∃ mn : Nat, (if (30001 : Int) < bs.length then 30001 else (bs.length : Int)) = (mn : Int) ∧ mn ≤ bs.length ∧ mn ≤ 30001 ∧ bs.take mn = bs.take 30001 := by
    by_cases c : 30001 < bs.length
    · exact ⟨30001, by rw [if_pos (by omega)]; rfl, by omega, by omega, rfl⟩
    · exact ⟨bs.length, by rw [if_neg (by omega)], by omega, by omega, by rw [List.take_of_length_le (by omega), List.take_of_length_le (by omega)]⟩
  have hmI : (mn : Int) ≤ bs.length := by omega
  have hzl : (List.map by1 bs).take mn = (bs.take 30001).map by1 := by rw [← hm3, List.map_take]
  have hbl : (bs.take 30001).length ≤ 30001 := by simp; omega
  generalize bs.take 30001 = C at *
  clear hm3
  refine ACall_of' Try.func22 rfl (Ent_of Try.func22 (by kernel_rfl) rfl) (by simp [Try.ntmps22]) ?_; simp only [Try.ntmps22, Try.results22]
  repeat' (first
    | refine AW_seq_kn fun K hK => ?_
    | refine AW_block ?_
    | ((first
      | refine AW_region E1 ?_ | refine AW_ret ?_ | refine AW_exit ?_ | refine AW_skip ?_ | unfold retQ); try simp only [push_cast, reduceIte, nA, nB, nC, reduceCtorEq, nD, nE, nF, nG, iA, iB, iC, iD, *])
    | (apply AW_cond; (case hc => (simp only [push_cast, reduceIte, nA, nB, nC, reduceCtorEq, nD, nE, nF, nG, iA, iB, iC, iD]; rfl)); all_goals (intro hc; first | (exfalso; simp only [push_cast, reduceIte, nA, nB, nC, reduceCtorEq, nD, nE, nF, nG, iA, iB, iC, iD, *] at hc; done) | (exact absurd hc (by decide)) | (with_reducible (have hcc : true = true := hc); clear hcc hc) | (with_reducible (have hcc : false = false := hc); clear hcc hc) | ((try simp only [Bool.not_true, Bool.not_false] at hc); (first | (with_reducible (have hcc : true = true := hc); clear hcc hc) | (with_reducible (have hcc : false = false := hc); clear hcc hc) | (have hp := hc; (try simp only [decide_eq_true_eq, decide_eq_false_iff_not, bA, bB, bC, bD, bE, bF, bG, bH] at hp))))))
    | (refine Kn.go hK ?_; clear hK K)
    | refine Kn.go (by assumption) ?_
    | (intro n hn; (try simp only [upd_none2, join_none_iff, ite_none, ne_eq] at hn); (try simp only [push_cast, reduceIte, nA, nB, nC, reduceCtorEq, nD, nE, nF, nG, iA, iB, iC, iD, *]))
    | (intro hc)
    | fail)
  rename_i n1 h1
  refine does_appL rfl rfl rfl (OwnL.fresh (by simp only [upd_none2]; exact hn)) tE32 tS5 tB5 tZ5 rfl (by decide) ?_ ?_ ?_
  · simp only [List.length_map, List.length_nil, maxLen]; omega
  · simp only [List.length_map, List.length_nil]; omega
  intro x' H' hown'
  have hcs' := hown'.cs
  rw [List.nil_append] at hown'
  obtain ⟨H2, l1, l2⟩ := hown'.cut (K := H) (le_upd_new h1)
  clear hown'
  replace l2 := Lib.hid l2
  (try simp only [push_cast, reduceIte, nA, nB, nC, reduceCtorEq, nD, nE, nF, nG, iA, iB, iC, iD, *])
  repeat' (first
    | refine AW_seq_kn fun K hK => ?_
    | refine AW_block ?_
    | ((first
      | refine AW_region E1 ?_ | refine AW_ret ?_ | refine AW_exit ?_ | refine AW_skip ?_ | unfold retQ); try simp only [push_cast, reduceIte, nA, nB, nC, reduceCtorEq, nD, nE, nF, nG, iA, iB, iC, iD, *])
    | (apply AW_cond; (case hc => (simp only [push_cast, reduceIte, nA, nB, nC, reduceCtorEq, nD, nE, nF, nG, iA, iB, iC, iD]; rfl)); all_goals (intro hc; first | (exfalso; simp only [push_cast, reduceIte, nA, nB, nC, reduceCtorEq, nD, nE, nF, nG, iA, iB, iC, iD, *] at hc; done) | (exact absurd hc (by decide)) | (with_reducible (have hcc : true = true := hc); clear hcc hc) | (with_reducible (have hcc : false = false := hc); clear hcc hc) | ((try simp only [Bool.not_true, Bool.not_false] at hc); (first | (with_reducible (have hcc : true = true := hc); clear hcc hc) | (with_reducible (have hcc : false = false := hc); clear hcc hc) | (have hp := hc; (try simp only [decide_eq_true_eq, decide_eq_false_iff_not, bA, bB, bC, bD, bE, bF, bG, bH] at hp))))))
    | (refine Kn.go hK ?_; clear hK K)
    | refine Kn.go (by assumption) ?_
    | (intro n hn; (try simp only [upd_none2, join_none_iff, ite_none, ne_eq] at hn); (try simp only [push_cast, reduceIte, nA, nB, nC, reduceCtorEq, nD, nE, nF, nG, iA, iB, iC, iD, *]))
    | (intro hc)
    | fail)
  exact ⟨_, H2, Weak.less l1, unhid l2⟩
structure Told28 where
  n : Nt
  num : Int
  p : Pk
  gone : Int
  e : Int
def Told28.av (t : Told28) : List AV := [.c (.int .u64 t.n.sent), .l 4 (t.n.ps.map Pk.av), .c (.int .u64 t.num), .c (.int .u64 t.p.num), .c (.int .i64 t.p.fr), .c (.int .i64 t.p.to), .l 1 (t.p.bs.map by1), .c (.int .i64 t.gone), .c (.int .i64 t.e)]
def kind28 (o : Op28) : Nat := uw o.kd % 7
def run28 (o : Op28) (n : Nt) : Told28 :=
  if kind28 o < 3 then ⟨sendS n o.fr o.to (o.bs.take 30001), (sendS n o.fr o.to (o.bs.take 30001)).sent, zPk, 0, sendE n o.fr o.to (o.bs.take 30001)⟩
  else if kind28 o < 5 then ⟨comeS n (numO o n) o.st, 0, comeP n (numO o n), 0, comeE n (numO o n)⟩
  else if kind28 o = 5 then ⟨comeS n (numO o n) false, 0, zPk, 0, comeE n (numO o n)⟩
  else ⟨cutS n o.fr, 0, zPk, cutC n o.fr, cutE n o.fr⟩

theorem run28_p (o : Op28) (n : Nt) (hz : Sz n) (hs0 : 0 ≤ n.sent) (hb : o.bs.length ≤ maxLen) : Pure Try.prog 20 [.g (Op28.av o), .g (Nt.av n)] (.g (Told28.av (run28 o n))) := by
  intro H
  have hl : n.ps.length ≤ 1000000 := by have := hz.l; omega
  have hby := bytes28_o o hb
  have hse := send_p n hz hs0 o.fr o.to (o.bs.take 30001) (by simp; omega)
  have hnu := num_p o n hl
  have hco := come_p n hz (numO o n) o.st
  have hlo := lose_p n hz (numO o n)
  have hcu := cut_p n hz o.fr
  have hmod : ((uw o.kd : Nat) : Int).tmod 7 = ((uw o.kd % 7 : Nat) : Int) := by rw [show (7 : Int) = ((7 : Nat) : Int) from rfl, tmod_nat]
  have hK : kind28 o = uw o.kd % 7 := rfl
  have huk := uw_eq o.kd
  have hC : (o.bs.take 30001).length ≤ 30001 := by simp; omega
  have hrun : run28 o n = if kind28 o < 3 then ⟨sendS n o.fr o.to (o.bs.take 30001), (sendS n o.fr o.to (o.bs.take 30001)).sent, zPk, 0, sendE n o.fr o.to (o.bs.take 30001)⟩ else if kind28 o < 5 then ⟨comeS n (numO o n) o.st, 0, comeP n (numO o n), 0, comeE n (numO o n)⟩ else if kind28 o = 5 then ⟨comeS n (numO o n) false, 0, zPk, 0, comeE n (numO o n)⟩ else ⟨cutS n o.fr, 0, zPk, cutC n o.fr, cutE n o.fr⟩ := rfl
  rw [← hK] at hmod
  have hK7 : kind28 o < 7 := by rw [hK]; omega
  clear hK hz hl hb
  generalize kind28 o = kd at *
  obtain ⟨okd, fr, to, at_, st, ot, bs⟩ := o
  simp only at hby hse hnu hco hlo hcu hmod hrun huk hC
  generalize numO ⟨okd, fr, to, at_, st, ot, bs⟩ n = num at *
  generalize bs.take 30001 = C at *
  generalize sendS n fr to C = S1 at *
  generalize sendE n fr to C = E1' at *
  generalize comeS n num st = S2 at *
  generalize comeS n num false = S3 at *
  generalize comeP n num = P2 at *
  generalize comeE n num = E2' at *
  generalize cutS n fr = S4 at *
  generalize cutC n fr = C4 at *
  generalize cutE n fr = E4' at *
  generalize uw okd = uk at *
  obtain ⟨sent, l⟩ := n
  obtain ⟨S1a, S1b⟩ := S1
  obtain ⟨S2a, S2b⟩ := S2
  obtain ⟨S3a, S3b⟩ := S3
  obtain ⟨S4a, S4b⟩ := S4
  obtain ⟨P2a, P2b, P2c, P2d⟩ := P2
  simp only [Nt.av, Pk.av] at hse hnu hco hlo hcu
  clear hs0
  by_cases k3 : kd < 3
  · rw [if_pos k3] at hrun
    rw [hrun]
    clear hco hlo hcu hnu hrun
    replace hse := Lib.hid hse
    replace hby := Lib.hid hby
    have k7 : (kd = 0 ∧ ((kd : Int) = 0) = True) ∨ (kd = 1 ∧ ((kd : Int) = 1) = True ∧ ¬ (kd : Int) = 0) ∨ (((kd : Int) = 2) = True ∧ ¬ (kd : Int) = 0 ∧ ¬ (kd : Int) = 1) := by
      rcases (by omega : kd = 0 ∨ kd = 1 ∨ kd = 2) with rfl | rfl | rfl <;> simp
    have hCl : C.length ≤ 30001 := hC
    clear k3
    rcases k7 with ⟨-, c1⟩ | ⟨-, c1, c2⟩ | ⟨c1, c2, c3⟩
    all_goals
      refine ACall_of' Try.func20 rfl (Ent_of Try.func20 (by kernel_rfl) rfl) (by simp [Try.ntmps20]) ?_; simp only [Try.ntmps20, Try.results20]
      repeat' (first
    | refine AW_seq_kn fun K hK => ?_
    | refine AW_block ?_
    | (refine does_call rfl rfl ?_; simp only [push_cast, reduceIte, nA, nB, nC, reduceCtorEq, nD, nE, nF, nG, iA, iB, iC, iD, *]; refine ACall.mono (num_p ⟨_, _, _, _, _, _, _⟩ ⟨_, _⟩ (by assumption) _) ?_; (rintro _ _ ⟨rfl, e2⟩; have e3 := e2.symm; clear e2; subst e3); (try simp only [push_cast, reduceIte, nA, nB, nC, reduceCtorEq, nD, nE, nF, nG, iA, iB, iC, iD, *]))
    | ((first
      | refine AW_region_draw (id := 15) E1 (fun f => [].contains f) dLS2 dAS2 mixed (by kernel_rfl) ?_
      | refine AW_region_draw (id := 17) E1 (fun f => [].contains f) dLS3 dAS3 mixed (by kernel_rfl) ?_
      | refine AW_region E1 ?_ | refine AW_ret ?_ | refine AW_exit ?_ | refine AW_skip ?_ | unfold retQ); try simp only [push_cast, reduceIte, nA, nB, nC, reduceCtorEq, nD, nE, nF, nG, iA, iB, iC, iD, *])
    | (apply AW_cond; (case hc => (simp only [push_cast, reduceIte, nA, nB, nC, reduceCtorEq, nD, nE, nF, nG, iA, iB, iC, iD]; rfl)); all_goals (intro hc; first | (exfalso; simp only [push_cast, reduceIte, nA, nB, nC, reduceCtorEq, nD, nE, nF, nG, iA, iB, iC, iD, *] at hc; done) | (exact absurd hc (by decide)) | (with_reducible (have hcc : true = true := hc); clear hcc hc) | (with_reducible (have hcc : false = false := hc); clear hcc hc) | ((try simp only [Bool.not_true, Bool.not_false] at hc); (first | (with_reducible (have hcc : true = true := hc); clear hcc hc) | (with_reducible (have hcc : false = false := hc); clear hcc hc) | (have hp := hc; (try simp only [decide_eq_true_eq, decide_eq_false_iff_not, bA, bB, bC, bD, bE, bF, bG, bH] at hp))))))
    | (refine Kn.go hK ?_; clear hK K)
    | refine Kn.go (by assumption) ?_
    | (intro n hn; (try simp only [upd_none2, join_none_iff, ite_none, ne_eq] at hn); (try simp only [push_cast, reduceIte, nA, nB, nC, reduceCtorEq, nD, nE, nF, nG, iA, iB, iC, iD, *]))
    | (intro hc)
    | fail)
      rename_i m2 h2 m3 h3 KK hKK
      generalize n = m4 at *
      obtain ⟨Hs, hHs⟩ : ∃ Hs : Heap, Hs = upd (upd (upd H m2 (.r 44 7 1 [[.c (.int .i64 okd), .c (.int .i64 fr), .c (.int .i64 to), .c (.int .i64 at_), .c (.bool st), .c (.bool ot), .l 1 (bs.map by1)]])) m3 (.r 25 2 1 [[.c (.int .u64 sent), .l 4 (l.map Pk.av)]])) m4 (.r 47 9 1 [[.c (.int .u64 0), .c (.slice none 0 0), .c (.int .u64 0), .c (.int .u64 0), .c (.int .i64 0), .c (.int .i64 0), .c (.slice none 0 0), .c (.int .i64 0), .c (.int .i64 0)]]) := ⟨_, rfl⟩
      have g2 : Hs m2 = some (.r 44 7 1 [[.c (.int .i64 okd), .c (.int .i64 fr), .c (.int .i64 to), .c (.int .i64 at_), .c (.bool st), .c (.bool ot), .l 1 (bs.map by1)]]) := by rw [hHs]; simp only [push_cast, reduceIte, nA, nB, nC, reduceCtorEq, nD, nE, nF, nG, iA, iB, iC, iD, *]
      have g3 : Hs m3 = some (.r 25 2 1 [[.c (.int .u64 sent), .l 4 (l.map Pk.av)]]) := by rw [hHs]; simp only [push_cast, reduceIte, nA, nB, nC, reduceCtorEq, nD, nE, nF, nG, iA, iB, iC, iD, *]
      have g4 : Hs m4 = some (.r 47 9 1 [[.c (.int .u64 0), .c (.slice none 0 0), .c (.int .u64 0), .c (.int .u64 0), .c (.int .i64 0), .c (.int .i64 0), .c (.slice none 0 0), .c (.int .i64 0), .c (.int .i64 0)]]) := by rw [hHs]; exact upd_same _ _ _
      have hm4 : H m4 = none := hn.2.2
      have hle : Heap.le H Hs := by rw [hHs]; (repeat' (first | exact Heap.le_refl _ | refine hle_upd2 ?_ _ _ | (refine Heap.le_new ?_ ?_; rotate_left 1; focus (first | assumption | (simp only [upd_none2, upd_get, ne_eq, push_cast, reduceIte, nA, nB, nC, reduceCtorEq, nD, nE, nF, nG, iA, iB, iC, iD, *]; done) | (simp [upd_get, *]; done)))))
      rw [← hHs]
      clear hHs h2 h3 hn
      refine does_call rfl rfl ?_
      simp only [push_cast, reduceIte, nA, nB, nC, reduceCtorEq, nD, nE, nF, nG, iA, iB, iC, iD, *]
      refine ACall.mono (unhid hby _) ?_
      intro xb B hown
      have k2 := hown.get g2
      have k3 := hown.get g3
      have k4 := hown.get g4
      have hcs := hown.cs
      have hlv := hown.len
      rw [List.length_map] at hlv
      have hse2 := unhid hse xb B (Rd.own hown)
      have hown2 := hown.turn g4 (.r 47 9 1 [[.c (.int .u64 S1a), .l 4 (S1b.map Pk.av), .c (.int .u64 S1a), .c (.int .u64 0), .c (.int .i64 0), .c (.int .i64 0), .c (.slice none 0 0), .c (.int .i64 0), .c (.int .i64 E1')]])
      clear hse hby hown g2 g3
      replace hown2 := Lib.hid hown2
      (try simp only [push_cast, reduceIte, nA, nB, nC, reduceCtorEq, nD, nE, nF, nG, iA, iB, iC, iD, *])
      repeat' (first
    | refine AW_seq_kn fun K hK => ?_
    | refine AW_block ?_
    | (refine does_call rfl rfl ?_; simp only [push_cast, reduceIte, nA, nB, nC, reduceCtorEq, nD, nE, nF, nG, iA, iB, iC, iD, *]; refine ACall.mono hse2 ?_; (rintro _ _ ⟨rfl, e2⟩; have e3 := e2.symm; clear e2; subst e3); (try simp only [push_cast, reduceIte, nA, nB, nC, reduceCtorEq, nD, nE, nF, nG, iA, iB, iC, iD, *]))
    | (refine does_call rfl rfl ?_; simp only [push_cast, reduceIte, nA, nB, nC, reduceCtorEq, nD, nE, nF, nG, iA, iB, iC, iD, *]; refine ACall.mono (num_p ⟨_, _, _, _, _, _, _⟩ ⟨_, _⟩ (by assumption) _) ?_; (rintro _ _ ⟨rfl, e2⟩; have e3 := e2.symm; clear e2; subst e3); (try simp only [push_cast, reduceIte, nA, nB, nC, reduceCtorEq, nD, nE, nF, nG, iA, iB, iC, iD, *]))
    | ((first
      | refine AW_region_draw (id := 15) E1 (fun f => [].contains f) dLS2 dAS2 mixed (by kernel_rfl) ?_
      | refine AW_region_draw (id := 17) E1 (fun f => [].contains f) dLS3 dAS3 mixed (by kernel_rfl) ?_
      | refine AW_region E1 ?_ | refine AW_ret ?_ | refine AW_exit ?_ | refine AW_skip ?_ | unfold retQ); try simp only [push_cast, reduceIte, nA, nB, nC, reduceCtorEq, nD, nE, nF, nG, iA, iB, iC, iD, *])
    | (apply AW_cond; (case hc => (simp only [push_cast, reduceIte, nA, nB, nC, reduceCtorEq, nD, nE, nF, nG, iA, iB, iC, iD]; rfl)); all_goals (intro hc; first | (exfalso; simp only [push_cast, reduceIte, nA, nB, nC, reduceCtorEq, nD, nE, nF, nG, iA, iB, iC, iD, *] at hc; done) | (exact absurd hc (by decide)) | (with_reducible (have hcc : true = true := hc); clear hcc hc) | (with_reducible (have hcc : false = false := hc); clear hcc hc) | ((try simp only [Bool.not_true, Bool.not_false] at hc); (first | (with_reducible (have hcc : true = true := hc); clear hcc hc) | (with_reducible (have hcc : false = false := hc); clear hcc hc) | (have hp := hc; (try simp only [decide_eq_true_eq, decide_eq_false_iff_not, bA, bB, bC, bD, bE, bF, bG, bH] at hp))))))
    | (refine Kn.go hK ?_; clear hK K)
    | refine Kn.go (by assumption) ?_
    | (intro n hn; (try simp only [upd_none2, join_none_iff, ite_none, ne_eq] at hn); (try simp only [push_cast, reduceIte, nA, nB, nC, reduceCtorEq, nD, nE, nF, nG, iA, iB, iC, iD, *]))
    | (intro hc)
    | fail)
      obtain ⟨B2, hB2⟩ : ∃ B2 : Heap, B2 = upd B m4 (.r 47 9 1 [[.c (.int .u64 S1a), .l 4 (S1b.map Pk.av), .c (.int .u64 S1a), .c (.int .u64 0), .c (.int .i64 0), .c (.int .i64 0), .c (.slice none 0 0), .c (.int .i64 0), .c (.int .i64 E1')]]) := ⟨_, rfl⟩
      obtain ⟨H2, hH2⟩ : ∃ H2 : Heap, H2 = upd Hs m4 (.r 47 9 1 [[.c (.int .u64 S1a), .l 4 (S1b.map Pk.av), .c (.int .u64 S1a), .c (.int .u64 0), .c (.int .i64 0), .c (.int .i64 0), .c (.slice none 0 0), .c (.int .i64 0), .c (.int .i64 E1')]]) := ⟨_, rfl⟩
      have j4 : H2 m4 = some (.r 47 9 1 [[.c (.int .u64 S1a), .l 4 (S1b.map Pk.av), .c (.int .u64 S1a), .c (.int .u64 0), .c (.int .i64 0), .c (.int .i64 0), .c (.slice none 0 0), .c (.int .i64 0), .c (.int .i64 E1')]]) := by rw [hH2]; exact upd_same _ _ _
      have hle2 : Heap.le H H2 := fun q b hq => by
        have c4 : ¬ q = m4 := by rintro rfl; rw [hm4] at hq; cases hq
        rw [hH2, upd_ne c4]; exact hle _ _ hq
      have hown3 : OwnL B2 xb 5 1 (C.map by1) H2 := by rw [hB2, hH2]; exact unhid hown2
      rw [← hB2]
      clear hown2 hH2 hB2 k2 k3 k4 hse2 g4 hle hlv
      refine AW_loopX (σ := List Int × Heap) C.length (fun k s => s.1.length = C.length ∧ OwnL s.2 xb 5 1 (s.1.map by1) H2) (fun k s => [(4, .p m4 9 0 0), (5, xb), (43, ci C.length), (44, ci k)]) (fun _ s => s.2) (C, B2) ⟨rfl, hown3⟩ ?_ ?_ ?_ ?_
      · (first | trivial | (simp only [push_cast, reduceIte, nA, nB, nC, reduceCtorEq, nD, nE, nF, nG, iA, iB, iC, iD, *]; done))
      · exact Heap.le_refl _
      · rintro k ⟨R, B'⟩ hk ⟨hRl, ho⟩
        simp only at hRl ho
        obtain ⟨z, hz⟩ : ∃ z, R[k]? = some z := ⟨_, List.getElem?_eq_getElem (by omega)⟩
        rcases ho.split with ⟨ad, rfl, e0, e1⟩ | ⟨m, cap, rfl, e1, hm⟩
        · exfalso; rw [List.map_eq_nil_iff.1 e0] at hz; simp at hz
        simp only [List.length_map, hRl] at hcs ho e1 hown3 ⊢
        have hkI : (k : Int) < C.length := by omega
        have hkw : IntKind.i64.wrap ((k : Int) + 1) = (k : Int) + 1 := wrap_i64 (by omega) (by omega)
        have km : B' m = some (.r 5 1 cap (R.map by1)) := by rw [e1]; exact upd_same _ _ _
        have hby1 : by1 z = [.c (.int .u8 z)] := rfl
        have hset : (R.map by1).set k [.c (.int .u8 (bits .xor .u8 z 238))] = (R.set k (bits .xor .u8 z 238)).map by1 := by rw [List.map_set]; rfl
        have hB'' : upd B' m (.r 5 1 cap ((R.set k (bits .xor .u8 z 238)).map by1)) = upd H2 m (.r 5 1 cap ((R.set k (bits .xor .u8 z 238)).map by1)) := by rw [e1, upd_upd]
        have ho2 : OwnL (upd H2 m (.r 5 1 cap ((R.set k (bits .xor .u8 z 238)).map by1))) (.s m 1 0 C.length cap) 5 1 ((R.set k (bits .xor .u8 z 238)).map by1) H2 := OwnL.at (by simp [hRl]) hm
        clear ho e1 hm hown3 hle2 j4
        replace ho2 := Lib.hid ho2
        replace hB'' := Lib.hid hB''
        replace hRl := Lib.hid hRl
        repeat' (first
    | refine AW_seq_kn fun K hK => ?_
    | refine AW_block ?_
    | (refine does_call rfl rfl ?_; simp only [push_cast, reduceIte, nA, nB, nC, reduceCtorEq, nD, nE, nF, nG, iA, iB, iC, iD, *]; refine ACall.mono (num_p ⟨_, _, _, _, _, _, _⟩ ⟨_, _⟩ (by assumption) _) ?_; (rintro _ _ ⟨rfl, e2⟩; have e3 := e2.symm; clear e2; subst e3); (try simp only [push_cast, reduceIte, nA, nB, nC, reduceCtorEq, nD, nE, nF, nG, iA, iB, iC, iD, *]))
    | ((first
      | refine AW_region_draw (id := 15) E1 (fun f => [].contains f) dLS2 dAS2 mixed (by kernel_rfl) ?_
      | refine AW_region_draw (id := 17) E1 (fun f => [].contains f) dLS3 dAS3 mixed (by kernel_rfl) ?_
      | refine AW_region E1 ?_ | refine AW_ret ?_ | refine AW_exit ?_ | refine AW_skip ?_ | unfold retQ); try simp only [push_cast, reduceIte, nA, nB, nC, reduceCtorEq, nD, nE, nF, nG, iA, iB, iC, iD, *])
    | (apply AW_cond; (case hc => (simp only [push_cast, reduceIte, nA, nB, nC, reduceCtorEq, nD, nE, nF, nG, iA, iB, iC, iD]; rfl)); all_goals (intro hc; first | (exfalso; simp only [push_cast, reduceIte, nA, nB, nC, reduceCtorEq, nD, nE, nF, nG, iA, iB, iC, iD, *] at hc; done) | (exact absurd hc (by decide)) | (with_reducible (have hcc : true = true := hc); clear hcc hc) | (with_reducible (have hcc : false = false := hc); clear hcc hc) | ((try simp only [Bool.not_true, Bool.not_false] at hc); (first | (with_reducible (have hcc : true = true := hc); clear hcc hc) | (with_reducible (have hcc : false = false := hc); clear hcc hc) | (have hp := hc; (try simp only [decide_eq_true_eq, decide_eq_false_iff_not, bA, bB, bC, bD, bE, bF, bG, bH] at hp))))))
    | (refine Kn.go hK ?_; clear hK K)
    | refine Kn.go (by assumption) ?_
    | (intro n hn; (try simp only [upd_none2, join_none_iff, ite_none, ne_eq] at hn); (try simp only [push_cast, reduceIte, nA, nB, nC, reduceCtorEq, nD, nE, nF, nG, iA, iB, iC, iD, *]))
    | (intro hc)
    | fail)
        exact ⟨(R.set k (bits .xor .u8 z 238), _), ⟨by simp only [List.length_set]; exact unhid hRl, unhid ho2⟩, by (first | trivial | (simp only [push_cast, reduceIte, nA, nB, nC, reduceCtorEq, nD, nE, nF, nG, iA, iB, iC, iD, *]; done)), by rw [unhid hB'']; exact Heap.le_refl _⟩
      · rintro ⟨R, B'⟩ ⟨hRl, ho⟩
        have k4 := ho.get j4
        have hBl := ho.le
        simp only at k4 hBl
        clear ho hown3
        repeat' (first
    | refine AW_seq_kn fun K hK => ?_
    | refine AW_block ?_
    | (refine does_call rfl rfl ?_; simp only [push_cast, reduceIte, nA, nB, nC, reduceCtorEq, nD, nE, nF, nG, iA, iB, iC, iD, *]; refine ACall.mono (num_p ⟨_, _, _, _, _, _, _⟩ ⟨_, _⟩ (by assumption) _) ?_; (rintro _ _ ⟨rfl, e2⟩; have e3 := e2.symm; clear e2; subst e3); (try simp only [push_cast, reduceIte, nA, nB, nC, reduceCtorEq, nD, nE, nF, nG, iA, iB, iC, iD, *]))
    | ((first
      | refine AW_region_draw (id := 15) E1 (fun f => [].contains f) dLS2 dAS2 mixed (by kernel_rfl) ?_
      | refine AW_region_draw (id := 17) E1 (fun f => [].contains f) dLS3 dAS3 mixed (by kernel_rfl) ?_
      | refine AW_region E1 ?_ | refine AW_ret ?_ | refine AW_exit ?_ | refine AW_skip ?_ | unfold retQ); try simp only [push_cast, reduceIte, nA, nB, nC, reduceCtorEq, nD, nE, nF, nG, iA, iB, iC, iD, *])
    | (apply AW_cond; (case hc => (simp only [push_cast, reduceIte, nA, nB, nC, reduceCtorEq, nD, nE, nF, nG, iA, iB, iC, iD]; rfl)); all_goals (intro hc; first | (exfalso; simp only [push_cast, reduceIte, nA, nB, nC, reduceCtorEq, nD, nE, nF, nG, iA, iB, iC, iD, *] at hc; done) | (exact absurd hc (by decide)) | (with_reducible (have hcc : true = true := hc); clear hcc hc) | (with_reducible (have hcc : false = false := hc); clear hcc hc) | ((try simp only [Bool.not_true, Bool.not_false] at hc); (first | (with_reducible (have hcc : true = true := hc); clear hcc hc) | (with_reducible (have hcc : false = false := hc); clear hcc hc) | (have hp := hc; (try simp only [decide_eq_true_eq, decide_eq_false_iff_not, bA, bB, bC, bD, bE, bF, bG, bH] at hp))))))
    | (refine Kn.go hK ?_; clear hK K)
    | refine Kn.go (by assumption) ?_
    | (intro n hn; (try simp only [upd_none2, join_none_iff, ite_none, ne_eq] at hn); (try simp only [push_cast, reduceIte, nA, nB, nC, reduceCtorEq, nD, nE, nF, nG, iA, iB, iC, iD, *]))
    | (intro hc)
    | fail)
        refine ⟨_, H, Weak.imp ?_ ?_, rfl, rfl⟩
        · (intros; repeat (first | assumption | exact Imp.refl (Mem.le.refl _) _ | exact Imp.refl (by assumption) _ | exact Imp.nil_l _ | refine Imp.t ?_ | refine Imp.g ?_ | exact Imps.nil | refine Imps.cons ?_ (by intro hh; first | rfl | (cases hh; done)) ?_))
        · intro q b hq
          have c4 : ¬ q = m4 := by rintro rfl; rw [hm4] at hq; cases hq
          simp only [upd_get, c4, if_false]
          exact hBl _ _ (hle2 _ _ hq)
  rw [if_neg k3] at hrun
  have d0 : ¬ (kd : Int) = 0 := by omega
  have d1 : ¬ (kd : Int) = 1 := by omega
  have d2 : ¬ (kd : Int) = 2 := by omega
  by_cases k5 : kd < 5
  · rw [if_pos k5] at hrun
    rw [hrun]
    clear hse hby hlo hcu hrun
    have k7 : (((kd : Int) = 3) = True) ∨ (¬ (kd : Int) = 3 ∧ ((kd : Int) = 4) = True) := by
      rcases (by omega : kd = 3 ∨ kd = 4) with rfl | rfl <;> simp
    clear k3 k5
    rcases k7 with c1 | ⟨c1, c2⟩
    all_goals
      refine ACall_of' Try.func20 rfl (Ent_of Try.func20 (by kernel_rfl) rfl) (by simp [Try.ntmps20]) ?_; simp only [Try.ntmps20, Try.results20]
      repeat' (first
    | refine AW_seq_kn fun K hK => ?_
    | refine AW_block ?_
    | (refine does_call rfl rfl ?_; simp only [push_cast, reduceIte, nA, nB, nC, reduceCtorEq, nD, nE, nF, nG, iA, iB, iC, iD, *]; refine ACall.mono (hnu _) ?_; (rintro _ _ ⟨rfl, e2⟩; have e3 := e2.symm; clear e2; subst e3); (try simp only [push_cast, reduceIte, nA, nB, nC, reduceCtorEq, nD, nE, nF, nG, iA, iB, iC, iD, *]))
    | (refine does_call rfl rfl ?_; simp only [push_cast, reduceIte, nA, nB, nC, reduceCtorEq, nD, nE, nF, nG, iA, iB, iC, iD, *]; refine ACall.mono (hco _) ?_; (rintro _ _ ⟨rfl, e2⟩; have e3 := e2.symm; clear e2; subst e3); (try simp only [push_cast, reduceIte, nA, nB, nC, reduceCtorEq, nD, nE, nF, nG, iA, iB, iC, iD, *]))
    | (refine does_call rfl rfl ?_; simp only [push_cast, reduceIte, nA, nB, nC, reduceCtorEq, nD, nE, nF, nG, iA, iB, iC, iD, *]; refine ACall.mono (num_p ⟨_, _, _, _, _, _, _⟩ ⟨_, _⟩ (by assumption) _) ?_; (rintro _ _ ⟨rfl, e2⟩; have e3 := e2.symm; clear e2; subst e3); (try simp only [push_cast, reduceIte, nA, nB, nC, reduceCtorEq, nD, nE, nF, nG, iA, iB, iC, iD, *]))
    | ((first
      | refine AW_region_draw (id := 15) E1 (fun f => [].contains f) dLS2 dAS2 mixed (by kernel_rfl) ?_
      | refine AW_region_draw (id := 17) E1 (fun f => [].contains f) dLS3 dAS3 mixed (by kernel_rfl) ?_
      | refine AW_region E1 ?_ | refine AW_ret ?_ | refine AW_exit ?_ | refine AW_skip ?_ | unfold retQ); try simp only [push_cast, reduceIte, nA, nB, nC, reduceCtorEq, nD, nE, nF, nG, iA, iB, iC, iD, *])
    | (apply AW_cond; (case hc => (simp only [push_cast, reduceIte, nA, nB, nC, reduceCtorEq, nD, nE, nF, nG, iA, iB, iC, iD]; rfl)); all_goals (intro hc; first | (exfalso; simp only [push_cast, reduceIte, nA, nB, nC, reduceCtorEq, nD, nE, nF, nG, iA, iB, iC, iD, *] at hc; done) | (exact absurd hc (by decide)) | (with_reducible (have hcc : true = true := hc); clear hcc hc) | (with_reducible (have hcc : false = false := hc); clear hcc hc) | ((try simp only [Bool.not_true, Bool.not_false] at hc); (first | (with_reducible (have hcc : true = true := hc); clear hcc hc) | (with_reducible (have hcc : false = false := hc); clear hcc hc) | (have hp := hc; (try simp only [decide_eq_true_eq, decide_eq_false_iff_not, bA, bB, bC, bD, bE, bF, bG, bH] at hp))))))
    | (refine Kn.go hK ?_; clear hK K)
    | refine Kn.go (by assumption) ?_
    | (intro n hn; (try simp only [upd_none2, join_none_iff, ite_none, ne_eq] at hn); (try simp only [push_cast, reduceIte, nA, nB, nC, reduceCtorEq, nD, nE, nF, nG, iA, iB, iC, iD, *]))
    | (intro hc)
    | fail)
    all_goals exact ⟨_, _, Weak.less (by (simp only [push_cast, reduceIte, nA, nB, nC, reduceCtorEq, nD, nE, nF, nG, iA, iB, iC, iD, *])), rfl, rfl⟩
  rw [if_neg k5] at hrun
  have d3 : ¬ (kd : Int) = 3 := by omega
  have d4 : ¬ (kd : Int) = 4 := by omega
  by_cases k6 : kd = 5
  · rw [if_pos k6] at hrun
    rw [hrun]
    clear hse hby hco hcu hrun
    have c1 : ((kd : Int) = 5) = True := by simp [k6]
    clear k3 k5 k6
    refine ACall_of' Try.func20 rfl (Ent_of Try.func20 (by kernel_rfl) rfl) (by simp [Try.ntmps20]) ?_; simp only [Try.ntmps20, Try.results20]
    repeat' (first
    | refine AW_seq_kn fun K hK => ?_
    | refine AW_block ?_
    | (refine does_call rfl rfl ?_; simp only [push_cast, reduceIte, nA, nB, nC, reduceCtorEq, nD, nE, nF, nG, iA, iB, iC, iD, *]; refine ACall.mono (hnu _) ?_; (rintro _ _ ⟨rfl, e2⟩; have e3 := e2.symm; clear e2; subst e3); (try simp only [push_cast, reduceIte, nA, nB, nC, reduceCtorEq, nD, nE, nF, nG, iA, iB, iC, iD, *]))
    | (refine does_call rfl rfl ?_; simp only [push_cast, reduceIte, nA, nB, nC, reduceCtorEq, nD, nE, nF, nG, iA, iB, iC, iD, *]; refine ACall.mono (hlo _) ?_; (rintro _ _ ⟨rfl, e2⟩; have e3 := e2.symm; clear e2; subst e3); (try simp only [push_cast, reduceIte, nA, nB, nC, reduceCtorEq, nD, nE, nF, nG, iA, iB, iC, iD, *]))
    | (refine does_call rfl rfl ?_; simp only [push_cast, reduceIte, nA, nB, nC, reduceCtorEq, nD, nE, nF, nG, iA, iB, iC, iD, *]; refine ACall.mono (num_p ⟨_, _, _, _, _, _, _⟩ ⟨_, _⟩ (by assumption) _) ?_; (rintro _ _ ⟨rfl, e2⟩; have e3 := e2.symm; clear e2; subst e3); (try simp only [push_cast, reduceIte, nA, nB, nC, reduceCtorEq, nD, nE, nF, nG, iA, iB, iC, iD, *]))
    | ((first
      | refine AW_region_draw (id := 15) E1 (fun f => [].contains f) dLS2 dAS2 mixed (by kernel_rfl) ?_
      | refine AW_region_draw (id := 17) E1 (fun f => [].contains f) dLS3 dAS3 mixed (by kernel_rfl) ?_
      | refine AW_region E1 ?_ | refine AW_ret ?_ | refine AW_exit ?_ | refine AW_skip ?_ | unfold retQ); try simp only [push_cast, reduceIte, nA, nB, nC, reduceCtorEq, nD, nE, nF, nG, iA, iB, iC, iD, *])
    | (apply AW_cond; (case hc => (simp only [push_cast, reduceIte, nA, nB, nC, reduceCtorEq, nD, nE, nF, nG, iA, iB, iC, iD]; rfl)); all_goals (intro hc; first | (exfalso; simp only [push_cast, reduceIte, nA, nB, nC, reduceCtorEq, nD, nE, nF, nG, iA, iB, iC, iD, *] at hc; done) | (exact absurd hc (by decide)) | (with_reducible (have hcc : true = true := hc); clear hcc hc) | (with_reducible (have hcc : false = false := hc); clear hcc hc) | ((try simp only [Bool.not_true, Bool.not_false] at hc); (first | (with_reducible (have hcc : true = true := hc); clear hcc hc) | (with_reducible (have hcc : false = false := hc); clear hcc hc) | (have hp := hc; (try simp only [decide_eq_true_eq, decide_eq_false_iff_not, bA, bB, bC, bD, bE, bF, bG, bH] at hp))))))
    | (refine Kn.go hK ?_; clear hK K)
    | refine Kn.go (by assumption) ?_
    | (intro n hn; (try simp only [upd_none2, join_none_iff, ite_none, ne_eq] at hn); (try simp only [push_cast, reduceIte, nA, nB, nC, reduceCtorEq, nD, nE, nF, nG, iA, iB, iC, iD, *]))
    | (intro hc)
    | fail)
    refine ⟨_, H, Weak.imp ?_ (by (simp only [push_cast, reduceIte, nA, nB, nC, reduceCtorEq, nD, nE, nF, nG, iA, iB, iC, iD, *])), rfl, rfl⟩
    (intros; repeat (first | assumption | exact Imp.refl (Mem.le.refl _) _ | exact Imp.refl (by assumption) _ | exact Imp.nil_l _ | refine Imp.t ?_ | refine Imp.g ?_ | exact Imps.nil | refine Imps.cons ?_ (by intro hh; first | rfl | (cases hh; done)) ?_))
  · rw [if_neg k6] at hrun
    rw [hrun]
    clear hse hby hco hlo hrun
    have d5 : ¬ (kd : Int) = 5 := by omega
    clear k3 k5 k6
    refine ACall_of' Try.func20 rfl (Ent_of Try.func20 (by kernel_rfl) rfl) (by simp [Try.ntmps20]) ?_; simp only [Try.ntmps20, Try.results20]
    repeat' (first
    | refine AW_seq_kn fun K hK => ?_
    | refine AW_block ?_
    | (refine does_call rfl rfl ?_; simp only [push_cast, reduceIte, nA, nB, nC, reduceCtorEq, nD, nE, nF, nG, iA, iB, iC, iD, *]; refine ACall.mono (hcu _) ?_; (rintro _ _ ⟨rfl, e2⟩; have e3 := e2.symm; clear e2; subst e3); (try simp only [push_cast, reduceIte, nA, nB, nC, reduceCtorEq, nD, nE, nF, nG, iA, iB, iC, iD, *]))
    | (refine does_call rfl rfl ?_; simp only [push_cast, reduceIte, nA, nB, nC, reduceCtorEq, nD, nE, nF, nG, iA, iB, iC, iD, *]; refine ACall.mono (num_p ⟨_, _, _, _, _, _, _⟩ ⟨_, _⟩ (by assumption) _) ?_; (rintro _ _ ⟨rfl, e2⟩; have e3 := e2.symm; clear e2; subst e3); (try simp only [push_cast, reduceIte, nA, nB, nC, reduceCtorEq, nD, nE, nF, nG, iA, iB, iC, iD, *]))
    | ((first
      | refine AW_region_draw (id := 15) E1 (fun f => [].contains f) dLS2 dAS2 mixed (by kernel_rfl) ?_
      | refine AW_region_draw (id := 17) E1 (fun f => [].contains f) dLS3 dAS3 mixed (by kernel_rfl) ?_
      | refine AW_region E1 ?_ | refine AW_ret ?_ | refine AW_exit ?_ | refine AW_skip ?_ | unfold retQ); try simp only [push_cast, reduceIte, nA, nB, nC, reduceCtorEq, nD, nE, nF, nG, iA, iB, iC, iD, *])
    | (apply AW_cond; (case hc => (simp only [push_cast, reduceIte, nA, nB, nC, reduceCtorEq, nD, nE, nF, nG, iA, iB, iC, iD]; rfl)); all_goals (intro hc; first | (exfalso; simp only [push_cast, reduceIte, nA, nB, nC, reduceCtorEq, nD, nE, nF, nG, iA, iB, iC, iD, *] at hc; done) | (exact absurd hc (by decide)) | (with_reducible (have hcc : true = true := hc); clear hcc hc) | (with_reducible (have hcc : false = false := hc); clear hcc hc) | ((try simp only [Bool.not_true, Bool.not_false] at hc); (first | (with_reducible (have hcc : true = true := hc); clear hcc hc) | (with_reducible (have hcc : false = false := hc); clear hcc hc) | (have hp := hc; (try simp only [decide_eq_true_eq, decide_eq_false_iff_not, bA, bB, bC, bD, bE, bF, bG, bH] at hp))))))
    | (refine Kn.go hK ?_; clear hK K)
    | refine Kn.go (by assumption) ?_
    | (intro n hn; (try simp only [upd_none2, join_none_iff, ite_none, ne_eq] at hn); (try simp only [push_cast, reduceIte, nA, nB, nC, reduceCtorEq, nD, nE, nF, nG, iA, iB, iC, iD, *]))
    | (intro hc)
    | fail)
    refine ⟨_, H, Weak.imp ?_ (by (simp only [push_cast, reduceIte, nA, nB, nC, reduceCtorEq, nD, nE, nF, nG, iA, iB, iC, iD, *])), rfl, rfl⟩
    (intros; repeat (first | assumption | exact Imp.refl (Mem.le.refl _) _ | exact Imp.refl (by assumption) _ | exact Imp.nil_l _ | refine Imp.t ?_ | refine Imp.g ?_ | exact Imps.nil | refine Imps.cons ?_ (by intro hh; first | rfl | (cases hh; done)) ?_))
end Go.Proofs.Ytiepahhneagjhaa
